/- Bytes are told as digits and read again: the walk. No condition. -/
import Derived.Test.YtdkjkdlpkjklmaaRHex
import Derived.Test.YtdkjkdlpkjklmaaRef2
import Derived.Test.YtdkjkdlpkjklmaaAlive1
import Derived.Test.YtdkjkdlpkjklmaaOpen
namespace Go.Proofs.Ytdkjkdlpkjklmaa.octetsTexts
open Go.ChangeShapes Go.WideShapes Go.ChangeAt Go.RowKit Go.ChangeMaps
set_option linter.unusedVariables false
set_option linter.unusedSimpArgs false
theorem from_hexL (l : List UInt8) : fromE (hexL l) = 0 ∧ fromL (hexL l) = l := by
  have h := okHex_hexL l
  unfold fromE fromL
  rw [if_pos h, if_pos h, hexL_length, show 2 * l.length / 2 = l.length by omega, bytes_hexL]
  exact ⟨rfl, rfl⟩
theorem fromE_cases (t : List UInt8) : (fromE t = 0 ∧ hexL (fromL t) = t) ∨ fromE t = 13 := by
  by_cases h : OkHex t
  · left
    unfold fromE fromL
    rw [if_pos h, if_pos h]
    exact ⟨rfl, hexL_bytes t h⟩
  · right
    unfold fromE
    rw [if_neg h]
theorem fromL_len (t : List UInt8) : (fromL t).length ≤ t.length := by
  by_cases h : OkHex t
  · unfold fromL; rw [if_pos h, bytesHex_length]; omega
  · unfold fromL; rw [if_neg h]; simp
set_option maxHeartbeats 1000000 in
theorem core (W : World) (ao : Option Addr) (n cap : Nat) (l t : List UInt8) (m : Nat) (hl : l.length = n) (hn : n ≤ cap) (hcap : cap ≤ 140737488351232) (hr : Rd W ao l) (ht : t.length = m) (hm : m ≤ 140737488351232) :
    Calls Try.prog 8 #[.slice ao n cap, .string ⟨t.toArray⟩] W fun e w' => e = .returned (.bool true) ∧ Below W.heap.size W w' := by
  have hf := fromL_len t
  rw [ht] at hf
  have Hlen := Lib.hid (fromL_len t)
  have Hx : (hexL l).length = 2 * n := by rw [hexL_length, hl]
  have Hfl := Lib.hid (from_hexL l)
  have Hcs := Lib.hid (fromE_cases t)
  have Hhl := Lib.hid hl
  clear hl
  have Hht := Lib.hid ht
  clear ht
  have Hhf := Lib.hid hf
  clear hf
  have HHx := Lib.hid Hx
  clear Hx
  go_enter Try.func8, Try.ntmps8
  go_wp2_with fail
  refine (hex_any ao n cap l W Hhl.out (by omega) hr).mono ?_
  rintro e w1 ⟨rfl, hb1⟩
  have hr1 := hr.below hb1
  go_wp2_with fail
  refine (fromhex_any (hexL l) (2 * n) w1 HHx.out (by omega)).mono ?_
  rintro e w2 ⟨c, rfl, hc, hb⟩
  rw [Hfl.out.1]
  rw [Hfl.out.2] at hc
  have hb2 := hb1.trans (hb.mono hb1.size)
  have hr2 := hr.below hb2
  clear hb hb1 hr1
  go_wp2_with fail
  refine (fromhex_any t m w2 Hht.out (by omega)).mono ?_
  rintro e w3 ⟨d, rfl, hd, hb⟩
  have hc3 := hc.later hb
  have hb3 := hb2.trans (hb.mono hb2.size)
  clear hb hb2 hr2 hc
  go_wp2_with fail
  refine (rfromhex_any t m w3 Hht.out (by omega)).mono ?_
  rintro e w4 ⟨wd, rfl, hwd, hb⟩
  have hc4 := hc3.later hb
  have hd4 := hd.later hb
  have hb4 := hb3.trans (hb.mono hb3.size)
  have hr4 := hr.below hb4
  clear hb hb3 hc3 hd
  obtain ⟨co, cc, hcv, hcc, hcm, hcr⟩ := hc4.rd
  obtain ⟨yo, yc, hdv, hdc, hdm, hdr⟩ := hd4.rd
  obtain ⟨zo, zc, hwv, hwc, hwm, hwr⟩ := hwd.rd
  rw [Hhl.out] at hcv hcc
  have hFm := Hhf.out
  generalize hL : fromL t = L at *
  generalize hE : fromE t = E at *
  have HL := Lib.hid hL
  have HE := Lib.hid hE
  generalize hq : L.length = q at *
  have Hq := Lib.hid hq
  clear hL hE hq hc4 hwd
  subst hcv hdv hwv
  go_wp2_with fail
  refine (same_true co ao n n cc cap l l w4 rfl Hhl.out Hhl.out (by omega) (by omega) hcr hr4).mono ?_
  rintro e w5 ⟨rfl, hdn⟩
  have hb5 := hb4.trans (hdn.below _)
  have hdr5 := hdn.rd hdr
  have hwr5 := hdn.rd hwr
  have hd5 := hd4.later (hdn.below _)
  clear hdr hwr hcr hr4 hb4 hdn hd4
  go_wp2_with fail
  refine (same_true yo zo q q yc zc L L w5 rfl Hq.out Hq.out (by omega) (by omega) hdr5 hwr5).mono ?_
  rintro e w6 ⟨rfl, hdn⟩
  have hb6 := hb5.trans (hdn.below _)
  have hdr6 := hdn.rd hdr5
  clear hdr5 hwr5 hb5 hdn hd5
  go_wp2_with fail
  refine (alive_any w6).mono ?_
  rintro e w7 ⟨rfl, hb⟩
  have hb7 := hb6.trans (hb.mono hb6.size)
  have hdr7 := hdr6.below hb
  have hr7 := hr.below hb7
  clear hb6 hdr6 hb
  go_wp2_with fail
  refine (rhex_any ao n cap l w7 Hhl.out (by omega) hr7).mono ?_
  rintro e w8 ⟨rfl, hb⟩
  have hb8 := hb7.trans (hb.mono hb7.size)
  have hdr8 := hdr7.below hb
  clear hb7 hdr7 hb hr7
  rcases Hcs.out with ⟨h0, h1⟩ | h0
  · have H1 := Lib.hid h1
    clear h1
    subst h0
    go_wp2_with fail
    refine (hex_any yo q yc L w8 Hq.out (by omega) hdr8).mono ?_
    rintro e w9 ⟨rfl, hb⟩
    have hb9 := hb8.trans (hb.mono hb8.size)
    rw [H1.out]
    go_wp2_with fail
    go_ret
    exact ⟨rfl, hb9⟩
  · subst h0
    go_wp2_with fail
    go_ret
    exact ⟨rfl, hb8⟩
theorem walk {H : Type} (enc : TypeId × Value → H) (W : World) (base : Nat) (v0 : Value) (d0 : DataW H) (p0 : List MemPlace) (v1 : Value) (d1 : DataW H) (p1 : List MemPlace)
    (k0 : Value.okWide Try.prog W .any base 23 v0) (k1 : Value.okWide Try.prog W .any base 9 v1)
    (h0 : DataW.Trod enc Try.prog W 0 (fun _ => true) true 23 v0 d0 p0) (h1 : DataW.Trod enc Try.prog W 0 (fun _ => true) true 9 v1 d1 p1)
    (hsz : (DataW.weightsEach Try.prog [23, 9] ([d0, d1] ++ [])).all (· ≤ reachBytes) = true) :
    Calls Try.prog 8 #[v0, v1] W fun e w' => e = .returned (.bool true) ∧ Below W.heap.size W w' := by
  simp only [DataW.weightsEach, List.cons_append, List.nil_append] at hsz
  obtain ⟨z0, zz⟩ := all_app hsz
  obtain ⟨z1, _⟩ := all_app zz
  obtain ⟨ao, n, cap, l, rfl, hl, hn, hcap, hr, hc⟩ := open_bytes Try.underlying23 Try.underlying5 (by kernel_rfl) (by kernel_rfl) k0 h0 z0
  obtain ⟨s, rfl, rfl, rfl, _⟩ := open_string Try.underlying9 k1 h1
  obtain ⟨⟨t⟩⟩ := s
  have hm : t.length ≤ 140737488351232 := by
    simp [DataW.weights, reachBytes] at z1
    exact of_decide_eq_true z1
  exact core W ao n cap l t t.length hl hn hcap hr rfl hm
end Go.Proofs.Ytdkjkdlpkjklmaa.octetsTexts
