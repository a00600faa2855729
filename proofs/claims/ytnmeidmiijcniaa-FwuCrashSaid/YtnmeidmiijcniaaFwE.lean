/- The program's Encode of metadata. No condition. -/
import Derived.Test.YtnmeidmiijcniaaFwM
import Derived.Test.YtnmeidmiijcniaaPut
import Derived.Test.YtnmeidmiijcniaaCrc
import Derived.Test.YtnmeidmiijcniaaGr
import Derived.Lib.SlBytesConst
import Derived.ArgAppend
import Derived.Test.YtnmeidmiijcniaaAppY
set_option linter.unusedVariables false
set_option linter.unusedSimpArgs false
namespace Go.Proofs.Ytnmeidmiijcniaa
open Go.RowKit
/-- append(s, x...) of bytes that are not the call's own, and without room: a new list -/
theorem wpList_append_full {P : Program} {T E : TypeId} (R : ByteRow P T E) {w : World} {ops : Array Oper} {rest : List Oper} {o : Oper} {a : Act} {Q : Exit → Act → World → Prop} (hgd : o.guard = none) (s x : Operand)
    (ho : o.op = .call { callee := .builtin .append, args := #[s, x], argTypes := #[T, T] })
    (a1 : Addr) (n cap : Nat) (l1 : List UInt8) (hs : a.eval s = .slice (some a1) n cap) (hl1 : l1.length = n) (hr1 : Rd w (some a1) l1)
    (a2 : Addr) (m c : Nat) (l2 : List UInt8) (hx : a.eval x = .slice (some a2) m c) (hl2 : l2.length = m) (hr2 : Rd w (some a2) l2) (N : Nat) (hN : n + m = N) (h0 : 0 < N) (hfull : cap < n + m) (hbytes : n + m ≤ 140737488355328)
    (h : ∀ g C w', Own E w' w.heap.size (.slice (some ⟨g, 0, none⟩) N C) (l1 ++ l2) → Below w.heap.size w w' → wpList P ops Q rest (a.put o.dst (.slice (some ⟨g, 0, none⟩) N C)) w') : wpList P ops Q (o :: rest) a w := by
  obtain ⟨i, hi, hz0, hz1, hz2⟩ := info_parts R.info
  obtain ⟨v', w', hrun, h1, h2⟩ := run_append_arg_grows (P := P) (w := w) T o.type E i (.int .u8 0) 1 1 R.ht hi hz0 hz1 hz2 rfl (by decide) a1 n cap (l1.map bv) (by simp [hl1]) hr1.news a2 m c (l2.map bv) (by simp [hl2]) hr2.news hfull (by simp only [maxLen]; omega) (by omega)
  have ho' : Own E w' w.heap.size v' (l1 ++ l2) := by
    unfold Own
    rw [List.length_append, List.map_append, hl1, hl2]
    exact h1
  have hb := below_grown h2
  rcases ho'.cases with ⟨_, h3⟩ | ⟨g, C, rfl, _⟩
  · exfalso
    have h4 := congrArg List.length h3
    rw [List.length_append] at h4
    simp only [List.length_nil] at h4
    omega
  · rw [List.length_append, hl1, hl2, hN] at ho' hrun
    refine wpList_plain hgd fun K hK => ?_
    unfold Oper.wp execOp
    simp only [ho, resolve, invoke, builtin, Sem.run_bind, Sem.run_pure, Result.andThen_ok, List.map_toArray, List.map_cons, List.map_nil, hs, hx, hrun]
    exact hK _ _ (h g C w' ho' hb)
theorem Rd.cells {w : World} {b : Nat} {l : List UInt8} (h : ∀ j, j < l.length → w.cell? ⟨b, j, none⟩ = some (.int .u8 (l[j]?.getD 0).toNat)) : Rd w (some ⟨b, 0, none⟩) l := fun j hj => ⟨b, 0, rfl, by rw [Nat.zero_add]; exact h j hj⟩
theorem eight (m : Me) (h : Right m) : (#[.int .u8 (m.seq % 256), .int .u8 (m.seq / 256 % 256), .int .u8 (m.seq / 65536 % 256), .int .u8 (m.seq / 16777216 % 256), .int .u8 (m.b0 % 256), .int .u8 (m.b1 % 256), .int .u8 (m.act % 256), .int .u8 (m.tries % 256)] : Array Value) = ((encL 4 false m.seq ++ [oct m.b0, oct m.b1, oct m.act, oct m.tries]).map bv).toArray := by
  have h1 : ∀ i : Int, 0 ≤ i → i < 256 → i % 256 = ((oct i).toNat : Int) := fun i h0 h1 => by rw [nat_oct h0 h1]; omega
  have h2 : ∀ (n : Nat), (((UInt8.ofNat n).toNat : Nat) : Int) = (n : Int) % 256 := fun n => by simp
  rw [h1 m.b0 h.p.1 (by have := h.p.2; omega), h1 m.b1 h.q.1 (by have := h.q.2; omega), h1 m.act (by have := h.a; omega) (by have := h.a; omega), h1 m.tries h.t.1 (by have := h.t.2; omega)]
  have he : encL 4 false m.seq = [UInt8.ofNat m.seq, UInt8.ofNat (m.seq / 256), UInt8.ofNat (m.seq / 65536), UInt8.ofNat (m.seq / 16777216)] := by
    simp [encL, byteAt, List.range, List.range.loop]
  rw [he]
  simp only [List.cons_append, List.nil_append, List.map_cons, List.map_nil, bv, h2]
  rfl
set_option maxRecDepth 100000 in
set_option maxHeartbeats 1000000 in
theorem enc_ok (m : Me) (w : World) (hr : rightM m = true) (hs : m.seq < 4294967296) :
    Calls Try.prog 9 #[mev m] w fun e w' => ∃ g C, e = .returned (.tuple #[.slice (some ⟨g, 0, none⟩) 512 C, .int .i64 0]) ∧ 512 ≤ C ∧ Own 5 w' w.heap.size (.slice (some ⟨g, 0, none⟩) 512 C) (encM m) ∧ Below w.heap.size w w' := by
  have HX := Lib.hid (HB.new w (mec m) 26)
  have HB1 := Lib.hid ((Below.refl w.heap.size w).alloc (Nat.le_refl _) (.cells (mec m).toArray 26))
  have HR := Lib.hid (fun w => right_any m w)
  rw [hr] at HR
  obtain ⟨X, hX⟩ : ∃ X, w.heap.size = X := ⟨_, rfl⟩
  have HXx := fun (_ : Unit) => Lib.hid hX
  obtain ⟨w1, hw1⟩ : ∃ w1, w.alloc (.cells (mec m).toArray 26) = w1 := ⟨_, rfl⟩
  rw [hX] at HX
  rw [hw1] at HX HB1
  unfold mec at hw1
  unfold mev at HR ⊢
  obtain ⟨k0, k1, k2, k3, k4⟩ := Five.of HX.out
  have Hr := Lib.hid hr
  have Hs := Lib.hid hs
  clear hr hs
  go_enter Try.func9, Try.ntmps9
  go_wp2_with fail
  refine (HR.out _).mono ?_
  rintro e w2 ⟨rfl, hb2⟩
  have HX2 := Lib.hid (HX.out.later hb2)
  have HB2 := Lib.hid (HB1.out.trans (hb2.mono HB1.out.size))
  clear k0 k1 k2 k3 k4 HX HR hb2 HB1
  have k0 := fun o => (Five.of (HX2.out.alloc o)).c0
  have k1 := fun o => (Five.of (HX2.out.alloc o)).c1
  have k2 := fun o => (Five.of (HX2.out.alloc o)).c2
  have k3 := fun o => (Five.of (HX2.out.alloc o)).c3
  have k4 := fun o => (Five.of (HX2.out.alloc o)).c4
  have kc := fun (w : World) (C : Array Value) (n c : Nat) => Lib.run_convert_bytes_const (P := Try.prog) w 27 5 C n c Try.underlying27 Try.underlying5
  go_upto_region 3 with fail
  go_wp2_with (at_builtin; refine wpList_append_full byteRow rfl _ _ rfl _ 4 4 magic rfl rfl ?c1 _ 8 8 (encL 4 false m.seq ++ [oct m.b0, oct m.b1, oct m.act, oct m.tries]) rfl rfl ?c2 12 rfl (by decide) (by decide) (by decide) ?_)
  case c1 =>
    exact (Rd.new w2 magic 5 _).below ((Below.refl _ _).alloc (Nat.le_refl _) _)
  case c2 =>
    rw [eight m (right_iff.1 Hr.out)]
    have h := Rd.new (w2.alloc (.cells #[.int .u8 70, .int .u8 87, .int .u8 85, .int .u8 49] 5 (4, 5))) (encL 4 false m.seq ++ [oct m.b0, oct m.b1, oct m.act, oct m.tries]) 5 (0, 0)
    rw [show (w2.alloc (.cells #[.int .u8 70, .int .u8 87, .int .u8 85, .int .u8 49] 5 (4, 5))).heap.size = w2.heap.size + 1 by simp] at h
    exact h
  intro g C w3 ho3 hb3
  have hb3' := (((Below.refl w2.heap.size w2).alloc (Nat.le_refl _) _).alloc (by simp) _).trans (hb3.mono (by omega))
  have HB3 := Lib.hid (HB2.out.trans (hb3'.mono HB2.out.size))
  have Ho3 : Hid (Own 5 w3 w.heap.size (.slice (some ⟨g, 0, none⟩) 12 C) (head12 m)) := Lib.hid (by
    have := ho3.mono (B' := w.heap.size) (by have := HB2.out.size; omega)
    unfold head12
    rw [List.append_assoc]
    exact this)
  clear ho3 hb3 hb3' k0 k1 k2 k3 k4 kc
  obtain ⟨v4, w4, hrun, ho4, hgr⟩ := run_append_zeros w3 27 w.heap.size _ (head12 m) Ho3.out 500 (by decide) (by decide) (by rw [head12_len]; decide) HB3.out.size (by rw [head12_len]; decide)
  rw [show ((500 : Nat) : Int) = 500 from rfl] at hrun
  have hl4 : (head12 m ++ List.replicate 500 (0 : UInt8)).length = 512 := by rw [List.length_append, head12_len, List.length_replicate]
  have HB4 := Lib.hid (HB3.out.grown hgr.g HB3.out.size (fun q hq => (own_blk Ho3.out hq).1))
  have hc4 : ∃ g4 C4, v4 = .slice (some ⟨g4, 0, none⟩) 512 C4 ∧ 512 ≤ C4 ∧ C4 ≤ maxLen := by
    rcases ho4.cases with ⟨_, h3⟩ | ⟨g4, C4, rfl, -, -, h5, h6, -⟩
    · rw [h3] at hl4; simp at hl4
    · exact ⟨g4, C4, by rw [hl4], by rw [← hl4]; exact h5, h6⟩
  obtain ⟨g4, C4, rfl, hC4, hC4m⟩ := hc4
  obtain ⟨a4, c4, he4, -, -, hr4⟩ := ho4.rd
  rw [hl4] at he4
  cases he4
  obtain ⟨L, hL⟩ : ∃ L, head12 m ++ List.replicate 500 (0 : UInt8) = L := ⟨_, rfl⟩
  have hres := enc_put m
  rw [hL] at hl4 hr4 hres
  have Hcrc := Lib.hid (crc_any (some ⟨g4, 0, none⟩) 508 C4 (L.take 508) 0#32 0 rfl w4 (by rw [List.length_take, hl4]; rfl) (by decide) (fun j hj => by
    rw [List.length_take, hl4] at hj
    obtain ⟨b, off, e, hc⟩ := hr4 j (by omega)
    exact ⟨b, off, e, by rw [List.getElem?_take, if_pos (by omega)]; exact hc⟩))
  have hlt := (crc 0#32 (L.take 508)).isLt
  obtain ⟨S, hS⟩ : ∃ S, (crc 0#32 (L.take 508)).toNat = S := ⟨_, rfl⟩
  rw [hS] at Hcrc hres hlt
  have Hput := Lib.hid (put_ok (some ⟨g4, 0, none⟩) 512 C4 508 4 S L false w4 hl4 (by decide) (fun h => by cases h) hr4 (.inr (.inr (.inl rfl))) (by decide) hlt)
  have e1 : IntKind.u64.wrap (S : Int) = (S : Int) := IntWalk.u64_in _ (by omega)
  have e2 : (508 : Int) ≤ (C4 : Int) := by omega
  rw [hres] at Hput
  rw [show ((508 : Nat) : Int) = 508 from rfl, show ((4 : Nat) : Int) = 4 from rfl] at Hput
  have Hrun := Lib.hid hrun
  clear hres hS hlt hr4 hL hl4 ho4 hgr Ho3 hC4 hC4m hrun
  go_wp2_with (at_builtin; refine Go.Lib.wpList_append_run _ rfl _ _ _ _ rfl _ _ rfl rfl _ _ Hrun.out ?_)
  go_wp2_with fail
  refine Hcrc.out.mono ?_
  rintro e w5 ⟨rfl, rfl⟩
  clear Hcrc
  go_wp2_with fail
  refine Hput.out.mono ?_
  rintro e w6 ⟨g6, C6, rfl, hC6, ho6, hb6⟩
  have HO := Lib.hid ho6
  have HB6 := Lib.hid (HB4.out.trans (hb6.mono HB4.out.size))
  clear ho6 hb6 Hput
  go_wp2_with fail
  go_ret2
  exact ⟨g6, C6, rfl, hC6, HO.out.mono (by have := HB4.out.size; omega), HB6.out⟩
theorem enc_bad (m : Me) (w : World) (hr : rightM m = false) :
    Calls Try.prog 9 #[mev m] w fun e w' => e = .returned (.tuple #[.slice none 0 0, .int .i64 231]) ∧ Below w.heap.size w w' := by
  have HX := Lib.hid (HB.new w (mec m) 26)
  have HB1 := Lib.hid ((Below.refl w.heap.size w).alloc (Nat.le_refl _) (.cells (mec m).toArray 26))
  have HR := Lib.hid (fun w => right_any m w)
  rw [hr] at HR
  obtain ⟨X, hX⟩ : ∃ X, w.heap.size = X := ⟨_, rfl⟩
  have HXx := fun (_ : Unit) => Lib.hid hX
  obtain ⟨w1, hw1⟩ : ∃ w1, w.alloc (.cells (mec m).toArray 26) = w1 := ⟨_, rfl⟩
  rw [hX] at HX
  rw [hw1] at HX HB1
  unfold mec at hw1
  unfold mev at HR ⊢
  obtain ⟨k0, k1, k2, k3, k4⟩ := Five.of HX.out
  clear hr
  go_enter Try.func9, Try.ntmps9
  go_wp2_with fail
  refine (HR.out _).mono ?_
  rintro e w2 ⟨rfl, hb2⟩
  have HB2 := Lib.hid (HB1.out.trans (hb2.mono HB1.out.size))
  clear k0 k1 k2 k3 k4 HX HR hb2 HB1
  go_wp2_with fail
  go_ret2
  exact ⟨rfl, by first | exact HB2.out | (rw [← hX]; exact HB2.out)⟩
end Go.Proofs.Ytnmeidmiijcniaa
