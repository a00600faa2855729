/- A CRC-32 is that of its parts, and one changed byte changes it: the walk, where what comes in is of bulk at most 1048576. -/
import Derived.Test.YtdkjkdlpkjklmaaRows
import Derived.Test.YtdkjkdlpkjklmaaCrc
import Derived.Test.YtdkjkdlpkjklmaaCrcMath
import Derived.Test.YtdkjkdlpkjklmaaRHex
import Derived.Test.YtdkjkdlpkjklmaaOpen
import Derived.Lib.SlBytesConst
namespace Go.Proofs.Ytdkjkdlpkjklmaa.octetsParts
open Go.ChangeShapes Go.WideShapes Go.ChangeAt Go.RowKit
set_option linter.unusedVariables false
set_option linter.unusedSimpArgs false
theorem bulk_len {H : Type} (l : List (DataW H)) : l.length ≤ Rows.uptoBulkAll l := by
  induction l with
  | nil => simp [Rows.uptoBulkAll]
  | cons x r ih =>
    have : 1 ≤ Rows.uptoBulk x := by
      cases x with
      | lit l => cases l <;> simp [Rows.uptoBulk]
      | nil => simp [Rows.uptoBulk]
      | ptr d => simp [Rows.uptoBulk]
      | slice elems spare => simp [Rows.uptoBulk]
      | agg parts => simp [Rows.uptoBulk]
      | iface t d => simp [Rows.uptoBulk]
      | map entries => simp [Rows.uptoBulk]
      | held h => simp [Rows.uptoBulk]
    simp only [Rows.uptoBulkAll, List.length_cons]; omega
theorem bulk_bytes {H : Type} {enc : TypeId × Value → H} {W : World} {fuel : Nat} {ao : Option Addr} {n cap : Nat} {x : DataW H × List MemPlace}
    (h : DataW.trod enc Try.prog W 0 (fun _ => true) true fuel 23 [.slice ao n cap] = some x) : n ≤ Rows.uptoBulk x.1 := by
  rcases open_ints Try.underlying23 Try.underlying5 (by kernel_rfl) h with ⟨hcs, rfl⟩ | ⟨a, l, cp, zs, hcs, _, hl, hm, hzl, rfl, hcell, hwz⟩
  · simp at hcs; omega
  · simp at hcs
    obtain ⟨rfl, rfl, rfl⟩ := hcs
    have h1 := bulk_len (lits (H := H) .u8 (zs.take n))
    have h2 : (lits (H := H) .u8 (zs.take n)).length = n := by simp [lits] at hzl ⊢; omega
    simp only [Rows.uptoBulk]
    omega
set_option maxHeartbeats 1000000 in
theorem core (W : World) (ao bo : Option Addr) (n m ca cb : Nat) (a b : List UInt8) (At : Int) (By : UInt8) (hl : a.length = n) (hm : b.length = m) (hn : n ≤ 1048576) (hm2 : m ≤ 1048576) (hra : Rd W ao a) (hrb : Rd W bo b) (hca : ao = none → ca = 0) (hcb : bo = none → cb = 0)
    (h0 : -9223372036854775808 ≤ At) (h1 : At ≤ 9223372036854775807) :
    Calls Try.prog 4 #[.agg #[.slice ao n ca, .slice bo m cb, .int .i64 At, .int .u8 By.toNat]] W fun e w' => e = .returned (.bool true) ∧ Below W.heap.size W w' := by
  have kc := fun (w : World) (C : Array Value) (n c : Nat) => Lib.run_convert_bytes_const (P := Try.prog) w 23 5 C n c Try.underlying23 Try.underlying5
  have Hhl := Lib.hid hl
  clear hl
  have Hhm := Lib.hid hm
  clear hm
  have Hhca := Lib.hid hca
  clear hca
  have Hhcb := Lib.hid hcb
  clear hcb
  have Hh0 := Lib.hid h0
  clear h0
  have Hh1 := Lib.hid h1
  clear h1
  go_enter Try.func4, Try.ntmps4
  go_wp2_with fail
  go_quiet (fail)
  generalize hw0 : World.drewN _ _ = w0
  have hb0 : Below W.heap.size W w0 := by
    rw [← hw0]
    exact ((Below.refl _ _).alloc (Nat.le_refl _) _).trans (Drn.below ⟨nq, rfl⟩ _)
  clear hw0
  have hra0 := fun o => Lib.hid (hra.below (hb0.alloc hb0.size o))
  have hm := Lib.hid (Own.made0 5 w0 W.heap.size hb0.size)
  go_wp2_with (at_builtin; refine wpList_append_bytes byteRow rfl _ _ rfl W.heap.size _ [] rfl hm.out _ n ca a rfl Hhca.out Hhl.out (hra0 _).out ?c1 ?c2 ?_)
  case c1 => simp; omega
  case c2 => have := hb0.size; simp; omega
  intro v1 w1 ho1 hgr
  have hb1 : Below W.heap.size W w1 := (hb0.alloc hb0.size _).grown hgr (by have := hb0.size; simp; omega) (by intro k hk; cases hk; exact hb0.size)
  try rw [List.nil_append] at ho1
  clear hgr hra0 hm hb0
  have hrb1 := hrb.below hb1
  go_wp2_with (at_builtin; refine wpList_append_bytes byteRow rfl _ _ rfl W.heap.size v1 a rfl ho1 _ m cb b rfl Hhcb.out Hhm.out hrb1 ?c1 hb1.size ?_)
  case c1 => have := Hhl.out; omega
  intro v2 w2 ho2 hgr
  have hb2 : Below W.heap.size W w2 := hb1.grown hgr hb1.size (Own.block ho1)
  clear hgr ho1 hb1 hrb1
  have hlen : (a ++ b).length = n + m := by rw [List.length_append, Hhl.out, Hhm.out]
  obtain ⟨co, cc, hv, hcc, hcm, hrc⟩ := ho2.rd
  rw [hlen] at hv hcc
  subst hv
  have Hlen := Lib.hid hlen
  clear hlen
  have hra2 := hra.below hb2
  have hrb2 := hrb.below hb2
  clear hra hrb
  go_wp2_with fail
  refine (crc_any co (n + m) cc (a ++ b) 0#32 0 rfl w2 Hlen.out (by omega) hrc).mono ?_
  rintro e w' ⟨rfl, rfl⟩
  go_wp2_with fail
  refine (crc_any ao n ca a 0#32 0 rfl w2 Hhl.out (by omega) hra2).mono ?_
  rintro e w' ⟨rfl, rfl⟩
  go_wp2_with fail
  refine (crc_any bo m cb b (crc 0#32 a) _ rfl w2 Hhm.out (by omega) hrb2).mono ?_
  rintro e w' ⟨rfl, rfl⟩
  rw [crc_parts]
  generalize hC : crc 0#32 (a ++ b) = C
  have HC := Lib.hid hC
  clear hC
  go_wp2_with fail
  refine (crc_any (some ⟨w2.heap.size, 0, none⟩) 9 9 [49, 50, 51, 52, 53, 54, 55, 56, 57] 0#32 0 rfl _ rfl (by omega) (Rd.new w2 [49, 50, 51, 52, 53, 54, 55, 56, 57] _ _)).mono ?_
  rintro e w3 ⟨rfl, hw3⟩
  have hv : (((crc 0#32 [49, 50, 51, 52, 53, 54, 55, 56, 57]).toNat : Int) == 3421780262) = true := by decide +kernel
  have hv2 : (((crc 0#32 [49, 50, 51, 52, 53, 54, 55, 56, 57]).toNat : Int) != 3421780262) = false := by rw [bne, hv]; rfl
  have hb3 : Below W.heap.size W w3 := by rw [← hw3]; exact hb2.alloc hb2.size _
  have ho3 : Own 5 w3 W.heap.size (.slice co (n + m) cc) (a ++ b) := by rw [← hw3]; exact ho2.alloc _
  clear hw3 hb2 ho2 hra2 hrb2 hrc
  generalize (crc 0#32 [49, 50, 51, 52, 53, 54, 55, 56, 57]).toNat = Z at *
  by_cases hnm : n + m = 0
  · have t1 : ((n : Int) + (m : Int) == 0) = true := by rw [beq_iff_eq]; omega
    go_wp2_with fail
    go_ret
    exact ⟨rfl, hb3⟩
  by_cases hby : By = 0
  · subst hby
    have t1 : ((n : Int) + (m : Int) == 0) = false := by rw [beq_eq_false_iff_ne]; omega
    go_wp2_with fail
    go_ret
    exact ⟨rfl, hb3⟩
  have HBy := Lib.hid hby
  have t1 : ((n : Int) + (m : Int) == 0) = false := by rw [beq_eq_false_iff_ne]; omega
  have t2 : ((By.toNat : Int) == 0) = false := by
    rw [beq_eq_false_iff_ne]
    intro h
    exact hby (UInt8.toNat_inj.mp (by simp; omega))
  clear hby
  generalize hN : n + m = N at *
  have t3 : ((n : Int) + (m : Int)) = (N : Int) := by omega
  rcases ho3.cases with ⟨_, hnil⟩ | ⟨g, C', hv', hg, hg1, hC', -⟩
  · exfalso; rw [hnil] at Hlen; have := Hlen.out; simp at this; omega
  rw [Hlen.out] at hv'
  simp only [Value.slice.injEq] at hv'
  obtain ⟨rfl, -, rfl⟩ := hv'
  have hN0 : 0 < N := by omega
  clear hN hnm
  rw [t3] at t1
  obtain ⟨Q, hQ⟩ : ∃ Q : Nat, (0 ≤ At ∧ At = Q) ∨ (At < 0 ∧ At = -1 - (Q : Int)) := by
    by_cases h : 0 ≤ At
    · exact ⟨At.toNat, Or.inl ⟨h, by omega⟩⟩
    · exact ⟨(-1 - At).toNat, Or.inr ⟨by omega, by omega⟩⟩
  have hQb : Q ≤ 9223372036854775807 := by have := Hh0.out; have := Hh1.out; omega
  have hp : Q % N < N := Nat.mod_lt _ hN0
  have q1 : (Q : Int).tmod (N : Int) = ((Q % N : Nat) : Int) := by rw [Int.tmod_eq_emod_of_nonneg (by omega)]; exact (Int.natCast_emod Q N).symm
  have q2 : (Q : Int) % (N : Int) = ((Q % N : Nat) : Int) := (Int.natCast_emod Q N).symm
  obtain ⟨-, -, -, -, -, hcells, hfz⟩ := ho3.at
  have hcell := hcells (Q % N) hp
  have hfr := hfz (Q % N)
  have hst := ho3.store (Q % N) (((a ++ b)[Q % N]?.getD 0) ^^^ By) (by rw [Hlen.out]; exact hp)
  have hne := Lib.hid (crc_set (a ++ b) 0#32 (Q % N) (((a ++ b)[Q % N]?.getD 0) ^^^ By) (by rw [Hlen.out]; exact hp) (xor_ne _ _ HBy.out))
  have hx := u8_xor ((a ++ b)[Q % N]?.getD 0) By
  clear hcells hfz
  generalize (a ++ b)[Q % N]?.getD 0 = c at *
  generalize Q % N = p at *
  have Hst := Lib.hid hst
  clear hst
  have Hx := Lib.hid hx
  clear hx
  rcases hQ with ⟨hQ0, rfl⟩ | ⟨hQ0, hQ⟩
  · clear Hh0 Hh1
    go_wp2_with fail
    go_region
    rw [Hx.out]
    generalize hw4 : World.setCell _ _ _ = w4
    have hb4 : Below W.heap.size W w4 := by rw [← hw4]; exact hb3.setCell hg _
    rw [hw4] at Hst
    have hr4 : Rd w4.drew (some ⟨g, 0, none⟩) ((a ++ b).set p (c ^^^ By)) := by
      obtain ⟨ao', cap', hv', _, _, hr'⟩ := Hst.out.rd
      simp only [Value.slice.injEq] at hv'
      obtain ⟨rfl, -, -⟩ := hv'
      exact ((Drn.refl _).drew).rd hr'
    have hb5 : Below W.heap.size W w4.drew := hb4.drew
    have Hl4 := Lib.hid (show ((a ++ b).set p (c ^^^ By)).length = N by rw [List.length_set, Hlen.out])
    clear hw4 Hst hb4 hcell hfr ho3 hb3
    generalize hD : crc 0#32 ((a ++ b).set p (c ^^^ By)) = D at *
    rw [HC.out] at hne
    have t5 : ((D.toNat : Int) != (C.toNat : Int)) = true := by
      rw [bne_iff_ne]
      intro h
      exact hne.out (BitVec.eq_of_toNat_eq (by omega))
    clear hne
    have Hcrc := Lib.hid (crc_any (some ⟨g, 0, none⟩) N cc ((a ++ b).set p (c ^^^ By)) 0#32 0 rfl w4.drew Hl4.out (by omega) hr4)
    rw [hD] at Hcrc
    clear hD hr4 q1 q2 hp
    go_wp2_with fail
    refine Hcrc.out.mono ?_
    rintro e w' ⟨rfl, rfl⟩
    go_wp2_with fail
    go_ret
    exact ⟨rfl, hb5⟩
  · have HQ := Lib.hid hQ
    clear hQ
    have hA1 := Hh0.out
    go_wp2_with fail
    have e1 : -(At + 1) = (Q : Int) := by have := HQ.out; omega
    rw [e1]
    go_region
    rw [Hx.out]
    generalize hw4 : World.setCell _ _ _ = w4
    have hb4 : Below W.heap.size W w4 := by rw [← hw4]; exact hb3.setCell hg _
    rw [hw4] at Hst
    have hr4 : Rd w4.drew (some ⟨g, 0, none⟩) ((a ++ b).set p (c ^^^ By)) := by
      obtain ⟨ao', cap', hv', _, _, hr'⟩ := Hst.out.rd
      simp only [Value.slice.injEq] at hv'
      obtain ⟨rfl, -, -⟩ := hv'
      exact ((Drn.refl _).drew).rd hr'
    have hb5 : Below W.heap.size W w4.drew := hb4.drew
    have Hl4 := Lib.hid (show ((a ++ b).set p (c ^^^ By)).length = N by rw [List.length_set, Hlen.out])
    clear hw4 Hst hb4 hcell hfr ho3 hb3
    generalize hD : crc 0#32 ((a ++ b).set p (c ^^^ By)) = D at *
    rw [HC.out] at hne
    have t5 : ((D.toNat : Int) != (C.toNat : Int)) = true := by
      rw [bne_iff_ne]
      intro h
      exact hne.out (BitVec.eq_of_toNat_eq (by omega))
    clear hne
    have Hcrc := Lib.hid (crc_any (some ⟨g, 0, none⟩) N cc ((a ++ b).set p (c ^^^ By)) 0#32 0 rfl w4.drew Hl4.out (by omega) hr4)
    rw [hD] at Hcrc
    clear hD hr4 q1 q2 hp
    go_wp2_with fail
    refine Hcrc.out.mono ?_
    rintro e w' ⟨rfl, rfl⟩
    go_wp2_with fail
    go_ret
    exact ⟨rfl, hb5⟩
theorem walk {H : Type} (enc : TypeId × Value → H) (W : World) (base : Nat) (v0 : Value) (d0 : DataW H) (p0 : List MemPlace)
    (k0 : Value.okWide Try.prog W .any base 27 v0)
    (h0 : DataW.Trod enc Try.prog W 0 (fun _ => true) true 27 v0 d0 p0)
    (hsz : (DataW.weightsEach Try.prog [27] ([d0] ++ [])).all (· ≤ reachBytes) = true) (hk : Rows.uptoSmall H ([d0] ++ []) = true) :
    Calls Try.prog 4 #[v0] W fun e w' => e = .returned (.bool true) ∧ Below W.heap.size W w' := by
  simp only [List.cons_append, List.nil_append, DataW.weightsEach] at hsz
  obtain ⟨z0, hsz⟩ := all_app hsz
  obtain ⟨cs_, xs_, n_, rfl, hsz_, rfl, hxl_, hf_⟩ := open_struct Try.underlying27 k0 h0
  obtain ⟨c_A, c_B, c_At, c_By, rfl⟩ := arr4 (hsz_.trans (by kernel_rfl : Try.prog.cellsOf 27 = 4))
  obtain ⟨y_A, y_B, y_At, y_By, rfl⟩ := lst4 (hxl_.trans rfl)
  have cltsluint8 : Try.prog.cellsOf 23 = 1 := by kernel_rfl
  have cltint : Try.prog.cellsOf 3 = 1 := by kernel_rfl
  have cltuint8 : Try.prog.cellsOf 5 = 1 := by kernel_rfl
  have e_A : DataW.trod enc Try.prog W 0 (fun _ => true) true n_ 23 [c_A] = some y_A := by have := hf_ 0 _ rfl; simpa [cltsluint8] using this
  have e_B : DataW.trod enc Try.prog W 0 (fun _ => true) true n_ 23 [c_B] = some y_B := by have := hf_ 1 _ rfl; simpa [cltsluint8] using this
  have e_At : DataW.trod enc Try.prog W 0 (fun _ => true) true n_ 3 [c_At] = some y_At := by have := hf_ 2 _ rfl; simpa [cltint] using this
  have e_By : DataW.trod enc Try.prog W 0 (fun _ => true) true n_ 5 [c_By] = some y_By := by have := hf_ 3 _ rfl; simpa [cltuint8] using this
  simp only [DataW.weights, Try.underlying27, List.map_cons, List.map_nil, DataW.weightsEach] at z0
  obtain ⟨z_A, zz_0⟩ := all_app z0
  obtain ⟨z_B, zz_1⟩ := all_app zz_0
  obtain ⟨z_At, zz_2⟩ := all_app zz_1
  obtain ⟨z_By, zz_3⟩ := all_app zz_2
  obtain ⟨ao_A, n_A, cap_A, l_A, rfl, hl_A, hn_A, hcap_A, hrd_A, hc_A⟩ := trod_bytes Try.underlying23 Try.underlying5 (by kernel_rfl) (by kernel_rfl) e_A z_A
  obtain ⟨ao_B, n_B, cap_B, l_B, rfl, hl_B, hn_B, hcap_B, hrd_B, hc_B⟩ := trod_bytes Try.underlying23 Try.underlying5 (by kernel_rfl) (by kernel_rfl) e_B z_B
  obtain ⟨At, rfl, h0_At, h1_At⟩ := trod_i64 Try.underlying3 e_At
  obtain ⟨By, rfl⟩ := trod_u8 Try.underlying5 e_By
  clear hf_ hsz_ hxl_  z_A z_B z_At z_By zz_0 zz_1 zz_2 zz_3 z0 cltsluint8 cltint cltuint8
  have hb : Rows.uptoBulkAll ([DataW.agg (List.map (fun x => x.1) [y_A, y_B, y_At, y_By])] ++ []) ≤ 1048576 := of_decide_eq_true hk
  simp only [List.map_cons, List.map_nil, List.cons_append, List.nil_append, Rows.uptoBulkAll, Rows.uptoBulk] at hb
  have b1 := bulk_bytes e_A
  have b2 := bulk_bytes e_B
  exact core W _ _ _ _ _ _ _ _ _ _ hl_A hl_B (by omega) (by omega) hrd_A hrd_B hc_A hc_B h0_At h1_At
end Go.Proofs.Ytdkjkdlpkjklmaa.octetsParts
