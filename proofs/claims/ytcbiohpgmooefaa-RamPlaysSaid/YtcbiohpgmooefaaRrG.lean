/- The document's RAM: bytes are read. No condition. -/
import Derived.Test.YtcbiohpgmooefaaRrA
import Derived.Test.YtcbiohpgmooefaaGr
import Derived.Test.YtcbiohpgmooefaaByte
set_option linter.unusedVariables false
set_option linter.unusedSimpArgs false
namespace Go.Proofs.Ytcbiohpgmooefaa
open Go.RowKit
structure RgIn (m : List UInt8) (o n : Nat) (w : World) (vv kv : Value) (wr : World) : Prop where
  x : ∃ k : Nat, k ≤ n ∧ kv = .int .u64 k ∧ Own 5 wr w.heap.size vv (getR m o k) ∧ Below w.heap.size w wr
set_option maxHeartbeats 2000000 in
theorem rget_any {B R : Nat} {m : List UInt8} {tv : Value} {t : List Rg} {w : World} (h : RefM B R m tv t w) (x n : Nat) (hin : inRam x n = true) :
    Calls Try.prog 18 #[.pointer (some ⟨R, 0, none⟩), .int .u64 x, .int .u64 n] w fun e w' => ∃ v, e = .returned v ∧ Own 5 w' w.heap.size v (getR m (x - 1073741824) n) ∧ Below w.heap.size w w' := by
  have hi := inRam_iff.1 hin
  obtain ⟨o, ho⟩ : ∃ o, x - 1073741824 = o := ⟨_, rfl⟩
  rw [ho]
  have e1 : (x : Int) - 1073741824 = (o : Int) := by omega
  have hon : o + n ≤ 65536 := by omega
  have Hon := fun (_ : Unit) => Lib.hid hon
  have Hh := Lib.hid (fun w' (hb : Below w.heap.size w w') => h.later hb)
  have Hml := fun (_ : Unit) => Lib.hid h.l
  clear h hin hi ho hon
  go_enter Try.func18, Try.ntmps18
  go_wp2_with fail
  go_loopw [7, 8] (fun vv kv wr => RgIn m o n w vv kv wr) (fun _ kv _ => n - (intOf kv).toNat)
  case atStart => exact ⟨0, Nat.zero_le _, rfl, Own.nil _ _ _, Below.refl _ _⟩
  case round =>
    obtain ⟨k, hk, rfl, hown, hb⟩ := hrel
    have Ho := Lib.hid hown
    have Hb := Lib.hid hb
    have hon := (Hon ()).out
    have hml := (Hml ()).out
    by_cases hkn : k < n
    · have q1 : (k : Int) < (n : Int) := by omega
      obtain ⟨A, hA⟩ : ∃ A, o + k = A := ⟨_, rfl⟩
      have p1 : (o : Int) + (k : Int) = (A : Int) := by omega
      have p2 : (A : Int) < 65536 := by omega
      have hgs : getR m o (k + 1) = getR m o k ++ [m[A]?.getD 0] := by rw [← hA]; exact getR_snoc (by omega)
      have Hgs := fun (_ : Unit) => Lib.hid hgs
      have hgl : (getR m o k).length = k := getR_len (by omega)
      have Hgl := fun (_ : Unit) => Lib.hid hgl
      have c := (Hh.out _ hb).h.cell (ramC_m (m := m) (tv := tv) (show A < m.length by omega))
      have ho' := Lib.hid (fun mk => hown.alloc (.cells #[.int .u8 ((m[A]?.getD 0).toNat : Int)] 5 mk))
      obtain ⟨ao, cap, rfl, -, -, -⟩ := hown.rd
      have Hkk := fun (_ : Unit) => Lib.hid (show k ≤ 65536 by omega)
      generalize m[A]?.getD 0 = y at *
      rw [hgl] at ho' ⊢
      clear hA hgs hgl hown hb hml hon
      go_wp2_with (at_builtin; refine wpList_append_at byteRow rfl _ _ rfl w.heap.size (.slice ao k cap) (getR m o k) rfl (ho'.out _) ⟨wr.heap.size, 0, none⟩ 1 1 [y] rfl rfl (Rd.new wr [y] _ _) (by rw [(Hgl ()).out]; have := (Hkk ()).out; omega) (by have := Hb.out.size; simp; omega) (k + 1) (by rw [(Hgl ()).out]) (by omega) ?_)
      intro g5 C5 w5 ho5 hg5 hz5
      clear hz5
      have hb5 : Below w.heap.size w w5 := (Hb.out.alloc Hb.out.size (.cells #[.int .u8 (y.toNat : Int)] 5)).grown hg5 (by have := Hb.out.size; simp; omega) (fun q hq => (own_blk (ho'.out (0, 0)) hq).1)
      have Hn := Lib.hid (And.intro ho5 hb5)
      rw [← (Hgs ()).out] at Hn
      clear ho5 hg5 hb5 ho' c
      go_wp2_with fail
      first
      | (go_roundw
         case rel => exact ⟨k + 1, by omega, by go_num, Hn.out.1, Hn.out.2⟩
         case measure => (first | omega | (simp [intOf] <;> omega) | (simp only [intOf] <;> omega)))
      | exact ⟨⟨k + 1, by omega, by go_num, Hn.out.1, Hn.out.2⟩, by (first | omega | (simp [intOf] <;> omega) | (simp only [intOf] <;> omega))⟩
      | (refine ⟨?_, by (first | omega | (simp [intOf] <;> omega) | (simp only [intOf] <;> omega))⟩
         (repeat apply Exists.intro)
         refine (fun a b => And.intro b a) ?_ ?_
         · first | rfl | ((repeat refine ⟨rfl, ?_⟩); rfl)
         exact ⟨k + 1, by omega, by go_num, Hn.out.1, Hn.out.2⟩)
    · have q1 : ¬ (k : Int) < (n : Int) := by omega
      have e : k = n := by omega
      subst e
      clear hown hb
      go_wp2_with fail
      go_ret
      exact ⟨_, rfl, Ho.out, Hb.out⟩
end Go.Proofs.Ytcbiohpgmooefaa
