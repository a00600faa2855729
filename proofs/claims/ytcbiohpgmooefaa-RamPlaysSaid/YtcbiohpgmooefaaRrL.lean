/- The document's RAM: Load, Store, Place, Peek. No condition. -/
import Derived.Test.YtcbiohpgmooefaaRrM
import Derived.Test.YtcbiohpgmooefaaRrG
import Derived.Test.YtcbiohpgmooefaaRrS
import Derived.Test.YtcbiohpgmooefaaRmG
set_option linter.unusedVariables false
set_option linter.unusedSimpArgs false
namespace Go.Proofs.Ytcbiohpgmooefaa
open Go.RowKit
set_option maxHeartbeats 1000000 in
theorem rload_any {B R : Nat} {m : List UInt8} {tv : Value} {t : List Rg} {w : World} (h : RefM B R m tv t w) (sec : Bool) (a : Int) (x n : Nat) (hx : x < 18446744073709551616) :
    Calls Try.prog 50 #[.pointer (some ⟨R, 0, none⟩), .bool sec, .int .i64 a, .int .u64 x, .int .u64 n] w fun e w' => ∃ v, e = .returned (.tuple #[v, .int .i64 (mayR t sec a x n)]) ∧ Own 5 w' w.heap.size v (gotR m (mayR t sec a x n) x n) ∧ Below w.heap.size w w' := by
  have Hm := Lib.hid (rmay_any h sec a x n hx)
  have Hg := Lib.hid (fun (hr : mayR t sec a x n = 0) w' (hb : Below w.heap.size w w') => rget_any (h.later hb) x n (mayR_in hr))
  obtain ⟨r, hr⟩ : ∃ r, mayR t sec a x n = r := ⟨_, rfl⟩
  rw [hr] at Hm Hg ⊢
  clear h hr
  by_cases h0 : r = 0
  · subst h0
    have Hg' := Lib.hid (Hg.out rfl)
    clear Hg
    go_enter Try.func50, Try.ntmps50
    go_wp2_with fail
    refine Hm.out.mono ?_
    rintro e w2 ⟨rfl, hb2⟩
    have Hb2 := Lib.hid hb2
    clear hb2 Hm
    go_wp2_with fail
    refine (Hg'.out _ Hb2.out).mono ?_
    rintro e w3 ⟨v, rfl, ho, hb3⟩
    have HO := Lib.hid (And.intro (ho.mono Hb2.out.size) (Hb2.out.trans (hb3.mono Hb2.out.size)))
    clear ho hb3 Hg'
    go_wp2_with fail
    go_ret2
    exact ⟨_, rfl, by unfold gotR; rw [if_pos rfl]; exact HO.out.1, HO.out.2⟩
  · have f1 : ((r : Int) == 0) = false := beq_false_of_ne h0
    have f2 : ((r : Int) != 0) = true := bne_iff_ne.2 h0
    have H0 := Lib.hid h0
    clear Hg h0
    go_enter Try.func50, Try.ntmps50
    go_wp2_with fail
    refine Hm.out.mono ?_
    rintro e w2 ⟨rfl, hb2⟩
    have Hb2 := Lib.hid hb2
    clear hb2 Hm
    go_wp2_with fail
    go_ret2
    exact ⟨_, rfl, by unfold gotR; rw [if_neg H0.out]; exact Own.nil _ _ _, Hb2.out⟩
set_option maxHeartbeats 1000000 in
theorem rpeek_any {B R : Nat} {m : List UInt8} {tv : Value} {t : List Rg} {w : World} (h : RefM B R m tv t w) (x n : Nat) (hx : x < 18446744073709551616) :
    Calls Try.prog 51 #[.pointer (some ⟨R, 0, none⟩), .int .u64 x, .int .u64 n] w fun e w' => ∃ v, e = .returned (.tuple #[v, .int .i64 (if inRam x n = true then 0 else 161)]) ∧ Own 5 w' w.heap.size v (if inRam x n = true then getR m (x - 1073741824) n else []) ∧ Below w.heap.size w w' := by
  have Hw := Lib.hid (within2_any x n w hx)
  have Hg := Lib.hid (fun (hr : inRam x n = true) => rget_any h x n hr)
  clear h
  cases hi : inRam x n
  · rw [hi] at Hw
    clear Hg hi
    go_enter Try.func51, Try.ntmps51
    go_wp2_with fail
    refine Hw.out.mono ?_
    rintro e w' ⟨rfl, rfl⟩
    clear Hw
    go_wp2_with fail
    go_ret2
    exact ⟨_, rfl, Own.nil _ _ _, Below.refl _ _⟩
  · rw [hi] at Hw
    have Hg' := Lib.hid (Hg.out hi)
    clear Hg hi
    go_enter Try.func51, Try.ntmps51
    go_wp2_with fail
    refine Hw.out.mono ?_
    rintro e w' ⟨rfl, rfl⟩
    clear Hw
    go_wp2_with fail
    refine Hg'.out.mono ?_
    rintro e w3 ⟨v, rfl, ho, hb3⟩
    have HO := Lib.hid (And.intro ho hb3)
    clear ho hb3 Hg'
    go_wp2_with fail
    go_ret2
    exact ⟨_, rfl, HO.out.1, HO.out.2⟩
set_option maxHeartbeats 1000000 in
theorem rstore_any {B R : Nat} {m : List UInt8} {tv : Value} {t : List Rg} {w : World} (h : RefM B R m tv t w) (sec : Bool) (x : Nat) (ao : Option Addr) (n cap : Nat) (b : List UInt8) (hx : x < 18446744073709551616) (hl : b.length = n) (hn : n ≤ 9223372036854775807) (hr : ∀ w', Frm (fun q => q = R) w w' → Rd w' ao b) :
    Calls Try.prog 37 #[.pointer (some ⟨R, 0, none⟩), .bool sec, .int .u64 x, .slice ao n cap] w fun e w' => e = .returned (.int .i64 (mayR t sec 2 x n)) ∧ RefM B R (putR m (mayR t sec 2 x n) x b) tv t w' ∧ Frm (fun q => q = R) w w' := by
  have Hm := Lib.hid (rmay_any h sec 2 x n hx)
  have Hs := Lib.hid (fun (he : mayR t sec 2 x n = 0) w' (hb : Below w.heap.size w w') => rset_any (h.later hb) x ao n cap b hl (mayR_in he) (fun w'' hf => hr w'' ((Frm.later hb).trans hf)))
  have Hh := Lib.hid (fun w' (hb : Below w.heap.size w w') => h.later hb)
  have cn : IntKind.u64.wrap (n : Int) = (n : Int) := IntWalk.u64_in _ (by omega)
  obtain ⟨r, hre⟩ : ∃ r, mayR t sec 2 x n = r := ⟨_, rfl⟩
  rw [hre] at Hm Hs ⊢
  clear h hre hr
  by_cases h0 : r = 0
  · subst h0
    have Hs' := Lib.hid (Hs.out rfl)
    clear Hs
    go_enter Try.func37, Try.ntmps37
    go_wp2_with fail
    refine Hm.out.mono ?_
    rintro e w2 ⟨rfl, hb2⟩
    have Hb2 := Lib.hid hb2
    clear hb2 Hm
    go_wp2_with fail
    refine (Hs'.out _ Hb2.out).mono ?_
    rintro e w3 ⟨rfl, hR, hf⟩
    have HO := Lib.hid (And.intro hR ((Frm.later (K := fun q => q = R) Hb2.out).trans hf))
    clear hR hf Hs'
    go_wp2_with fail
    go_ret
    exact ⟨rfl, by unfold putR; rw [if_pos rfl]; exact HO.out.1, HO.out.2⟩
  · have f1 : ((r : Int) == 0) = false := beq_false_of_ne h0
    have f2 : ((r : Int) != 0) = true := bne_iff_ne.2 h0
    have H0 := Lib.hid h0
    clear Hs h0
    go_enter Try.func37, Try.ntmps37
    go_wp2_with fail
    refine Hm.out.mono ?_
    rintro e w2 ⟨rfl, hb2⟩
    have Hb2 := Lib.hid hb2
    clear hb2 Hm
    go_wp2_with fail
    go_ret
    exact ⟨rfl, by unfold putR; rw [if_neg H0.out]; exact Hh.out _ Hb2.out, Frm.later Hb2.out⟩
set_option maxHeartbeats 1000000 in
theorem rplace_any {B R : Nat} {m : List UInt8} {tv : Value} {t : List Rg} {w : World} (h : RefM B R m tv t w) (x : Nat) (ao : Option Addr) (n cap : Nat) (b : List UInt8) (hx : x < 18446744073709551616) (hl : b.length = n) (hn : n ≤ 9223372036854775807) (hr : ∀ w', Frm (fun q => q = R) w w' → Rd w' ao b) :
    Calls Try.prog 38 #[.pointer (some ⟨R, 0, none⟩), .int .u64 x, .slice ao n cap] w fun e w' => e = .returned (.int .i64 (if inRam x n = true then 0 else 161)) ∧ RefM B R (if inRam x n = true then spl m (x - 1073741824) b else m) tv t w' ∧ Frm (fun q => q = R) w w' := by
  have Hw := Lib.hid (within2_any x n w hx)
  have Hs := Lib.hid (fun (he : inRam x n = true) => rset_any h x ao n cap b hl he hr)
  have Hh := Lib.hid h
  have cn : IntKind.u64.wrap (n : Int) = (n : Int) := IntWalk.u64_in _ (by omega)
  clear h hr
  cases hi : inRam x n
  · rw [hi] at Hw
    clear Hs hi
    go_enter Try.func38, Try.ntmps38
    go_wp2_with fail
    refine Hw.out.mono ?_
    rintro e w' ⟨rfl, rfl⟩
    clear Hw
    go_wp2_with fail
    go_ret
    exact ⟨rfl, Hh.out, Frm.refl _ _⟩
  · rw [hi] at Hw
    have Hs' := Lib.hid (Hs.out hi)
    clear Hs hi
    go_enter Try.func38, Try.ntmps38
    go_wp2_with fail
    refine Hw.out.mono ?_
    rintro e w' ⟨rfl, rfl⟩
    clear Hw
    go_wp2_with fail
    refine Hs'.out.mono ?_
    rintro e w3 ⟨rfl, hR, hf⟩
    have HO := Lib.hid (And.intro hR hf)
    clear hR hf Hs'
    go_wp2_with fail
    go_ret
    exact ⟨rfl, HO.out.1, HO.out.2⟩
end Go.Proofs.Ytcbiohpgmooefaa
