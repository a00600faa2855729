/- The document's RAM: where an address lies. No condition. -/
import Derived.Test.YtcbiohpgmooefaaRmF
set_option linter.unusedVariables false
set_option linter.unusedSimpArgs false
namespace Go.Proofs.Ytcbiohpgmooefaa
open Go.RowKit
attribute [local go_sem ↓] build_rg
/-- the document's RAM, as a world holds it -/
structure RefM (B R : Nat) (m : List UInt8) (tv : Value) (t : List Rg) (w : World) : Prop where
  h : HB w R 51 (ramC m tv)
  l : m.length = 65536
  o : OwnS rgc 33 6 w B tv t
  tb : Tab t
  b : B ≤ R
  nv : tv.ownBlock ≠ some R
theorem RefM.later {B R : Nat} {m : List UInt8} {tv : Value} {t : List Rg} {w w' : World} (h : RefM B R m tv t w) (hb : Below w.heap.size w w') : RefM B R m tv t w' :=
  ⟨h.h.later hb, h.l, h.o.later hb, h.tb, h.b, h.nv⟩
theorem RefM.tab {B R : Nat} {m : List UInt8} {tv : Value} {t : List Rg} {w : World} (h : RefM B R m tv t w) : w.cell? ⟨R, 65536, none⟩ = some tv := h.h.cell (ramC_t h.l)
theorem RefM.tv {B R : Nat} {m : List UInt8} {tv : Value} {t : List Rg} {w : World} (h : RefM B R m tv t w) : ∃ ao cap, tv = .slice ao t.length cap ∧ t.length ≤ cap ∧ cap ≤ maxLen ∧ RdS rgc 6 w ao t ∧ (ao = none → cap = 0) := h.o.rd rgc_len
theorem within2_any (b n : Nat) (w : World) (hb : b < 18446744073709551616) :
    Calls Try.prog 47 #[.int .u64 b, .int .u64 n] w fun e w' => e = .returned (.bool (inRam b n)) ∧ w = w' := by
  have hno : (¬ (1073741824 ≤ b ∧ b + n ≤ 1073807360)) → inRam b n = false := fun h => by
    cases hh : inRam b n
    · rfl
    · exact absurd (inRam_iff.1 hh) h
  by_cases h1 : 1073741824 ≤ b
  · have i1 : (1073741824 : Int) ≤ (b : Int) := by omega
    obtain ⟨d, hd⟩ : ∃ d, b - 1073741824 = d := ⟨_, rfl⟩
    have e1 : (b : Int) - 1073741824 = (d : Int) := by omega
    by_cases h2 : d ≤ 65536
    · have i2 : (d : Int) ≤ 65536 := by omega
      obtain ⟨q, hq⟩ : ∃ q, 65536 - d = q := ⟨_, rfl⟩
      have e2 : (65536 : Int) - (d : Int) = (q : Int) := by omega
      by_cases h3 : n ≤ q
      · have i3 : (n : Int) ≤ (q : Int) := by omega
        have Hd := fun (_ : Unit) => Lib.hid (show inRam b n = true from inRam_iff.2 ⟨by omega, by omega⟩)
        clear hno h1 h2 h3 hd hq
        go_enter Try.func47, Try.ntmps47
        go_wp2_with fail
        go_ret
        exact ⟨by rw [(Hd ()).out]; rfl, rfl⟩
      · have i3 : ¬ (n : Int) ≤ (q : Int) := by omega
        have Hd := fun (_ : Unit) => Lib.hid (hno (by omega))
        clear hno h1 h2 h3 hd hq
        go_enter Try.func47, Try.ntmps47
        go_wp2_with fail
        go_ret
        exact ⟨by rw [(Hd ()).out]; rfl, rfl⟩
    · have i2 : ¬ (d : Int) ≤ 65536 := by omega
      have Hd := fun (_ : Unit) => Lib.hid (hno (by omega))
      clear hno h1 h2 hd
      go_enter Try.func47, Try.ntmps47
      go_wp2_with fail
      go_ret
      exact ⟨by rw [(Hd ()).out]; rfl, rfl⟩
  · have i1 : ¬ (1073741824 : Int) ≤ (b : Int) := by omega
    have Hd := fun (_ : Unit) => Lib.hid (hno (by omega))
    clear hno h1 hb
    go_enter Try.func47, Try.ntmps47
    go_wp2_with fail
    go_ret
    exact ⟨by rw [(Hd ()).out]; rfl, rfl⟩
theorem has_any (g : Rg) (a : Nat) (w : World) (ha : a < 18446744073709551616) :
    Calls Try.prog 48 #[rgv g, .int .u64 a] w fun e w' => e = .returned (.bool (g.has a)) ∧ Below w.heap.size w w' := by
  have Hhas := fun (_ : Unit) => Lib.hid (fun h : g.base ≤ a ∧ a < g.base + g.size => has_iff.2 h)
  have Hnot := fun (_ : Unit) => Lib.hid (fun h : ¬ (g.base ≤ a ∧ a < g.base + g.size) => show g.has a = false by
    cases hh : g.has a
    · rfl
    · exact absurd (has_iff.1 hh) h)
  obtain ⟨gb, gn, gr, gw, gx, gs⟩ := g
  unfold rgv
  dsimp only at *
  have HB := fun o => Lib.hid ((Below.refl _ w).alloc (Nat.le_refl _) o)
  by_cases h1 : gb ≤ a
  · have i1 : (gb : Int) ≤ (a : Int) := by omega
    obtain ⟨d, hd⟩ : ∃ d, a - gb = d := ⟨_, rfl⟩
    have e1 : (a : Int) - (gb : Int) = (d : Int) := by omega
    by_cases h2 : d < gn
    · have i2 : (d : Int) < (gn : Int) := by omega
      have Hd := fun (_ : Unit) => Lib.hid ((Hhas ()).out ⟨h1, by omega⟩)
      clear h1 h2 hd Hhas Hnot
      go_enter Try.func48, Try.ntmps48
      go_wp2_with fail
      go_ret
      exact ⟨by rw [(Hd ()).out]; rfl, (HB _).out⟩
    · have i2 : ¬ (d : Int) < (gn : Int) := by omega
      have Hd := fun (_ : Unit) => Lib.hid ((Hnot ()).out (fun h => by omega))
      clear h1 h2 hd Hhas Hnot
      go_enter Try.func48, Try.ntmps48
      go_wp2_with fail
      go_ret
      exact ⟨by rw [(Hd ()).out]; rfl, (HB _).out⟩
  · have i1 : ¬ (gb : Int) ≤ (a : Int) := by omega
    have Hd := fun (_ : Unit) => Lib.hid ((Hnot ()).out (fun h => by omega))
    clear h1 Hhas Hnot
    go_enter Try.func48, Try.ntmps48
    go_wp2_with fail
    go_ret
    exact ⟨by rw [(Hd ()).out]; rfl, (HB _).out⟩
end Go.Proofs.Ytcbiohpgmooefaa
