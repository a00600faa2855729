/- Bytes as texts: string(b), and bytes.Equal. No condition. -/
import Derived.Test.YtnmeidmiijcniaaByte
import Derived.Laws.IdiomStrings
import Derived.MapKept
import Derived.Laws.StructEq
set_option linter.unusedVariables false
set_option linter.unusedSimpArgs false
namespace Go.Proofs.Ytnmeidmiijcniaa
open Go.RowKit
def bst (l : List UInt8) : ByteArray := ⟨l.toArray⟩
theorem bst_inj {a b : List UInt8} (h : bst a = bst b) : a = b := by
  have h1 := congrArg (fun x => x.data.toList) h
  simpa [bst] using h1
theorem conv_str (w : World) (ad : Addr) (n cap : Nat) (l : List UInt8) (hl : l.length = n) (hr : Rd w (some ad) l) :
    (convert 27 9 (.slice (some ad) n cap)).run Try.prog w = .ok (.string (bst l)) w := by
  subst hl
  refine run_convert_bytes_back (P := Try.prog) w 27 9 5 ad cap l Try.underlying27 Try.underlying5 Try.underlying9 (fun j hj => ?_)
  obtain ⟨b, off, e, hc⟩ := hr j hj
  cases e
  rw [Addr.add_lit]
  rw [hc, List.getElem?_eq_getElem hj]
  rfl
theorem bst_toList (a b : List UInt8) : ((bst a).toList == (bst b).toList) = decide (a = b) := by
  rw [Bool.eq_iff_iff, ← beq_toListBytes, MapKept.bytes_beq, decide_eq_true_iff]
  exact ⟨bst_inj, fun h => by rw [h]⟩
theorem bst_beq (a b : List UInt8) : (bst a == bst b) = decide (a = b) := by rw [beq_toListBytes, bst_toList]
theorem equal_any (a1 a2 : Addr) (n m ca cb : Nat) (a b : List UInt8) (w : World) (ha : a.length = n) (hb : b.length = m) (hra : Rd w (some a1) a) (hrb : Rd w (some a2) b) :
    Calls Try.prog 43 #[.slice (some a1) n ca, .slice (some a2) m cb] w fun e w' => e = .returned (.bool (decide (a = b))) ∧ w = w' := by
  have h1 := conv_str w a1 n ca a ha hra
  have h2 := conv_str w a2 m cb b hb hrb
  have h3 := bst_beq a b
  have h4 := bst_toList a b
  generalize bst a = A at *
  generalize bst b = B at *
  clear hra hrb ha hb
  generalize decide (a = b) = D at *
  go_enter Try.func43, Try.ntmps43
  go_wp2_with fail
  go_ret
  exact ⟨rfl, rfl⟩
end Go.Proofs.Ytnmeidmiijcniaa
