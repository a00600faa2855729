/- Lists of regions in memory; the document's Free and Same. No condition. -/
import Derived.Test.YthhodibfbfmijaaMapE
set_option linter.unusedVariables false
set_option linter.unusedSimpArgs false
namespace Go.Proofs.Ythhodibfbfmijaa
open Go.RowKit
def rgc (g : Rg) : List Value := [.int .u64 g.base, .int .u64 g.size, .bool g.r, .bool g.w, .bool g.x, .bool g.s]
def rgv (g : Rg) : Value := .agg #[.int .u64 g.base, .int .u64 g.size, .bool g.r, .bool g.w, .bool g.x, .bool g.s]
def gAt (l : List Rg) (j : Nat) : Rg := l[j]?.getD default
def RdG (w : World) (ao : Option Addr) (l : List Rg) : Prop :=
  ∀ j, j < l.length → ∃ b off, ao = some ⟨b, off, none⟩ ∧ b < w.heap.size ∧ ∀ i v, (rgc (gAt l j))[i]? = some v → w.cell? ⟨b, off + j * 6 + i, none⟩ = some v
def RgsOk (l : List Rg) : Prop := ∀ g ∈ l, g.base < 18446744073709551616 ∧ g.size < 18446744073709551616
theorem RdG.below {w w' : World} {ao : Option Addr} {l : List Rg} (h : RdG w ao l) (hb : Below w.heap.size w w') : RdG w' ao l := fun j hj =>
  let ⟨b, off, e, hlt, hc⟩ := h j hj; ⟨b, off, e, Nat.lt_of_lt_of_le hlt hb.size, fun i v hi => by rw [hb.cell (p := ⟨b, off + j * 6 + i, none⟩) hlt]; exact hc i v hi⟩
theorem Drn.rdG {a b : World} (h : Drn a b) {ao : Option Addr} {l : List Rg} (hr : RdG a ao l) : RdG b ao l := fun j hj =>
  let ⟨x, off, e, hlt, hc⟩ := hr j hj; ⟨x, off, e, by rw [h.heap]; exact hlt, fun i v hi => (h.cell _).trans (hc i v hi)⟩
theorem gAt_mem {l : List Rg} {j : Nat} (h : j < l.length) : gAt l j ∈ l := by
  unfold gAt; rw [List.getElem?_eq_getElem h]; exact List.getElem_mem h
theorem take_snocG (l : List Rg) (k : Nat) (h : k < l.length) : l.take (k + 1) = l.take k ++ [gAt l k] := by
  unfold gAt; rw [List.take_add_one, List.getElem?_eq_getElem h]; rfl
theorem freeR_snoc (l : List Rg) (b n k : Nat) (h : k < l.length) : freeR (l.take (k + 1)) b n = (freeR (l.take k) b n && !ov b n (gAt l k).base (gAt l k).size) := by
  rw [take_snocG l k h]; unfold freeR; simp
theorem freeR_hit (l : List Rg) (b n k : Nat) (h : k < l.length) (ho : ov b n (gAt l k).base (gAt l k).size = true) : freeR l b n = false := by
  cases hf : freeR l b n
  · rfl
  · have := freeR_iff.1 hf _ (gAt_mem h)
    rw [ho] at this; cases this
structure FreeIn (l : List Rg) (b n : Nat) (w : World) (i : Value) (wr : World) : Prop where
  x : ∃ k : Nat, k ≤ l.length ∧ i = .int .i64 k ∧ freeR (l.take k) b n = true ∧ Drn w wr
set_option maxHeartbeats 1000000 in
theorem rfree_any (ao : Option Addr) (len cap : Nat) (l : List Rg) (b n : Nat) (w : World) (hl : l.length = len) (hbig : len ≤ 9223372036854775807) (hr : RdG w ao l) (hok : RgsOk l) (hb : b < 18446744073709551616) :
    Calls Try.prog 33 #[.slice ao len cap, .int .u64 b, .int .u64 n] w fun e w' => e = .returned (.bool (freeR l b n)) ∧ Drn w w' := by
  subst hl
  have H0 := Lib.hid (show freeR (l.take 0) b n = true from rfl)
  have Hhb := Lib.hid hb
  clear hb
  go_enter Try.func33, Try.ntmps33
  go_wp2_with fail
  go_loopw [7] (FreeIn l b n w) (fun i _ => l.length - (intOf i).toNat)
  case atStart => exact ⟨0, by omega, rfl, H0.out, Drn.refl _⟩
  case round =>
    obtain ⟨k, hk, rfl, hf, hd⟩ := hrel
    have Hhf := Lib.hid hf
    clear hf
    have hr' := hd.rdG hr
    by_cases hlt : k < l.length
    · obtain ⟨bb, off, rfl, -, hc⟩ := hr' k hlt
      have hs := Lib.hid (freeR_snoc l b n k hlt)
      have hh := Lib.hid (freeR_hit l b n k hlt)
      have hg := Lib.hid (hok _ (gAt_mem hlt))
      have c0 := hc 0 _ rfl
      have c1 := hc 1 _ rfl
      clear hc hr' hr
      simp only [Nat.add_zero] at c0
      generalize gAt l k = g at *
      obtain ⟨gb, gn, gr, gw, gx, gs⟩ := g
      have Hov := fun w => Lib.hid (roverlap_any b n gb gn w Hhb.out hg.out.1)
      have e0 : (0 : Int) ≤ (k : Int) := by omega
      have e1 : (k : Int) < (l.length : Int) := by omega
      cases ho : ov b n gb gn
      · have hF := Lib.hid (show freeR (l.take (k + 1)) b n = true by rw [hs.out, Hhf.out, ho]; rfl)
        rw [ho] at Hov
        clear ho hs hh
        go_wp2_with fail
        go_quiet ((go_at_call 38; exact quiet_eq ((Hov _).out)))
        go_wp2_with fail
        first
        | (go_roundw
           case rel => exact ⟨k + 1, by omega, by go_num, hF.out, hd.step _⟩
           case measure => (first | omega | (simp [intOf] <;> omega) | (simp only [intOf] <;> omega)))
        | exact ⟨⟨k + 1, by omega, by go_num, hF.out, hd.step _⟩, by (first | omega | (simp [intOf] <;> omega) | (simp only [intOf] <;> omega))⟩
        | (refine ⟨?_, by (first | omega | (simp [intOf] <;> omega) | (simp only [intOf] <;> omega))⟩
           (repeat apply Exists.intro)
           refine (fun a b => And.intro b a) ?_ ?_
           · first | rfl | ((repeat refine ⟨rfl, ?_⟩); rfl)
           exact ⟨k + 1, by omega, by go_num, hF.out, hd.step _⟩)
      · have hF := Lib.hid (hh.out ho)
        rw [ho] at Hov
        clear ho hs hh
        go_wp2_with fail
        go_quiet ((go_at_call 38; exact quiet_eq ((Hov _).out)))
        go_wp2_with fail
        go_ret
        exact ⟨by rw [hF.out]; rfl, hd.step _⟩
    · obtain rfl : k = l.length := by omega
      have hF := Lib.hid (show freeR l b n = true by have := Hhf.out; rwa [List.take_length] at this)
      go_wp2_with fail
      go_ret
      exact ⟨by rw [hF.out]; rfl, hd⟩
end Go.Proofs.Ythhodibfbfmijaa
