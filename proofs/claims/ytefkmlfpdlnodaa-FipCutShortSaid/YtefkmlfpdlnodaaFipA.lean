/- The law's live question. No condition. -/
import Derived.Test.YtefkmlfpdlnodaaFipK
set_option linter.unusedVariables false
set_option linter.unusedSimpArgs false
namespace Go.Proofs.Ytefkmlfpdlnodaa
open Go.RowKit
attribute [local go_sem ↓] build_en store_en load_en load_gu store_gu build_gu bs_en bs_gu
theorem alive_made : (makeR [g7] [[1, 2, 3]]).2 = 0 ∧ (makeR [g7] [[1, 2, 3]]).1.length = 99 ∧ imageR (makeR [g7] [[1, 2, 3]]).1 g7 = ([1, 2, 3], 0) := by decide +kernel
theorem open_nil : openR [] = (none, 191) := openR_head (Or.inl (by decide))
set_option maxRecDepth 100000 in
set_option maxHeartbeats 1000000 in
theorem alive_any (w : World) : Calls Try.prog 13 #[] w fun e w' => e = .returned (.bool true) ∧ Below w.heap.size w w' := by
  have hb7 := fun w => run_buildG7 w
  have hbs := fun w => run_bsGu g7 w
  have h1 := HB.new w (guc g7) 30
  have hb1 := (Below.refl w.heap.size w).alloc (Nat.le_refl _) (.cells (guc g7).toArray 30)
  have H1 := Lib.hid h1
  have Hb1 := Lib.hid hb1
  go_enter Try.func13, Try.ntmps13
  go_wp2_with fail
  as_aux_lemma =>
  have hs1 : (w.alloc (.cells (guc g7).toArray 30)).heap.size = w.heap.size + 1 := by simp
  generalize w.alloc (.cells (guc g7).toArray 30) = w1 at *
  obtain ⟨B, hB⟩ : ∃ B, w.heap.size = B := ⟨_, rfl⟩
  rw [hB] at hs1 H1 Hb1 ⊢
  have HBx := Lib.hid hB
  have h2 := HB.new w1 ([1, 2, 3].map bv) 5
  have h3 := HB.new (w1.alloc (.cells ([1, 2, 3].map bv).toArray 5)) [.slice (some ⟨B + 1, 0, none⟩) 3 3] 22
  have hs2 : (w1.alloc (.cells ([1, 2, 3].map bv).toArray 5)).heap.size = B + 1 + 1 := by simp [hs1]
  rw [hs1] at h2
  rw [hs2] at h3
  have H2 := Lib.hid (h2.alloc (.cells #[.slice (some ⟨B + 1, 0, none⟩) 3 3] 22))
  have H3 := Lib.hid h3
  have H1' := Lib.hid ((H1.out.alloc (.cells ([1, 2, 3].map bv).toArray 5)).alloc (.cells #[.slice (some ⟨B + 1, 0, none⟩) 3 3] 22))
  have HBb := Lib.hid ((Hb1.out.alloc (by omega) (.cells ([1, 2, 3].map bv).toArray 5)).alloc (by omega) (.cells #[.slice (some ⟨B + 1, 0, none⟩) 3 3] 22))
  change Calls _ _ _ ((w1.alloc (.cells ([1, 2, 3].map bv).toArray 5)).alloc (.cells #[.slice (some ⟨B + 1, 0, none⟩) 3 3] 22)) _
  have Hsz : Hid (B ≤ ((w1.alloc (.cells ([1, 2, 3].map bv).toArray 5)).alloc (.cells #[.slice (some ⟨B + 1, 0, none⟩) 3 3] 22)).heap.size) := Lib.hid (by simp [hs1]; omega)
  clear h1 hb1 h2 h3 hs1 hs2 H1 Hb1 hB
  generalize (w1.alloc (.cells ([1, 2, 3].map bv).toArray 5)).alloc (.cells #[.slice (some ⟨B + 1, 0, none⟩) 3 3] 22) = w2 at *
  have hrd : Rd w2 (some ⟨B + 1, 0, none⟩) [1, 2, 3] := fun j hj => ⟨B + 1, 0, rfl, by rw [Nat.zero_add]; exact H2.out.cell (by rw [List.getElem?_map, List.getElem?_eq_getElem hj]; rfl)⟩
  obtain ⟨m1, m2, m3⟩ := alive_made
  refine (pmake_any (some ⟨B, 0, none⟩) (some ⟨B + 1 + 1, 0, none⟩) 1 1 1 1 [g7] [⟨some ⟨B + 1, 0, none⟩, 3, [1, 2, 3]⟩] w2 rfl rfl (by decide) (by decide) (Nat.le_refl _) (RdS.one H1'.out) (RdS.one H3.out) (fun m hm => by
    rw [List.mem_singleton] at hm
    subst hm
    exact ⟨hrd, Nat.le_refl _, by simp only [maxLen]; omega, fun h => by cases h⟩)).mono ?_
  rintro e w3 ⟨v, rfl, ho3, hb3⟩
  simp only [List.map_cons, List.map_nil] at ho3 ⊢
  generalize (makeR [g7] [[1, 2, 3]]).1 = L at *
  rw [m1]
  have HB3 := Lib.hid (HBb.out.trans (hb3.mono Hsz.out))
  have Hs3 : Hid (B ≤ w3.heap.size) := Lib.hid (Nat.le_trans Hsz.out hb3.size)
  obtain ⟨ao, cp, rfl, hlc, hcm, hrd3⟩ := ho3.rd
  have hnil : ao = none → cp = 0 := by
    rcases ho3.cases with ⟨h, _⟩ | ⟨g, c, h, _⟩
    · simp only [Value.slice.injEq] at h; exact fun _ => h.2.2
    · simp only [Value.slice.injEq] at h; rw [h.1]; exact fun h => by cases h
  have Him := Lib.hid (pimage_any ao L.length cp L g7 w3 rfl hlc (by omega) hnil hrd3)
  rw [m3] at Him
  have Hon := Lib.hid (fun w' => popen_any none 0 0 [] w' rfl (Nat.le_refl _) (by decide) (Rd.nil _ _))
  rw [open_nil] at Hon
  have M2 : (L.length : Int) = 99 := by omega
  clear m1 m2 m3 ho3 hb3 hrd3 hlc hcm hnil hrd H1' H2 H3 HBb Hsz hbs
  go_wp2_with fail
  as_aux_lemma =>
  refine Him.out.mono ?_
  rintro e w4 ⟨v, rfl, ho4, hb4⟩
  have HB4 := Lib.hid (HB3.out.trans (hb4.mono Hs3.out))
  have Hs4 : Hid (B ≤ w4.heap.size) := Lib.hid (Nat.le_trans Hs3.out hb4.size)
  rcases ho4.cases with ⟨_, h⟩ | ⟨g4, c4, rfl, hg4, hg5, hg6, hg7, hcell, -⟩
  · cases h
  have c2 := hcell 2 (by decide)
  clear ho4 hb4 Him hcell hg6 hg7 hg4
  go_wp2_with fail
  refine (Hon.out _).mono ?_
  rintro e w5 ⟨v5, rfl, -, hb5⟩
  have HB5 := Lib.hid (HB4.out.trans (hb5.mono Hs4.out))
  have c2' := (hb5.cell (p := ⟨g4, 2, none⟩) hg5).trans c2
  clear hb5 c2 Hon
  go_wp2_with fail
  go_ret
  exact ⟨rfl, by rw [HBx.out]; exact HB5.out⟩
end Go.Proofs.Ytefkmlfpdlnodaa
