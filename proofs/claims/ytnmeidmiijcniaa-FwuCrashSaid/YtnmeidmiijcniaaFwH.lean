/- The updater's calls: Begin, Finish, Accept, Cancel, Choose. No condition. -/
import Derived.Test.YtnmeidmiijcniaaFwG
set_option linter.unusedVariables false
set_option linter.unusedSimpArgs false
namespace Go.Proofs.Ytnmeidmiijcniaa
open Go.RowKit
theorem accept_g : OpG acceptE := ⟨fun m => by unfold acceptE; split <;> (try split) <;> rfl, fun m h => by unfold acceptE; split <;> (try split) <;> exact h⟩
theorem cancel_g : OpG cancelE := ⟨fun m => by unfold cancelE; split <;> (try split) <;> rfl, fun m h => by unfold cancelE; split <;> (try split) <;> exact h⟩
theorem begin_g : OpG beginE := ⟨fun m => by unfold beginE; split <;> (try split) <;> rfl, fun m h => by unfold beginE; split <;> (try split) <;> exact h⟩
theorem finish_g : OpG finishE := ⟨fun m => by unfold finishE; split <;> (try split) <;> (try split) <;> rfl, fun m h => by unfold finishE; split <;> (try split) <;> (try split) <;> first | exact h | exact .inr rfl | exact .inl rfl⟩
theorem choose_g : OpG chooseE := ⟨fun m => by unfold chooseE; split <;> (try split) <;> (try split) <;> (try split) <;> rfl, fun m h => by unfold chooseE; split <;> (try split) <;> (try split) <;> (try split) <;> first | exact h | exact .inr rfl | exact .inl rfl⟩
theorem begin_up (u p mb n : Nat) (s : Up) (f : Fl) (w : World) (h : UpA w u p mb n s f) (hn : n < 281474976710655) (hw0 : 0 ≤ f.writes) (hw1 : f.writes < 9223372036854775807) :
    Calls Try.prog 20 #[.pointer (some ⟨u, 0, none⟩)] w fun e w' =>
      e = .returned (.int .i64 (chgF beginE f s.meta').2.2) ∧ UpA w' u p mb (n + 1) s (chgF beginE f s.meta').1 ∧ Frm (fun q => q = p ∨ q = mb) w w' := by
  have Hc := Lib.hid (change_any _ _ begin_cl begin_g u p mb n s f w h hn hw0 hw1)
  clear h hn hw0 hw1
  obtain ⟨T, hT⟩ : ∃ T, chgF beginE f s.meta' = T := ⟨_, rfl⟩
  rw [hT] at Hc ⊢
  clear hT
  obtain ⟨F, b, e⟩ := T
  dsimp only at Hc ⊢
  go_enter Try.func20, Try.ntmps20
  go_wp2_with fail
  refine Hc.out.mono ?_
  rintro e w1 ⟨rfl, hu, hf⟩
  have HU := Lib.hid hu
  have HF := Lib.hid hf
  clear hu hf Hc
  go_wp2_with fail
  go_ret
  exact ⟨rfl, HU.out, HF.out⟩
theorem finish_up (u p mb n : Nat) (s : Up) (f : Fl) (w : World) (h : UpA w u p mb n s f) (hn : n < 281474976710655) (hw0 : 0 ≤ f.writes) (hw1 : f.writes < 9223372036854775807) :
    Calls Try.prog 22 #[.pointer (some ⟨u, 0, none⟩)] w fun e w' =>
      e = .returned (.int .i64 (chgF finishE f s.meta').2.2) ∧ UpA w' u p mb (n + 1) s (chgF finishE f s.meta').1 ∧ Frm (fun q => q = p ∨ q = mb) w w' := by
  have Hc := Lib.hid (change_any _ _ finish_cl finish_g u p mb n s f w h hn hw0 hw1)
  clear h hn hw0 hw1
  obtain ⟨T, hT⟩ : ∃ T, chgF finishE f s.meta' = T := ⟨_, rfl⟩
  rw [hT] at Hc ⊢
  clear hT
  obtain ⟨F, b, e⟩ := T
  dsimp only at Hc ⊢
  go_enter Try.func22, Try.ntmps22
  go_wp2_with fail
  refine Hc.out.mono ?_
  rintro e w1 ⟨rfl, hu, hf⟩
  have HU := Lib.hid hu
  have HF := Lib.hid hf
  clear hu hf Hc
  go_wp2_with fail
  go_ret
  exact ⟨rfl, HU.out, HF.out⟩
theorem accept_up (u p mb n : Nat) (s : Up) (f : Fl) (w : World) (h : UpA w u p mb n s f) (hn : n < 281474976710655) (hw0 : 0 ≤ f.writes) (hw1 : f.writes < 9223372036854775807) :
    Calls Try.prog 23 #[.pointer (some ⟨u, 0, none⟩)] w fun e w' =>
      e = .returned (.int .i64 (chgF acceptE f s.meta').2.2) ∧ UpA w' u p mb (n + 1) s (chgF acceptE f s.meta').1 ∧ Frm (fun q => q = p ∨ q = mb) w w' := by
  have Hc := Lib.hid (change_any _ _ accept_cl accept_g u p mb n s f w h hn hw0 hw1)
  clear h hn hw0 hw1
  obtain ⟨T, hT⟩ : ∃ T, chgF acceptE f s.meta' = T := ⟨_, rfl⟩
  rw [hT] at Hc ⊢
  clear hT
  obtain ⟨F, b, e⟩ := T
  dsimp only at Hc ⊢
  go_enter Try.func23, Try.ntmps23
  go_wp2_with fail
  refine Hc.out.mono ?_
  rintro e w1 ⟨rfl, hu, hf⟩
  have HU := Lib.hid hu
  have HF := Lib.hid hf
  clear hu hf Hc
  go_wp2_with fail
  go_ret
  exact ⟨rfl, HU.out, HF.out⟩
theorem cancel_up (u p mb n : Nat) (s : Up) (f : Fl) (w : World) (h : UpA w u p mb n s f) (hn : n < 281474976710655) (hw0 : 0 ≤ f.writes) (hw1 : f.writes < 9223372036854775807) :
    Calls Try.prog 24 #[.pointer (some ⟨u, 0, none⟩)] w fun e w' =>
      e = .returned (.int .i64 (chgF cancelE f s.meta').2.2) ∧ UpA w' u p mb (n + 1) s (chgF cancelE f s.meta').1 ∧ Frm (fun q => q = p ∨ q = mb) w w' := by
  have Hc := Lib.hid (change_any _ _ cancel_cl cancel_g u p mb n s f w h hn hw0 hw1)
  clear h hn hw0 hw1
  obtain ⟨T, hT⟩ : ∃ T, chgF cancelE f s.meta' = T := ⟨_, rfl⟩
  rw [hT] at Hc ⊢
  clear hT
  obtain ⟨F, b, e⟩ := T
  dsimp only at Hc ⊢
  go_enter Try.func24, Try.ntmps24
  go_wp2_with fail
  refine Hc.out.mono ?_
  rintro e w1 ⟨rfl, hu, hf⟩
  have HU := Lib.hid hu
  have HF := Lib.hid hf
  clear hu hf Hc
  go_wp2_with fail
  go_ret
  exact ⟨rfl, HU.out, HF.out⟩
def chooseF (t : Fl × Int × Int) : Value := .tuple #[.int .i64 (if t.2.2 = 0 then t.2.1 else 0), .int .i64 t.2.2]
theorem choose_up (u p mb n : Nat) (s : Up) (f : Fl) (w : World) (h : UpA w u p mb n s f) (hn : n < 281474976710655) (hw0 : 0 ≤ f.writes) (hw1 : f.writes < 9223372036854775807) :
    Calls Try.prog 18 #[.pointer (some ⟨u, 0, none⟩)] w fun e w' =>
      e = .returned (chooseF (chgF chooseE f s.meta')) ∧ UpA w' u p mb (n + 1) s (chgF chooseE f s.meta').1 ∧ Frm (fun q => q = p ∨ q = mb) w w' := by
  have Hc := Lib.hid (change_any _ _ choose_cl choose_g u p mb n s f w h hn hw0 hw1)
  clear h hn hw0 hw1
  obtain ⟨T, hT⟩ : ∃ T, chgF chooseE f s.meta' = T := ⟨_, rfl⟩
  rw [hT] at Hc ⊢
  clear hT
  obtain ⟨F, b, e⟩ := T
  dsimp only at Hc ⊢
  by_cases he : e = 0
  · subst he
    go_enter Try.func18, Try.ntmps18
    go_wp2_with fail
    refine Hc.out.mono ?_
    rintro e w1 ⟨rfl, hu, hf⟩
    have HU := Lib.hid hu
    have HF := Lib.hid hf
    clear hu hf Hc
    go_wp2_with fail
    go_ret2
    exact ⟨rfl, HU.out, HF.out⟩
  · have hv : chooseF (F, b, e) = .tuple #[.int .i64 0, .int .i64 e] := by unfold chooseF; simp [he]
    rw [hv]
    clear hv
    go_enter Try.func18, Try.ntmps18
    go_wp2_with fail
    refine Hc.out.mono ?_
    rintro e w1 ⟨rfl, hu, hf⟩
    have HU := Lib.hid hu
    have HF := Lib.hid hf
    clear hu hf Hc
    go_wp2_with fail
    go_ret2
    exact ⟨rfl, HU.out, HF.out⟩
end Go.Proofs.Ytnmeidmiijcniaa
