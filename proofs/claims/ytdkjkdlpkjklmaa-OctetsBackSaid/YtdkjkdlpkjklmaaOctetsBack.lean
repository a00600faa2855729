/- What was laid down is read again, and no other byte is touched: the walk. No condition. -/
import Derived.Test.YtdkjkdlpkjklmaaOctAny
import Derived.Test.YtdkjkdlpkjklmaaAlive1
import Derived.Test.YtdkjkdlpkjklmaaOpen
namespace Go.Proofs.Ytdkjkdlpkjklmaa.octetsBack
open Go.ChangeShapes Go.WideShapes Go.ChangeAt Go.RowKit
set_option linter.unusedVariables false
set_option linter.unusedSimpArgs false
structure In (W : World) (n : Nat) (i : Value) (wr : World) : Prop where
  x : ∃ (k : Nat), k ≤ n ∧ i = .int .i64 k ∧ Drn W wr
theorem putE_cases (n : Nat) (A k : Int) (v : Nat) : (SizeOk k ∧ PlaceOk n A k ∧ v < 256 ^ k.toNat ∧ putE n A k v = 0) ∨ (¬ (SizeOk k ∧ PlaceOk n A k ∧ v < 256 ^ k.toNat) ∧ (putE n A k v == 0) = false) := by
  unfold putE
  by_cases h1 : SizeOk k
  · by_cases h2 : PlaceOk n A k
    · by_cases h3 : v < 256 ^ k.toNat
      · exact .inl ⟨h1, h2, h3, by rw [if_pos h1, if_pos h2, if_pos h3]⟩
      · exact .inr ⟨fun h => h3 h.2.2, by rw [if_pos h1, if_pos h2, if_neg h3]; rfl⟩
    · exact .inr ⟨fun h => h2 h.2.1, by rw [if_pos h1, if_neg h2]; rfl⟩
  · exact .inr ⟨fun h => h1 h.1, by rw [if_neg h1]; rfl⟩
set_option maxHeartbeats 1000000 in
theorem core_no (W : World) (ao : Option Addr) (n cap : Nat) (l : List UInt8) (At Size : Int) (Big : Bool) (V : Nat) (hl : l.length = n) (hn : n ≤ 140737488351232) (hr : Rd W ao l) (hc : ao = none → cap = 0) (hV : V < 18446744073709551616)
    (hno : ¬ (SizeOk Size ∧ PlaceOk n At Size ∧ V < 256 ^ Size.toNat)) (he : (putE n At Size V == 0) = false) :
    Calls Try.prog 7 #[.agg #[.slice ao n cap, .int .i64 At, .int .i64 Size, .bool Big, .int .u64 V]] W fun e w' => e = .returned (.bool true) ∧ Below W.heap.size W w' := by
  have hR := Lib.hid (putR_no (l := l) (big := Big) (by rw [hl]; exact hno))
  have he2 : (putE n At Size V != 0) = true := by rw [bne, he]; rfl
  clear hno
  have Hhl := Lib.hid hl
  clear hl
  have HhV := Lib.hid hV
  clear hV
  have Hhc := Lib.hid hc
  clear hc
  go_enter Try.func7, Try.ntmps7
  go_wp2_with fail
  go_quiet (fail)
  go_wp2_with fail
  refine (put_any ao n cap At Size V l Big _ Hhl.out hn Hhc.out ?hr0 HhV.out).mono ?_
  case hr0 => exact hr.below (((Below.refl _ _).alloc (Nat.le_refl _) _).trans (Drn.below ⟨nq, rfl⟩ _))
  rintro e w1 ⟨y, rfl, hy, hb⟩
  have hb1 : Below W.heap.size W w1 := (((Below.refl _ _).alloc (Nat.le_refl _) _).trans (Drn.below ⟨nq, rfl⟩ _)).trans (hb.mono (by simp))
  rw [hR.out] at hy
  have hyv : ∃ yo yc, y = .slice yo 0 yc := by
    obtain ⟨yo, yc, h, -⟩ := hy.rd
    exact ⟨yo, yc, h⟩
  obtain ⟨yo, yc, hyv⟩ := hyv
  subst hyv
  clear hb hy hr
  generalize putE n At Size V = pe at *
  go_wp2_with fail
  refine (alive_any w1).mono ?_
  rintro e w2 ⟨rfl, hb⟩
  have hb2 := hb1.trans (hb.mono hb1.size)
  clear hb hb1
  go_wp2_with fail
  go_ret
  exact ⟨rfl, hb2⟩
set_option maxHeartbeats 1000000 in
theorem core_ok (W : World) (ao : Option Addr) (n cap At Size : Nat) (l : List UInt8) (Big : Bool) (V : Nat) (hl : l.length = n) (hn : n ≤ 140737488351232) (hr : Rd W ao l) (hc : ao = none → cap = 0)
    (hs : SizeOk Size) (hp : At + Size ≤ n) (hV : V < 256 ^ Size) :
    Calls Try.prog 7 #[.agg #[.slice ao n cap, .int .i64 At, .int .i64 Size, .bool Big, .int .u64 V]] W fun e w' => e = .returned (.bool true) ∧ Below W.heap.size W w' := by
  have hk8 : 1 ≤ Size ∧ Size ≤ 8 := by unfold SizeOk at hs; omega
  have Hhl := Lib.hid hl
  clear hl
  have HhV := Lib.hid hV
  clear hV
  have Hhc := Lib.hid hc
  clear hc
  have Hhs := Lib.hid hs
  clear hs
  go_enter Try.func7, Try.ntmps7
  go_wp2_with fail
  go_quiet (fail)
  go_wp2_with fail
  refine (put_ok ao n cap At Size V l Big _ Hhl.out hn Hhc.out ?hr0 Hhs.out hp HhV.out).mono ?_
  case hr0 => exact hr.below (((Below.refl _ _).alloc (Nat.le_refl _) _).trans (Drn.below ⟨nq, rfl⟩ _))
  rintro e w1 ⟨g, C, rfl, hC, hy, hb⟩
  have hb1 : Below W.heap.size W w1 := (((Below.refl _ _).alloc (Nat.le_refl _) _).trans (Drn.below ⟨nq, rfl⟩ _)).trans (hb.mono (by simp))
  clear hb
  have hyr : Rd w1 (some ⟨g, 0, none⟩) (putL l At Size Big V) := by
    obtain ⟨-, -, -, -, -, h, -⟩ := hy.at
    exact fun j hj => ⟨g, 0, rfl, by rw [Nat.zero_add]; exact h j (by rw [putL_length] at hj; have := Hhl.out; omega)⟩
  have hyl : (putL l At Size Big V).length = n := by rw [putL_length]; exact Hhl.out
  have Hhyl := Lib.hid hyl
  clear hyl
  go_wp2_with fail
  refine (get_ok (some ⟨g, 0, none⟩) n C At Size (putL l At Size Big V) Big w1 Hhyl.out hn hyr Hhs.out hp).mono ?_
  rintro e w2 ⟨rfl, hd⟩
  rw [getN_putL l At Size Big V (by have := Hhl.out; omega) HhV.out]
  have hy2 := hyr
  have hb2 := hb1.trans (hd.below _)
  have hyr2 := hd.rd hyr
  have hr2 := hr.below hb2
  clear hb1 hyr hy hy2 hd
  go_wp2_with fail
  go_loopw [12] (In w2 n) (fun i _ => n - (intOf i).toNat)
  case atStart => exact ⟨0, by omega, rfl, Drn.refl _⟩
  case round =>
    obtain ⟨k, hk, rfl, hd⟩ := hrel
    by_cases hlt : k < n
    · obtain ⟨b1, o1, e1, hc1⟩ := hd.rd hyr2 k (by have := Hhyl.out; omega)
      obtain ⟨b2, o2, rfl, hc2⟩ := hd.rd hr2 k (by have := Hhl.out; omega)
      cases e1
      rw [Nat.zero_add] at hc1
      by_cases h1 : k < At
      · have hoth := putL_other l At Size Big V k (by omega)
        rw [hoth] at hc1
        generalize l[k]?.getD 0 = c at *
        clear hoth
        go_wp2_with fail
        have t1 : decide ((k : Int) < (At : Int)) = true := decide_eq_true (by omega)
        have i0 : (0 : Int) ≤ (k : Int) := by omega
        have i1 : (k : Int) < (n : Int) := by omega
        go_quiet (fail)
        clear t1 i0 i1
        go_wp2_with fail
        first
        | (go_roundw
           case rel => exact ⟨k + 1, by omega, by go_num, hd.step _⟩
           case measure => (first | omega | (simp [intOf] <;> omega) | (simp only [intOf] <;> omega)))
        | exact ⟨⟨k + 1, by omega, by go_num, hd.step _⟩, by (first | omega | (simp [intOf] <;> omega) | (simp only [intOf] <;> omega))⟩
        | (refine ⟨?_, by (first | omega | (simp [intOf] <;> omega) | (simp only [intOf] <;> omega))⟩
           (repeat apply Exists.intro)
           refine (fun a b => And.intro b a) ?_ ?_
           · first | rfl | ((repeat refine ⟨rfl, ?_⟩); rfl)
           exact ⟨k + 1, by omega, by go_num, hd.step _⟩)
      · by_cases h2 : k < At + Size
        · clear hc1 hc2
          go_wp2_with fail
          have t1 : decide ((k : Int) < (At : Int)) = false := decide_eq_false (by omega)
          have t2 : decide ((At : Int) + (Size : Int) ≤ (k : Int)) = false := decide_eq_false (by omega)
          have e1 : IntKind.i64.wrap ((At : Int) + (Size : Int)) = (At : Int) + (Size : Int) := IntWalk.i64_in _ (by omega)
          go_quiet (fail)
          clear t1 t2 e1
          go_wp2_with fail
          first
          | (go_roundw
             case rel => exact ⟨k + 1, by omega, by go_num, hd.step _⟩
             case measure => (first | omega | (simp [intOf] <;> omega) | (simp only [intOf] <;> omega)))
          | exact ⟨⟨k + 1, by omega, by go_num, hd.step _⟩, by (first | omega | (simp [intOf] <;> omega) | (simp only [intOf] <;> omega))⟩
          | (refine ⟨?_, by (first | omega | (simp [intOf] <;> omega) | (simp only [intOf] <;> omega))⟩
             (repeat apply Exists.intro)
             refine (fun a b => And.intro b a) ?_ ?_
             · first | rfl | ((repeat refine ⟨rfl, ?_⟩); rfl)
             exact ⟨k + 1, by omega, by go_num, hd.step _⟩)
        · have hoth := putL_other l At Size Big V k (by omega)
          rw [hoth] at hc1
          generalize l[k]?.getD 0 = c at *
          clear hoth
          go_wp2_with fail
          have t1 : decide ((k : Int) < (At : Int)) = false := decide_eq_false (by omega)
          have t2 : decide ((At : Int) + (Size : Int) ≤ (k : Int)) = true := decide_eq_true (by omega)
          have e1 : IntKind.i64.wrap ((At : Int) + (Size : Int)) = (At : Int) + (Size : Int) := IntWalk.i64_in _ (by omega)
          have i0 : (0 : Int) ≤ (k : Int) := by omega
          have i1 : (k : Int) < (n : Int) := by omega
          go_quiet (fail)
          clear t1 t2 e1 i0 i1
          go_wp2_with fail
          first
          | (go_roundw
             case rel => exact ⟨k + 1, by omega, by go_num, hd.step _⟩
             case measure => (first | omega | (simp [intOf] <;> omega) | (simp only [intOf] <;> omega)))
          | exact ⟨⟨k + 1, by omega, by go_num, hd.step _⟩, by (first | omega | (simp [intOf] <;> omega) | (simp only [intOf] <;> omega))⟩
          | (refine ⟨?_, by (first | omega | (simp [intOf] <;> omega) | (simp only [intOf] <;> omega))⟩
             (repeat apply Exists.intro)
             refine (fun a b => And.intro b a) ?_ ?_
             · first | rfl | ((repeat refine ⟨rfl, ?_⟩); rfl)
             exact ⟨k + 1, by omega, by go_num, hd.step _⟩)
    · have hb3 := hb2.trans (hd.below _)
      have hyr3 := hd.rd hyr2
      have hr3 := hd.rd hr2
      clear hr hr2 hyr2 hb2 hd
      go_wp2_with fail
      refine (get_ok ao n cap At Size l Big wr Hhl.out hn hr3 Hhs.out hp).mono ?_
      rintro e w4 ⟨rfl, hd⟩
      have hb4 := hb3.trans (hd.below _)
      have hyr4 := hd.rd hyr3
      have hr4 := hd.rd hr3
      clear hb3 hyr3 hr3 hd
      go_wp2_with fail
      refine (put_ok (some ⟨g, 0, none⟩) n C At Size (getN l At Size Big) (putL l At Size Big V) Big w4 Hhyl.out hn (by intro h; cases h) hyr4 Hhs.out hp (getN_lt _ _ _ _ (by have := Hhl.out; omega))).mono ?_
      rintro e w5 ⟨g5, C5, rfl, hC5, ho5, hb⟩
      rw [putL_back l At Size Big V (by have := Hhl.out; omega)] at ho5
      have hd5 : Rd w5 (some ⟨g5, 0, none⟩) l := by
        obtain ⟨-, -, -, -, -, h, -⟩ := ho5.at
        exact fun j hj => ⟨g5, 0, rfl, by rw [Nat.zero_add]; exact h j (by have := Hhl.out; omega)⟩
      have hr5 := hr4.below (hb.mono (Nat.le_refl _))
      have hb5 := hb4.trans (hb.mono hb4.size)
      clear hb hb4 hr4 ho5 hyr4
      generalize getN l At Size Big = gx at *
      go_wp2_with fail
      refine (same_true (some ⟨g5, 0, none⟩) ao n n C5 cap l l w5 rfl Hhl.out Hhl.out (by omega) (by omega) hd5 hr5).mono ?_
      rintro e w6 ⟨rfl, hd⟩
      have hb6 := hb5.trans (hd.below _)
      clear hd hb5 hr5 hd5
      go_wp2_with fail
      refine (alive_any w6).mono ?_
      rintro e w7 ⟨rfl, hb⟩
      have hb7 := hb6.trans (hb.mono hb6.size)
      clear hb hb6
      go_wp2_with fail
      go_ret
      exact ⟨rfl, hb7⟩
theorem walk {H : Type} (enc : TypeId × Value → H) (W : World) (base : Nat) (v0 : Value) (d0 : DataW H) (p0 : List MemPlace)
    (k0 : Value.okWide Try.prog W .any base 38 v0)
    (h0 : DataW.Trod enc Try.prog W 0 (fun _ => true) true 38 v0 d0 p0)
    (hsz : (DataW.weightsEach Try.prog [38] ([d0] ++ [])).all (· ≤ reachBytes) = true) :
    Calls Try.prog 7 #[v0] W fun e w' => e = .returned (.bool true) ∧ Below W.heap.size W w' := by
  simp only [List.cons_append, List.nil_append, DataW.weightsEach] at hsz
  obtain ⟨z0, hsz⟩ := all_app hsz
  obtain ⟨cs_, xs_, n_, rfl, hsz_, rfl, hxl_, hf_⟩ := open_struct Try.underlying38 k0 h0
  obtain ⟨c_B, c_At, c_Size, c_Big, c_V, rfl⟩ := arr5 (hsz_.trans (by kernel_rfl : Try.prog.cellsOf 38 = 5))
  obtain ⟨y_B, y_At, y_Size, y_Big, y_V, rfl⟩ := lst5 (hxl_.trans rfl)
  have cltuint8 : Try.prog.cellsOf 23 = 1 := by kernel_rfl
  have cltbool : Try.prog.cellsOf 4 = 1 := by kernel_rfl
  have cltint : Try.prog.cellsOf 3 = 1 := by kernel_rfl
  have cltuint64 : Try.prog.cellsOf 29 = 1 := by kernel_rfl
  have e_B : DataW.trod enc Try.prog W 0 (fun _ => true) true n_ 23 [c_B] = some y_B := by have := hf_ 0 _ rfl; simpa [cltuint8] using this
  have e_At : DataW.trod enc Try.prog W 0 (fun _ => true) true n_ 3 [c_At] = some y_At := by have := hf_ 1 _ rfl; simpa [cltint] using this
  have e_Size : DataW.trod enc Try.prog W 0 (fun _ => true) true n_ 3 [c_Size] = some y_Size := by have := hf_ 2 _ rfl; simpa [cltint] using this
  have e_Big : DataW.trod enc Try.prog W 0 (fun _ => true) true n_ 4 [c_Big] = some y_Big := by have := hf_ 3 _ rfl; simpa [cltbool] using this
  have e_V : DataW.trod enc Try.prog W 0 (fun _ => true) true n_ 29 [c_V] = some y_V := by have := hf_ 4 _ rfl; simpa [cltuint64] using this
  simp only [DataW.weights, Try.underlying38, List.map_cons, List.map_nil, DataW.weightsEach] at z0
  obtain ⟨z_B, zz_0⟩ := all_app z0
  obtain ⟨z_At, zz_1⟩ := all_app zz_0
  obtain ⟨z_Size, zz_2⟩ := all_app zz_1
  obtain ⟨z_Big, zz_3⟩ := all_app zz_2
  obtain ⟨z_V, zz_4⟩ := all_app zz_3
  obtain ⟨ao_B, n_B, cap_B, l_B, rfl, hl_B, hn_B, hcap_B, hrd_B, hc_B⟩ := trod_bytes Try.underlying23 Try.underlying5 (by kernel_rfl) (by kernel_rfl) e_B z_B
  obtain ⟨At, rfl, h0_At, h1_At⟩ := trod_i64 Try.underlying3 e_At
  obtain ⟨Size, rfl, h0_Size, h1_Size⟩ := trod_i64 Try.underlying3 e_Size
  obtain ⟨Big, rfl⟩ := trod_b Try.underlying4 e_Big
  obtain ⟨V, rfl, h_V⟩ := trod_u64 Try.underlying29 e_V
  clear hf_ hsz_ hxl_ e_B e_At e_Size e_Big e_V z_B z_At z_Size z_Big z_V zz_0 zz_1 zz_2 zz_3 zz_4 z0 cltuint8 cltbool cltint cltuint64
  rcases putE_cases n_B At Size V with ⟨hs, ⟨p0, p1⟩, hv, _⟩ | ⟨hno, he⟩
  · have hk1 : 1 ≤ Size := by unfold SizeOk at hs; omega
    obtain ⟨At, rfl⟩ := Int.eq_ofNat_of_zero_le p0
    obtain ⟨Size, rfl⟩ := Int.eq_ofNat_of_zero_le (show 0 ≤ Size by omega)
    exact core_ok W _ _ _ _ _ _ _ _ hl_B (by omega) hrd_B hc_B hs (by omega) hv
  · exact core_no W _ _ _ _ _ _ _ _ hl_B (by omega) hrd_B hc_B h_V hno he
end Go.Proofs.Ytdkjkdlpkjklmaa.octetsBack
