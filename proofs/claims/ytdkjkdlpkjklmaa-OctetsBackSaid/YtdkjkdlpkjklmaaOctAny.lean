/- Get and Put, the program's and the document's, at any arguments: one answer each. No condition. -/
import Derived.Test.YtdkjkdlpkjklmaaRef3
set_option linter.unusedVariables false
set_option linter.unusedSimpArgs false
namespace Go.Proofs.Ytdkjkdlpkjklmaa
open Go.RowKit
open Classical in
noncomputable def getE (n : Nat) (A k : Int) : Int := if SizeOk k then (if PlaceOk n A k then 0 else 11) else 1
open Classical in
noncomputable def getX (l : List UInt8) (A k : Int) (big : Bool) : Nat := if SizeOk k ∧ PlaceOk l.length A k then getN l A.toNat k.toNat big else 0
open Classical in
noncomputable def putE (n : Nat) (A k : Int) (v : Nat) : Int := if SizeOk k then (if PlaceOk n A k then (if v < 256 ^ k.toNat then 0 else 12) else 11) else 1
open Classical in
noncomputable def putR (l : List UInt8) (A k : Int) (big : Bool) (v : Nat) : List UInt8 := if SizeOk k ∧ PlaceOk l.length A k ∧ v < 256 ^ k.toNat then putL l A.toNat k.toNat big v else []
theorem get_any (ao : Option Addr) (n cap : Nat) (A k : Int) (l : List UInt8) (big : Bool) (w : World) (hl : l.length = n) (hn : n ≤ 140737488351232) (hr : Rd w ao l) :
    Calls Try.prog 18 #[.slice ao n cap, .int .i64 A, .int .i64 k, .bool big] w fun e w' => e = .returned (.tuple #[.int .u64 (getX l A k big), .int .i64 (getE n A k)]) ∧ Drn w w' := by
  by_cases hs : SizeOk k
  · by_cases hp : PlaceOk n A k
    · obtain ⟨p0, p1⟩ := hp
      have hk1 : 1 ≤ k := by unfold SizeOk at hs; omega
      obtain ⟨A, rfl⟩ := Int.eq_ofNat_of_zero_le p0
      obtain ⟨k, rfl⟩ := Int.eq_ofNat_of_zero_le (show 0 ≤ k by omega)
      refine (get_ok ao n cap A k l big w hl hn hr hs (by omega)).mono fun e w' ⟨he, hd⟩ => ⟨?_, hd⟩
      rw [he]
      unfold getE getX
      rw [if_pos hs, if_pos (show PlaceOk n A k from ⟨p0, p1⟩), if_pos (show SizeOk (k : Int) ∧ PlaceOk l.length A k from ⟨hs, by rw [hl]; exact ⟨p0, p1⟩⟩)]
      rfl
    · refine (get_end ao n cap A k big w hn hs hp).mono fun e w' ⟨he, hd⟩ => ⟨?_, hd ▸ Drn.refl _⟩
      rw [he]
      unfold getE getX
      rw [if_pos hs, if_neg hp, if_neg (by rw [hl]; exact fun h => hp h.2)]
      rfl
  · refine (get_size ao n cap A k big w hs).mono fun e w' ⟨he, hd⟩ => ⟨?_, hd ▸ Drn.refl _⟩
    rw [he]
    unfold getE getX
    rw [if_neg hs, if_neg (fun h => hs h.1)]
    rfl
theorem rget_any (ao : Option Addr) (n cap : Nat) (A k : Int) (l : List UInt8) (big : Bool) (w : World) (hl : l.length = n) (hn : n ≤ 140737488351232) (hr : Rd w ao l) :
    Calls Try.prog 20 #[.slice ao n cap, .int .i64 A, .int .i64 k, .bool big] w fun e w' => e = .returned (.tuple #[.int .u64 (getX l A k big), .int .i64 (getE n A k)]) ∧ w = w' := by
  by_cases hs : SizeOk k
  · by_cases hp : PlaceOk n A k
    · obtain ⟨p0, p1⟩ := hp
      have hk1 : 1 ≤ k := by unfold SizeOk at hs; omega
      obtain ⟨A, rfl⟩ := Int.eq_ofNat_of_zero_le p0
      obtain ⟨k, rfl⟩ := Int.eq_ofNat_of_zero_le (show 0 ≤ k by omega)
      refine (rget_ok ao n cap A k l big w hl hn hr hs (by omega)).mono fun e w' ⟨he, hd⟩ => ⟨?_, hd⟩
      rw [he]
      unfold getE getX
      rw [if_pos hs, if_pos (show PlaceOk n A k from ⟨p0, p1⟩), if_pos (show SizeOk (k : Int) ∧ PlaceOk l.length A k from ⟨hs, by rw [hl]; exact ⟨p0, p1⟩⟩)]
      rfl
    · refine (rget_end ao n cap A k big w hn hs hp).mono fun e w' ⟨he, hd⟩ => ⟨?_, hd⟩
      rw [he]
      unfold getE getX
      rw [if_pos hs, if_neg hp, if_neg (by rw [hl]; exact fun h => hp h.2)]
      rfl
  · refine (rget_size ao n cap A k big w hs).mono fun e w' ⟨he, hd⟩ => ⟨?_, hd⟩
    rw [he]
    unfold getE getX
    rw [if_neg hs, if_neg (fun h => hs h.1)]
    rfl
theorem putE_ok {n : Nat} {A k : Int} {v : Nat} (hs : SizeOk k) (hp : PlaceOk n A k) (hv : v < 256 ^ k.toNat) : putE n A k v = 0 := by unfold putE; rw [if_pos hs, if_pos hp, if_pos hv]
theorem putR_ok {l : List UInt8} {A k : Int} {big : Bool} {v : Nat} (hs : SizeOk k) (hp : PlaceOk l.length A k) (hv : v < 256 ^ k.toNat) : putR l A k big v = putL l A.toNat k.toNat big v := by unfold putR; rw [if_pos ⟨hs, hp, hv⟩]
theorem putR_no {l : List UInt8} {A k : Int} {big : Bool} {v : Nat} (h : ¬ (SizeOk k ∧ PlaceOk l.length A k ∧ v < 256 ^ k.toNat)) : putR l A k big v = [] := by unfold putR; rw [if_neg h]
theorem put_any (ao : Option Addr) (n cap : Nat) (A k : Int) (v : Nat) (l : List UInt8) (big : Bool) (w : World) (hl : l.length = n) (hn : n ≤ 140737488351232) (hc : ao = none → cap = 0) (hr : Rd w ao l) (hv64 : v < 18446744073709551616) :
    Calls Try.prog 19 #[.slice ao n cap, .int .i64 A, .int .i64 k, .bool big, .int .u64 v] w fun e w' =>
      ∃ y, e = .returned (.tuple #[y, .int .i64 (putE n A k v)]) ∧ Own 5 w' w.heap.size y (putR l A k big v) ∧ Below w.heap.size w w' := by
  by_cases hs : SizeOk k
  · by_cases hp : PlaceOk n A k
    · have hpl : PlaceOk l.length A k := by rw [hl]; exact hp
      obtain ⟨p0, p1⟩ := hp
      have hk1 : 1 ≤ k := by unfold SizeOk at hs; omega
      obtain ⟨A, rfl⟩ := Int.eq_ofNat_of_zero_le p0
      obtain ⟨k, rfl⟩ := Int.eq_ofNat_of_zero_le (show 0 ≤ k by omega)
      by_cases hv : v < 256 ^ k
      · refine (put_ok ao n cap A k v l big w hl hn hc hr hs (by omega) hv).mono fun e w' ⟨g, C, he, hC, ho, hb⟩ => ⟨_, ?_, by rw [putR_ok hs hpl hv]; exact ho, hb⟩
        rw [he, putE_ok hs ⟨p0, p1⟩ hv]
      · refine (put_range ao n cap A k v big w hn hs (by omega) hv hv64).mono fun e w' ⟨he, hd⟩ => ⟨.slice none 0 0, ?_, by rw [putR_no (fun h => hv h.2.2)]; exact Own.nil _ _ _, hd ▸ Below.refl _ _⟩
        rw [he]; unfold putE; rw [if_pos hs, if_pos (show PlaceOk n A k from ⟨p0, p1⟩), if_neg (show ¬ v < 256 ^ (k : Int).toNat from hv)]
    · refine (put_end ao n cap A k v big w hn hs hp).mono fun e w' ⟨he, hd⟩ => ⟨.slice none 0 0, ?_, by rw [putR_no (fun h => hp (hl ▸ h.2.1))]; exact Own.nil _ _ _, hd ▸ Below.refl _ _⟩
      rw [he]; unfold putE; rw [if_pos hs, if_neg hp]
  · refine (put_size ao n cap A k v big w hs).mono fun e w' ⟨he, hd⟩ => ⟨.slice none 0 0, ?_, by rw [putR_no (fun h => hs h.1)]; exact Own.nil _ _ _, hd ▸ Below.refl _ _⟩
    rw [he]; unfold putE; rw [if_neg hs]
theorem rput_bad (ao : Option Addr) (n cap : Nat) (A k v : Int) (E : Int) (big : Bool) (w : World) (hE : (E == 0) = false)
    (h : ∀ w, Calls Try.prog 20 #[.slice ao n cap, .int .i64 A, .int .i64 k, .bool big] w fun e w' => e = .returned (.tuple #[.int .u64 0, .int .i64 E]) ∧ w = w') :
    Calls Try.prog 21 #[.slice ao n cap, .int .i64 A, .int .i64 k, .bool big, .int .u64 v] w fun e w' => e = .returned (.tuple #[.slice none 0 0, .int .i64 E]) ∧ w = w' := by
  have Hh := Lib.hid h
  clear h
  have hE2 : (E != 0) = true := by rw [bne, hE]; rfl
  go_enter Try.func21, Try.ntmps21
  go_wp2_with (go_at_call 20; refine (Hh.out _).mono ?_; rintro e w' ⟨rfl, rfl⟩)
  go_ret2
  exact ⟨rfl, rfl⟩
theorem rput_any (ao : Option Addr) (n cap : Nat) (A k : Int) (v : Nat) (l : List UInt8) (big : Bool) (w : World) (hl : l.length = n) (hn : n ≤ 140737488351232) (hc : ao = none → cap = 0) (hr : Rd w ao l) (hv64 : v < 18446744073709551616) :
    Calls Try.prog 21 #[.slice ao n cap, .int .i64 A, .int .i64 k, .bool big, .int .u64 v] w fun e w' =>
      ∃ y, e = .returned (.tuple #[y, .int .i64 (putE n A k v)]) ∧ Own 5 w' w.heap.size y (putR l A k big v) ∧ Below w.heap.size w w' := by
  by_cases hs : SizeOk k
  · by_cases hp : PlaceOk n A k
    · have hpl : PlaceOk l.length A k := by rw [hl]; exact hp
      obtain ⟨p0, p1⟩ := hp
      have hk1 : 1 ≤ k := by unfold SizeOk at hs; omega
      obtain ⟨A, rfl⟩ := Int.eq_ofNat_of_zero_le p0
      obtain ⟨k, rfl⟩ := Int.eq_ofNat_of_zero_le (show 0 ≤ k by omega)
      refine (rput_run ao n cap A k v l big w hl hn hc hr hs (by omega) hv64).mono fun e w' hh => ?_
      rcases hh with ⟨g, C, hv, he, hC, ho, hb⟩ | ⟨hv, he, hb⟩
      · exact ⟨_, by rw [he, putE_ok hs ⟨p0, p1⟩ hv], by rw [putR_ok hs hpl hv]; exact ho, hb⟩
      · refine ⟨.slice none 0 0, ?_, by rw [putR_no (fun h => hv h.2.2)]; exact Own.nil _ _ _, hb⟩
        rw [he]; unfold putE; rw [if_pos hs, if_pos (show PlaceOk n A k from ⟨p0, p1⟩), if_neg (show ¬ v < 256 ^ (k : Int).toNat from hv)]
    · refine (rput_bad ao n cap A k v 11 big w rfl fun w => rget_end ao n cap A k big w hn hs hp).mono fun e w' ⟨he, hd⟩ => ⟨.slice none 0 0, ?_, by rw [putR_no (fun h => hp (hl ▸ h.2.1))]; exact Own.nil _ _ _, hd ▸ Below.refl _ _⟩
      rw [he]; unfold putE; rw [if_pos hs, if_neg hp]
  · refine (rput_bad ao n cap A k v 1 big w rfl fun w => rget_size ao n cap A k big w hs).mono fun e w' ⟨he, hd⟩ => ⟨.slice none 0 0, ?_, by rw [putR_no (fun h => hs h.1)]; exact Own.nil _ _ _, hd ▸ Below.refl _ _⟩
    rw [he]; unfold putE; rw [if_neg hs]
end Go.Proofs.Ytdkjkdlpkjklmaa
