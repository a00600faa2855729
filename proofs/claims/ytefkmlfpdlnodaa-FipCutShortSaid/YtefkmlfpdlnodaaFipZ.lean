/- Opening a list of whatever length; a struct of a package's parts, opened. No condition. -/
import Derived.Test.YtefkmlfpdlnodaaFipQ
import Derived.Test.YtefkmlfpdlnodaaOpenI
import Derived.Test.YtefkmlfpdlnodaaAppL
set_option linter.unusedVariables false
set_option linter.unusedSimpArgs false
namespace Go.Proofs.Ytefkmlfpdlnodaa
open Go.RowKit Go.ChangeShapes Go.WideShapes Go.ChangeAt
theorem popen_all (ao : Option Addr) (n cap : Nat) (l : List UInt8) (w : World) (hl : l.length = n) (hcap : n ≤ cap) (hcm : n ≤ 180000000000000) (hr : Rd w ao l) :
    Calls Try.prog 10 #[.slice ao n cap] w fun e w' => ∃ v, e = .returned (.tuple #[v, .int .i64 (openR l).2]) ∧ Below w.heap.size w w' := by
  by_cases hbig : 131072 < n
  · have hres := Lib.hid (openR_head (l := l) (Or.inr (Or.inl (by omega))))
    have HBn := Lib.hid (Below.refl w.heap.size w)
    have e1 : ¬ ((n : Int) < 16) := by omega
    have e2 : (131072 : Int) < n := by omega
    clear hr
    go_enter Try.func10, Try.ntmps10
    go_wp2_with fail
    go_ret2
    exact ⟨⟨.slice none 0 0, by rw [hres.out]; rfl⟩, HBn.out⟩
  · exact (popen_any ao n cap l w hl hcap (by omega) hr).mono fun e w' ⟨v, h1, _, h2⟩ => ⟨v, h1, h2⟩
theorem trod_structs {α H : Type} {enc : TypeId × Value → H} {P : Program} {W : World} {T E sz nb fuel : Nat} {c : Value} {x : DataW H × List MemPlace} {cells : α → List Value} {Ok : α → Prop}
    (hu : P.underlying T = some (.slice E)) (hc6 : P.cellsOf E = sz) (hb24 : P.bytesOf E = nb) (h0sz : 0 < sz) (hlen6 : ∀ g, (cells g).length = sz)
    (hdec : ∀ (fuel : Nat) (cs : List Value) (y : DataW H × List MemPlace), DataW.trod enc P W 0 (fun _ => true) true fuel E cs = some y → cs.length = sz → ∃ g, cs = cells g ∧ Ok g)
    (h : DataW.trod enc P W 0 (fun _ => true) true fuel T [c] = some x) (hz : (DataW.weights P T x.1).all (· ≤ reachBytes) = true) :
    ∃ ao n cap l, c = .slice ao n cap ∧ l.length = n ∧ n ≤ cap ∧ cap * nb ≤ 140737488351232 ∧ RdS cells sz W ao l ∧ (ao = none → cap = 0) ∧ ∀ g ∈ l, Ok g := by
  rcases DataW.trod_slice hu h with ⟨hcs, rfl⟩ | ⟨ad, n, cap, elems, rest, m, _, hcs, rfl, hb0, hlc, hcm, hlen, hel, hsp, _⟩
  · simp at hcs
    subst hcs
    exact ⟨none, 0, 0, [], rfl, rfl, Nat.le_refl _, by omega, fun j g hj => by simp at hj, fun _ => rfl, fun g hg => by cases hg⟩
  · simp at hcs
    subst hcs
    obtain ⟨hrl, -⟩ := hsp rfl
    have hcap : cap * nb ≤ 140737488351232 := by
      simp [DataW.weights, hu, hb24, reachBytes] at hz
      have := hz.1
      rw [hlen, hrl] at this
      have h2 := of_decide_eq_true this
      rw [show n + (cap - n) = cap by omega] at h2
      exact h2
    obtain ⟨l, hl, hR⟩ := pick_each (n := n) (R := fun i (g : α) => (∀ j u, (cells g)[j]? = some u → W.cell? (ad.add (i * sz + j)) = some u) ∧ Ok g) (fun i hi => by
      have he := hel i hi
      rw [hc6] at he
      have hsome : elems[i]? = some elems[i] := List.getElem?_eq_getElem (by omega)
      rw [hsome, Option.bind_eq_some_iff] at he
      obtain ⟨cs, h1, h2⟩ := he
      obtain ⟨_, hl6, hcell⟩ := World.cells?_some h1
      obtain ⟨g, rfl, g1⟩ := hdec _ _ _ h2 hl6
      refine ⟨g, fun j u hu => ?_, g1⟩
      have hj : j < sz := by
        rcases Nat.lt_or_ge j sz with h | h
        · exact h
        · rw [List.getElem?_eq_none (by rw [hlen6]; exact h)] at hu; cases hu
      have := hcell j hj
      rw [hu] at this
      rw [← this, Addr.add_add])
    have hblk : 0 < n → ad.block < W.heap.size := fun h0 => by
      have he := hel 0 h0
      have hsome : elems[0]? = some elems[0] := List.getElem?_eq_getElem (by omega)
      rw [hc6, hsome, Option.bind_eq_some_iff] at he
      obtain ⟨cs, h1, _⟩ := he
      have := World.cells?_block h1 h0sz
      simpa [Addr.add] using this
    refine ⟨some ad, n, cap, l, rfl, hl, hlc, hcap, fun j g hj => ?_, fun h => (by cases h), fun g hg => ?_⟩
    · obtain ⟨hcell, -⟩ := hR j _ hj
      have hjl : j < l.length := (List.getElem?_eq_some_iff.1 hj).1
      obtain ⟨g0, h0⟩ : ∃ g0, l[0]? = some g0 := ⟨_, List.getElem?_eq_getElem (show 0 < l.length by omega)⟩
      obtain ⟨v0, hv0⟩ : ∃ v0, (cells g0)[0]? = some v0 := ⟨_, List.getElem?_eq_getElem (by rw [hlen6]; exact h0sz)⟩
      have hs0 := World.cell?_spot ((hR 0 _ h0).1 0 _ hv0)
      have hlt := hblk (by omega)
      obtain ⟨b, off, spot⟩ := ad
      have hspot : spot = none := by simpa [Addr.add] using hs0
      subst hspot
      refine ⟨b, off, rfl, hlt, fun i v hi => ?_⟩
      have := hcell i v hi
      rw [Addr.add_lit] at this
      rw [Nat.add_assoc]
      exact this
    · obtain ⟨j, hj⟩ := List.getElem?_of_mem hg
      exact (hR j g hj).2
theorem short_parts {H : Type} {enc : TypeId × Value → H} {W : World} {base : Nat} {r : Reach} {v : Value} {d : DataW H} {p : List MemPlace}
    (k : Value.okWide Try.prog W r base 44 v) (h : DataW.Trod enc Try.prog W 0 (fun _ => true) true 44 v d p) (hz : (DataW.weights Try.prog 44 d).all (· ≤ reachBytes) = true) :
    ∃ a1 n c1 ids a2 n2 c2 ims at_ a3 n3 c3 more, v = .agg #[.slice a1 n c1, .slice a2 n2 c2, .int .i64 at_, .slice a3 n3 c3] ∧
      (ids.length = n ∧ n ≤ c1 ∧ c1 * 16 ≤ 140737488351232 ∧ RdS guc 16 W a1 ids) ∧ (ims.length = n2 ∧ n2 ≤ c2 ∧ c2 * 24 ≤ 140737488351232 ∧ RdS imc 1 W a2 ims ∧ ∀ m ∈ ims, Im.Ok W m) ∧ (-9223372036854775808 ≤ at_ ∧ at_ ≤ 9223372036854775807) ∧
      (more.length = n3 ∧ n3 ≤ c3 ∧ c3 ≤ 140737488351232 ∧ Rd W a3 more ∧ (a3 = none → c3 = 0)) := by
  obtain ⟨cs_, xs_, n_, rfl, hsz_, rfl, hxl_, hf_⟩ := open_struct Try.underlying44 k h
  obtain ⟨ls_⟩ := cs_
  obtain ⟨c0, c1, c2, c3, rfl⟩ := lst4 (hsz_.trans (by kernel_rfl : Try.prog.cellsOf 44 = 4))
  obtain ⟨y0, y1, y2, y3, rfl⟩ := lst4 (hxl_.trans rfl)
  have k1 : Try.prog.cellsOf 3 = 1 := by kernel_rfl
  have k2 : Try.prog.cellsOf 39 = 1 := by kernel_rfl
  have k3 : Try.prog.cellsOf 40 = 1 := by kernel_rfl
  have k4 : Try.prog.cellsOf 22 = 1 := by kernel_rfl
  have g0 := hf_ 0 _ rfl
  have g1 := hf_ 1 _ rfl
  have g2 := hf_ 2 _ rfl
  have g3 := hf_ 3 _ rfl
  simp [k1, k2, k3, k4] at g0 g1 g2 g3
  simp only [DataW.weights, Try.underlying44, List.map_cons, List.map_nil, DataW.weightsEach] at hz
  obtain ⟨z0, hz⟩ := all_app hz
  obtain ⟨z1, hz⟩ := all_app hz
  obtain ⟨z2, hz⟩ := all_app hz
  obtain ⟨z3, _⟩ := all_app hz
  obtain ⟨q, rfl, q1, q2⟩ := trod_i64 Try.underlying3 g2
  obtain ⟨a1, n, c1, ids, rfl, h1, h2, h3, h4, -, -⟩ := trod_structs (sz := 16) (nb := 16) Try.underlying39 (by kernel_rfl) (by kernel_rfl) (by decide) guc_len (Ok := fun _ => True) gu_cells g0 z0
  obtain ⟨a2, n2, c2, ims, rfl, i1, i2, i3, i4, -, i6⟩ := trod_structs (sz := 1) (nb := 24) Try.underlying40 (by kernel_rfl) (by kernel_rfl) (by decide) (fun _ => rfl) im_cells g1 z1
  obtain ⟨a3, n3, c3, more, rfl, j1, j2, j3, j4, j5⟩ := trod_bytes Try.underlying22 Try.underlying5 (by kernel_rfl) (by kernel_rfl) g3 z3
  exact ⟨a1, n, c1, ids, a2, n2, c2, ims, q, a3, n3, c3, more, rfl, ⟨h1, h2, h3, h4⟩, ⟨i1, i2, i3, i4, i6⟩, ⟨q1, q2⟩, ⟨j1, j2, j3, j4, j5⟩⟩
end Go.Proofs.Ytefkmlfpdlnodaa
