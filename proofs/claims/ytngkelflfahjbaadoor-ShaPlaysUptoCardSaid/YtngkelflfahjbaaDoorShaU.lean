/- SHA-2: arrays that are filled from the front; what the machine's words come to. No condition. -/
import Derived.Test.YtngkelflfahjbaaDoorShaT
import Derived.Laws.CopyOwn
set_option linter.unusedVariables false
set_option linter.unusedSimpArgs false
namespace Go.Proofs.YtngkelflfahjbaaDoor
open Go.RowKit
/-- an array of M cells, filled from the front -/
def fillA (f : Nat → Value) (z : Value) (M : Nat) (l : List Nat) : List Value := l.map f ++ List.replicate (M - l.length) z
theorem fillA_len {f : Nat → Value} {z : Value} {M : Nat} {l : List Nat} (h : l.length ≤ M) : (fillA f z M l).length = M := by
  unfold fillA; rw [List.length_append, List.length_map, List.length_replicate]; omega
theorem fillA_get {f : Nat → Value} {z : Value} {M j : Nat} {l : List Nat} (h : j < l.length) : (fillA f z M l)[j]? = some (f (l[j]?.getD 0)) := by
  unfold fillA
  rw [List.getElem?_append_left (by rw [List.length_map]; exact h), List.getElem?_map, List.getElem?_eq_getElem h]; rfl
theorem fillA_next {f : Nat → Value} {z : Value} {M t : Nat} {l : List Nat} (hl : l.length = t) (h : t < M) : (fillA f z M l)[t]? = some z := by
  unfold fillA
  rw [List.getElem?_append_right (by rw [List.length_map]; omega), List.length_map, List.getElem?_replicate, if_pos (by omega)]
theorem fillA_set {f : Nat → Value} {z : Value} {M t x : Nat} {l : List Nat} (hl : l.length = t) (h : t < M) : (fillA f z M l).set t (f x) = fillA f z M (l ++ [x]) := by
  unfold fillA
  rw [List.set_append, if_neg (by rw [List.length_map]; omega), List.length_map, hl, Nat.sub_self, List.length_append, hl]
  obtain ⟨r, hr⟩ : ∃ r, M - t = r + 1 := ⟨M - t - 1, by omega⟩
  rw [hr, List.replicate_succ, List.set_cons_zero, List.map_append, List.append_assoc]
  rw [show M - (t + [x].length) = r by simp; omega]
  rfl
theorem fillA_nil (f : Nat → Value) (z : Value) (M : Nat) : fillA f z M [] = List.replicate M z := by unfold fillA; simp
theorem fillA_full {f : Nat → Value} {z : Value} {M : Nat} {l : List Nat} (h : l.length = M) : fillA f z M l = l.map f := by unfold fillA; rw [h, Nat.sub_self]; simp
def u32v (n : Nat) : Value := .int .u32 n
def u64v (n : Nat) : Value := .int .u64 n
theorem wl_lt (w : Nat) (hw : w = 32 ∨ w = 64) (b : List UInt8) : ∀ n, ∀ x ∈ wl w b n, x < 2 ^ w
  | 0, x, h => by cases h
  | n + 1, x, h => by
    unfold wl at h
    rw [List.mem_append] at h
    rcases h with h | h
    · exact wl_lt w hw b n x h
    · rw [List.mem_singleton] at h
      subst h
      split
      · have h1 := beN_lt (piece b (n * (w / 8)) (w / 8))
        have h2 : (piece b (n * (w / 8)) (w / 8)).length ≤ w / 8 := by unfold piece; rw [List.length_take]; exact Nat.min_le_left _ _
        have h3 : (256 : Nat) ^ (piece b (n * (w / 8)) (w / 8)).length ≤ 256 ^ (w / 8) := Nat.pow_le_pow_right (by decide) h2
        have h4 : (256 : Nat) ^ (w / 8) = 2 ^ w := by rcases hw with rfl | rfl <;> decide
        rw [← h4]
        exact Nat.lt_of_lt_of_le h1 h3
      · exact Nat.mod_lt _ (Nat.two_pow_pos _)
theorem wl_get_lt {w : Nat} (hw : w = 32 ∨ w = 64) (b : List UInt8) (n j : Nat) : (wl w b n)[j]?.getD 0 < 2 ^ w := by
  by_cases h : j < (wl w b n).length
  · rw [List.getElem?_eq_getElem h]; exact wl_lt w hw b n _ (List.getElem_mem h)
  · rw [List.getElem?_eq_none (by omega)]; exact Nat.two_pow_pos _
/-- three turnings (or a shift) as the machine takes them: what it goes through, and what it comes to -/
structure X3 (k : IntKind) (a b c e s : Nat) : Prop where
  x : bits .xor k (a : Int) (b : Int) = (e : Int)
  y : bits .xor k (e : Int) (c : Int) = (s : Int)
theorem x3_32 {a b c : Nat} (ha : a < 4294967296) (hb : b < 4294967296) (hc : c < 4294967296) : X3 .u32 a b c (a ^^^ b) ((a ^^^ b) ^^^ c) :=
  ⟨u32_xor_nat a b ha hb, u32_xor_nat _ c (Nat.xor_lt_two_pow (n := 32) ha hb) hc⟩
theorem x3_64 {a b c : Nat} (ha : a < 18446744073709551616) (hb : b < 18446744073709551616) (hc : c < 18446744073709551616) : X3 .u64 a b c (a ^^^ b) ((a ^^^ b) ^^^ c) :=
  ⟨u64_xor_nat a b ha hb, u64_xor_nat _ c (Nat.xor_lt_two_pow (n := 64) ha hb) hc⟩
theorem sg0_32 {x : Nat} (hx : x < 4294967296) : X3 .u32 (rot 32 7 x) (rot 32 18 x) (x / 8) (rot 32 7 x ^^^ rot 32 18 x) (sg0 32 x) := by
  have e : sg0 32 x = (rot 32 7 x ^^^ rot 32 18 x) ^^^ (x / 8) := by unfold sg0 three; rw [if_neg (by decide)]; simp only [if_true, Nat.reducePow]
  rw [e]
  exact x3_32 (rot_lt (w := 32) (by decide) hx) (rot_lt (w := 32) (by decide) hx) (Nat.lt_of_le_of_lt (Nat.div_le_self _ _) hx)
theorem sg1_32 {x : Nat} (hx : x < 4294967296) : X3 .u32 (rot 32 17 x) (rot 32 19 x) (x / 1024) (rot 32 17 x ^^^ rot 32 19 x) (sg1 32 x) := by
  have e : sg1 32 x = (rot 32 17 x ^^^ rot 32 19 x) ^^^ (x / 1024) := by unfold sg1 three; rw [if_neg (by decide)]; simp only [if_true, Nat.reducePow]
  rw [e]
  exact x3_32 (rot_lt (w := 32) (by decide) hx) (rot_lt (w := 32) (by decide) hx) (Nat.lt_of_le_of_lt (Nat.div_le_self _ _) hx)
theorem bs1_32 {x : Nat} (hx : x < 4294967296) : X3 .u32 (rot 32 6 x) (rot 32 11 x) (rot 32 25 x) (rot 32 6 x ^^^ rot 32 11 x) (bs1 32 x) := by
  have e : bs1 32 x = (rot 32 6 x ^^^ rot 32 11 x) ^^^ (rot 32 25 x) := by unfold bs1 three; rw [if_neg (by decide)]; simp only [Bool.false_eq_true, if_false, Nat.reducePow]
  rw [e]
  exact x3_32 (rot_lt (w := 32) (by decide) hx) (rot_lt (w := 32) (by decide) hx) (rot_lt (w := 32) (by decide) hx)
theorem bs0_32 {x : Nat} (hx : x < 4294967296) : X3 .u32 (rot 32 2 x) (rot 32 13 x) (rot 32 22 x) (rot 32 2 x ^^^ rot 32 13 x) (bs0 32 x) := by
  have e : bs0 32 x = (rot 32 2 x ^^^ rot 32 13 x) ^^^ (rot 32 22 x) := by unfold bs0 three; rw [if_neg (by decide)]; simp only [Bool.false_eq_true, if_false, Nat.reducePow]
  rw [e]
  exact x3_32 (rot_lt (w := 32) (by decide) hx) (rot_lt (w := 32) (by decide) hx) (rot_lt (w := 32) (by decide) hx)
theorem sg0_64 {x : Nat} (hx : x < 18446744073709551616) : X3 .u64 (rot 64 1 x) (rot 64 8 x) (x / 128) (rot 64 1 x ^^^ rot 64 8 x) (sg0 64 x) := by
  have e : sg0 64 x = (rot 64 1 x ^^^ rot 64 8 x) ^^^ (x / 128) := by unfold sg0 three; rw [if_pos rfl]; simp only [if_true, Nat.reducePow]
  rw [e]
  exact x3_64 (rot_lt (w := 64) (by decide) hx) (rot_lt (w := 64) (by decide) hx) (Nat.lt_of_le_of_lt (Nat.div_le_self _ _) hx)
theorem sg1_64 {x : Nat} (hx : x < 18446744073709551616) : X3 .u64 (rot 64 19 x) (rot 64 61 x) (x / 64) (rot 64 19 x ^^^ rot 64 61 x) (sg1 64 x) := by
  have e : sg1 64 x = (rot 64 19 x ^^^ rot 64 61 x) ^^^ (x / 64) := by unfold sg1 three; rw [if_pos rfl]; simp only [if_true, Nat.reducePow]
  rw [e]
  exact x3_64 (rot_lt (w := 64) (by decide) hx) (rot_lt (w := 64) (by decide) hx) (Nat.lt_of_le_of_lt (Nat.div_le_self _ _) hx)
theorem bs1_64 {x : Nat} (hx : x < 18446744073709551616) : X3 .u64 (rot 64 14 x) (rot 64 18 x) (rot 64 41 x) (rot 64 14 x ^^^ rot 64 18 x) (bs1 64 x) := by
  have e : bs1 64 x = (rot 64 14 x ^^^ rot 64 18 x) ^^^ (rot 64 41 x) := by unfold bs1 three; rw [if_pos rfl]; simp only [Bool.false_eq_true, if_false, Nat.reducePow]
  rw [e]
  exact x3_64 (rot_lt (w := 64) (by decide) hx) (rot_lt (w := 64) (by decide) hx) (rot_lt (w := 64) (by decide) hx)
theorem bs0_64 {x : Nat} (hx : x < 18446744073709551616) : X3 .u64 (rot 64 28 x) (rot 64 34 x) (rot 64 39 x) (rot 64 28 x ^^^ rot 64 34 x) (bs0 64 x) := by
  have e : bs0 64 x = (rot 64 28 x ^^^ rot 64 34 x) ^^^ (rot 64 39 x) := by unfold bs0 three; rw [if_pos rfl]; simp only [Bool.false_eq_true, if_false, Nat.reducePow]
  rw [e]
  exact x3_64 (rot_lt (w := 64) (by decide) hx) (rot_lt (w := 64) (by decide) hx) (rot_lt (w := 64) (by decide) hx)
theorem sg_lt (w : Nat) (hw : w = 32 ∨ w = 64) {x : Nat} (hx : x < 2 ^ w) : sg0 w x < 2 ^ w ∧ sg1 w x < 2 ^ w ∧ bs0 w x < 2 ^ w ∧ bs1 w x < 2 ^ w := by
  unfold sg0 sg1 bs0 bs1
  rcases hw with rfl | rfl
  · rw [if_neg (by decide), if_neg (by decide), if_neg (by decide), if_neg (by decide)]
    exact ⟨three_lt (by decide) (by decide) (by decide) hx, three_lt (by decide) (by decide) (by decide) hx, three_lt (by decide) (by decide) (by decide) hx, three_lt (by decide) (by decide) (by decide) hx⟩
  · rw [if_pos rfl, if_pos rfl, if_pos rfl, if_pos rfl]
    exact ⟨three_lt (by decide) (by decide) (by decide) hx, three_lt (by decide) (by decide) (by decide) hx, three_lt (by decide) (by decide) (by decide) hx, three_lt (by decide) (by decide) (by decide) hx⟩
/-- what 'choose' and 'most' come to -/
structure Ch (k : IntKind) (e f g ef ne ng : Nat) (s : Nat) : Prop where
  x : bits .and k (e : Int) (f : Int) = (ef : Int)
  y : bits .xor k k.max (e : Int) = (ne : Int)
  z : bits .and k (ne : Int) (g : Int) = (ng : Int)
  r : bits .xor k (ef : Int) (ng : Int) = (s : Int)
theorem ch_32 {e f g : Nat} (he : e < 4294967296) (hf : f < 4294967296) (hg : g < 4294967296) : ∃ ne, Ch .u32 e f g (e &&& f) ne (ne &&& g) (chw 32 e f g) := by
  have h := u32_not_bv (BitVec.ofNat 32 e)
  rw [BitVec.toNat_not, BitVec.toNat_ofNat, Nat.mod_eq_of_lt he] at h
  have hlt : 2 ^ 32 - 1 - e < 2 ^ 32 := Nat.lt_of_le_of_lt (Nat.sub_le _ _) (by decide)
  unfold chw
  generalize 2 ^ 32 - 1 - e = n at *
  exact ⟨n, u32_and_nat e f he hf, h, u32_and_nat n g hlt hg, u32_xor_nat _ _ (Nat.and_lt_two_pow (n := 32) _ hf) (Nat.and_lt_two_pow (n := 32) _ hg)⟩
theorem ch_64 {e f g : Nat} (he : e < 18446744073709551616) (hf : f < 18446744073709551616) (hg : g < 18446744073709551616) : ∃ ne, Ch .u64 e f g (e &&& f) ne (ne &&& g) (chw 64 e f g) := by
  have h1 : IntKind.u64.max = ((18446744073709551615 : Nat) : Int) := by decide +kernel
  have h := BitVec.toNat_not (x := BitVec.ofNat 64 e)
  have h2 : ~~~ (BitVec.ofNat 64 e) = BitVec.allOnes 64 ^^^ BitVec.ofNat 64 e := BitVec.not_def
  rw [h2, BitVec.toNat_xor, BitVec.toNat_allOnes, BitVec.toNat_ofNat, Nat.mod_eq_of_lt he] at h
  have h3 := u64_xor_nat 18446744073709551615 e (by decide) he
  rw [← h1] at h3
  have hlt : 2 ^ 64 - 1 - e < 2 ^ 64 := Nat.lt_of_le_of_lt (Nat.sub_le _ _) (by decide)
  have hM : (2 : Nat) ^ 64 - 1 = 18446744073709551615 := by decide
  rw [hM] at h
  unfold chw
  rw [hM] at hlt ⊢
  rw [h] at h3
  generalize 18446744073709551615 - e = n at *
  exact ⟨n, u64_and_nat e f he hf, h3, u64_and_nat n g hlt hg, u64_xor_nat _ _ (Nat.and_lt_two_pow (n := 64) _ hf) (Nat.and_lt_two_pow (n := 64) _ hg)⟩
structure Mj (k : IntKind) (a b c ab ac bc m : Nat) (s : Nat) : Prop where
  x : bits .and k (a : Int) (b : Int) = (ab : Int)
  y : bits .and k (a : Int) (c : Int) = (ac : Int)
  z : bits .and k (b : Int) (c : Int) = (bc : Int)
  r : bits .xor k (ab : Int) (ac : Int) = (m : Int)
  t : bits .xor k (m : Int) (bc : Int) = (s : Int)
theorem mj_32 {a b c : Nat} (ha : a < 4294967296) (hb : b < 4294967296) (hc : c < 4294967296) : Mj .u32 a b c (a &&& b) (a &&& c) (b &&& c) ((a &&& b) ^^^ (a &&& c)) (majw a b c) := by
  have h1 := Nat.and_lt_two_pow (n := 32) a hb
  have h2 := Nat.and_lt_two_pow (n := 32) a hc
  have h3 := Nat.and_lt_two_pow (n := 32) b hc
  exact ⟨u32_and_nat a b ha hb, u32_and_nat a c ha hc, u32_and_nat b c hb hc, u32_xor_nat _ _ h1 h2, u32_xor_nat _ _ (Nat.xor_lt_two_pow (n := 32) h1 h2) h3⟩
theorem mj_64 {a b c : Nat} (ha : a < 18446744073709551616) (hb : b < 18446744073709551616) (hc : c < 18446744073709551616) : Mj .u64 a b c (a &&& b) (a &&& c) (b &&& c) ((a &&& b) ^^^ (a &&& c)) (majw a b c) := by
  have h1 := Nat.and_lt_two_pow (n := 64) a hb
  have h2 := Nat.and_lt_two_pow (n := 64) a hc
  have h3 := Nat.and_lt_two_pow (n := 64) b hc
  exact ⟨u64_and_nat a b ha hb, u64_and_nat a c ha hc, u64_and_nat b c hb hc, u64_xor_nat _ _ h1 h2, u64_xor_nat _ _ (Nat.xor_lt_two_pow (n := 64) h1 h2) h3⟩
/-- one element of an array that is a value -/
theorem run_index_one {P : Program} (w : World) (t e : TypeId) (n i : Nat) (cs : List Value) (k : IntKind) (u : Value) (h : P.underlying t = some (.array n e)) (hs : (sizeOf e).run P w = .ok 1 w) (ha : (isAgg e).run P w = .ok false w) (hi : i < n) (hu : cs[i]? = some u) :
    (Instr.index t (.agg cs.toArray) (.int k (i : Int))).run P w = .ok u w := by
  have h1 : (0 : Int) ≤ (i : Int) ∧ (i : Int) < (n : Int) := by omega
  simp [Instr.index, run_underlying h, asIntOf, h1, hs, part, ha, hu, go_sem]
  exact fun h => absurd h (by omega)
def s8l (s : S8) : List Nat := [s.a, s.b, s.c, s.d, s.e, s.f, s.g, s.h]
theorem s8l_len (s : S8) : (s8l s).length = 8 := rfl
theorem S8.Lt.all {M : Nat} {s : S8} (h : s.Lt M) : ∀ x ∈ s8l s, x < M := by
  intro x hx
  simp only [s8l, List.mem_cons, List.not_mem_nil, or_false] at hx
  rcases hx with rfl | rfl | rfl | rfl | rfl | rfl | rfl | rfl
  all_goals first | exact h.a | exact h.b | exact h.c | exact h.d | exact h.e | exact h.f | exact h.g | exact h.h
theorem mid_take {pre l post : List Value} {n m : Nat} (hp : pre.length = n) (hl : l.length = m) : ((pre ++ l ++ post).drop n).take m = l := by
  rw [List.append_assoc, List.drop_append_of_le_length (by omega), List.drop_of_length_le (by omega), List.nil_append, List.take_append_of_le_length (by omega), List.take_of_length_le (by omega)]
theorem mid_get {pre l post : List Value} {n i : Nat} (hp : pre.length = n) (hi : i < l.length) : (pre ++ l ++ post)[n + i]? = l[i]? := by
  rw [List.append_assoc, List.getElem?_append_right (by omega), hp, Nat.add_sub_cancel_left, List.getElem?_append_left hi]
theorem mid_set {pre l post : List Value} {n i : Nat} {v : Value} (hp : pre.length = n) (hi : i < l.length) : (pre ++ l ++ post).set (n + i) v = pre ++ l.set i v ++ post := by
  rw [List.append_assoc, List.set_append, if_neg (by omega), hp, Nat.add_sub_cancel_left, List.set_append, if_pos hi, List.append_assoc]
/-- the first i of the new ones, the rest of the old ones -/
def mixL (new old : List Nat) (i : Nat) : List Nat := new.take i ++ old.drop i
theorem mixL_len {new old : List Nat} {i : Nat} (h : new.length = 8) (h2 : old.length = 8) (hi : i ≤ 8) : (mixL new old i).length = 8 := by
  unfold mixL; rw [List.length_append, List.length_take, List.length_drop]; omega
theorem mixL_get {new old : List Nat} {i : Nat} (h : new.length = 8) (h2 : old.length = 8) (hi : i < 8) : (mixL new old i)[i]? = old[i]? := by
  unfold mixL
  rw [List.getElem?_append_right (by rw [List.length_take]; omega), List.length_take, List.getElem?_drop]
  congr 1
  omega
theorem mixL_set {new old : List Nat} {i y : Nat} (h : new.length = 8) (h2 : old.length = 8) (hi : i < 8) (hy : new[i]? = some y) : (mixL new old i).set i y = mixL new old (i + 1) := by
  unfold mixL
  rw [List.set_append, if_neg (by rw [List.length_take]; omega), List.length_take, show i - min i new.length = 0 by omega, List.drop_eq_getElem_cons (show i < old.length by omega), List.set_cons_zero, List.take_add_one, hy]
  simp
theorem add8_get {w : Nat} {s v : S8} {i : Nat} (hi : i < 8) : (s8l (add8 w s v))[i]? = some ((((s8l v)[i]?.getD 0) + ((s8l s)[i]?.getD 0)) % 2 ^ w) := by
  match i, hi with
  | 0, _ => rfl
  | 1, _ => rfl
  | 2, _ => rfl
  | 3, _ => rfl
  | 4, _ => rfl
  | 5, _ => rfl
  | 6, _ => rfl
  | 7, _ => rfl
theorem grown_row (w : World) (g : Nat) (cs : Array Value) : w.grownBy (w.setRow g cs) (some g) := ⟨rfl, rfl, rfl, by simp [World.setRow], fun k hk hne => setRow_other w g k cs (fun e => hne (by rw [e]))⟩
/-- copy(dst, src) into a row that is known whole -/
theorem wp_copy_row {P : Program} {w : World} {o : Oper} {a : Act} {K : Act → World → Prop} {Q : Exit → Act → World → Prop} (d s : Operand) (dT sT : TypeId)
    (ho : o.op = .call { callee := .builtin .copy, args := #[d, s], argTypes := #[dT, sT] }) (elem : TypeId) (hu : P.underlying dT = some (.slice elem)) (hsz : (P.info? elem).map (·.size) = some 1)
    (g off dLen dCap : Nat) (ad : Addr) (sLen sCap : Nat) (hd : a.eval d = .slice (some ⟨g, off, none⟩) dLen dCap) (hs : a.eval s = .slice (some ad) sLen sCap)
    (cur : List Value) (t : TypeId) (hg : w.heap[g]? = some (.cells cur.toArray t (0, 0))) (cs : List Value) (hn : cs.length = Nat.min sLen dLen)
    (hsrc : ∀ j v, cs[j]? = some v → w.cell? (ad.add j) = some v) (hfit : off + cs.length ≤ cur.length) (h1 : ∀ v ∈ cs, v.oneCell' = true) (new : List Value) (hnew : cur.take off ++ (cs ++ cur.drop (off + cs.length)) = new)
    (h : K (a.put o.dst (goInt cs.length)) (w.setRow g new.toArray)) : o.wp P a w K Q := by
  have hrun := run_copy_row (P := P) w dT sT o.type elem g off dLen dCap ad sLen sCap cur.toArray t cs hu hsz hg hn hsrc (by simpa using hfit) h1
  subst hnew
  unfold Oper.wp
  have h' : Oper.upon P o a K Q (Result.ok (Next.value (goInt cs.length)) (w.setRow g (cur.take off ++ (cs ++ cur.drop (off + cs.length))).toArray)) := h
  simp [execOp, ho, resolve, invoke, builtin, hd, hs, hrun, Result.andThen]
  simpa using h'
end Go.Proofs.YtngkelflfahjbaaDoor
