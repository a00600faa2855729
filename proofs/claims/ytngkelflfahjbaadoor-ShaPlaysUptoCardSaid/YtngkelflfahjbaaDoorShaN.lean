/- SHA-2 in plain Lean: words, rounds, blocks. No condition. -/
import Derived.Test.YtngkelflfahjbaaDoorNum
set_option linter.unusedVariables false
set_option linter.unusedSimpArgs false
namespace Go.Proofs.YtngkelflfahjbaaDoor
open Go.RowKit
/-- x turned right by n bits, within w bits -/
def rot (w n x : Nat) : Nat := x / 2 ^ n + x % 2 ^ n * 2 ^ (w - n)
def three (w a b c : Nat) (s : Bool) (x : Nat) : Nat := (rot w a x ^^^ rot w b x) ^^^ (if s then x / 2 ^ c else rot w c x)
def sg0 (w x : Nat) : Nat := if w = 64 then three 64 1 8 7 true x else three 32 7 18 3 true x
def sg1 (w x : Nat) : Nat := if w = 64 then three 64 19 61 6 true x else three 32 17 19 10 true x
def bs0 (w x : Nat) : Nat := if w = 64 then three 64 28 34 39 false x else three 32 2 13 22 false x
def bs1 (w x : Nat) : Nat := if w = 64 then three 64 14 18 41 false x else three 32 6 11 25 false x
def chw (w e f g : Nat) : Nat := (e &&& f) ^^^ ((2 ^ w - 1 - e) &&& g)
def majw (a b c : Nat) : Nat := (a &&& b) ^^^ (a &&& c) ^^^ (b &&& c)
structure S8 where
  a : Nat
  b : Nat
  c : Nat
  d : Nat
  e : Nat
  f : Nat
  g : Nat
  h : Nat
deriving DecidableEq
structure S8.Lt (M : Nat) (s : S8) : Prop where
  a : s.a < M
  b : s.b < M
  c : s.c < M
  d : s.d < M
  e : s.e < M
  f : s.f < M
  g : s.g < M
  h : s.h < M
/-- the first n words of a block -/
def wl (w : Nat) (b : List UInt8) : Nat → List Nat
  | 0 => []
  | t + 1 => wl w b t ++ [if t < 16 then beN (piece b (t * (w / 8)) (w / 8)) else (sg1 w ((wl w b t)[t - 2]?.getD 0) + (wl w b t)[t - 7]?.getD 0 + sg0 w ((wl w b t)[t - 15]?.getD 0) + (wl w b t)[t - 16]?.getD 0) % 2 ^ w]
def step8 (w k x : Nat) (s : S8) : S8 :=
  ⟨((s.h + bs1 w s.e + chw w s.e s.f s.g + k + x) + (bs0 w s.a + majw s.a s.b s.c)) % 2 ^ w, s.a, s.b, s.c, (s.d + (s.h + bs1 w s.e + chw w s.e s.f s.g + k + x)) % 2 ^ w, s.e, s.f, s.g⟩
/-- n rounds, with constants ks and words xs -/
def run8 (w : Nat) (ks xs : List Nat) : Nat → S8 → S8
  | 0, s => s
  | t + 1, s => step8 w (ks[t]?.getD 0) (xs[t]?.getD 0) (run8 w ks xs t s)
def add8 (w : Nat) (s v : S8) : S8 := ⟨(v.a + s.a) % 2 ^ w, (v.b + s.b) % 2 ^ w, (v.c + s.c) % 2 ^ w, (v.d + s.d) % 2 ^ w, (v.e + s.e) % 2 ^ w, (v.f + s.f) % 2 ^ w, (v.g + s.g) % 2 ^ w, (v.h + s.h) % 2 ^ w⟩
def rnds (w : Nat) : Nat := if w = 64 then 80 else 64
/-- the 80 constants -/
def cons64 : List Nat := [4794697086780616226, 8158064640168781261, 13096744586834688815, 16840607885511220156, 4131703408338449720, 6480981068601479193, 10538285296894168987, 12329834152419229976, 15566598209576043074, 1334009975649890238, 2608012711638119052, 6128411473006802146, 8268148722764581231, 9286055187155687089, 11230858885718282805, 13951009754708518548, 16472876342353939154, 17275323862435702243, 1135362057144423861, 2597628984639134821, 3308224258029322869, 5365058923640841347, 6679025012923562964, 8573033837759648693, 10970295158949994411, 12119686244451234320, 12683024718118986047, 13788192230050041572, 14330467153632333762, 15395433587784984357, 489312712824947311, 1452737877330783856, 2861767655752347644, 3322285676063803686, 5560940570517711597, 5996557281743188959, 7280758554555802590, 8532644243296465576, 9350256976987008742, 10552545826968843579, 11727347734174303076, 12113106623233404929, 14000437183269869457, 14369950271660146224, 15101387698204529176, 15463397548674623760, 17586052441742319658, 1182934255886127544, 1847814050463011016, 2177327727835720531, 2830643537854262169, 3796741975233480872, 4115178125766777443, 5681478168544905931, 6601373596472566643, 7507060721942968483, 8399075790359081724, 8693463985226723168, 9568029438360202098, 10144078919501101548, 10430055236837252648, 11840083180663258601, 13761210420658862357, 14299343276471374635, 14566680578165727644, 15097957966210449927, 16922976911328602910, 17689382322260857208, 500013540394364858, 748580250866718886, 1242879168328830382, 1977374033974150939, 2944078676154940804, 3659926193048069267, 4368137639120453308, 4836135668995329356, 5532061633213252278, 6448918945643986474, 6902733635092675308, 7801388544844847127]
def consw (w : Nat) : List Nat := if w = 64 then cons64 else cons64.map (· / 4294967296)
def block8 (w : Nat) (s : S8) (b : List UInt8) : S8 := add8 w s (run8 w (consw w) (wl w b (rnds w)) (rnds w) s)
theorem wl_len (w : Nat) (b : List UInt8) : ∀ n, (wl w b n).length = n
  | 0 => rfl
  | n + 1 => by unfold wl; rw [List.length_append, wl_len w b n]; rfl
/-- what was told stays -/
theorem wl_take (w : Nat) (b : List UInt8) : ∀ (n t : Nat), t < n → (wl w b n)[t]? = (wl w b (t + 1))[t]?
  | 0, t, h => by omega
  | n + 1, t, h => by
    by_cases hn : t = n
    · subst hn; rfl
    · have ih := wl_take w b n t (by omega)
      show (wl w b n ++ _)[t]? = _
      rw [List.getElem?_append_left (by rw [wl_len]; omega)]
      exact ih
theorem wl_next (w : Nat) (b : List UInt8) (t : Nat) : (wl w b (t + 1))[t]? = some (if t < 16 then beN (piece b (t * (w / 8)) (w / 8)) else (sg1 w ((wl w b t)[t - 2]?.getD 0) + (wl w b t)[t - 7]?.getD 0 + sg0 w ((wl w b t)[t - 15]?.getD 0) + (wl w b t)[t - 16]?.getD 0) % 2 ^ w) := by
  show (wl w b t ++ [_])[t]? = _
  rw [List.getElem?_append_right (by rw [wl_len]; exact Nat.le_refl _), wl_len, Nat.sub_self]
  rfl
theorem rot_lt {w n x : Nat} (hn : n ≤ w) (hx : x < 2 ^ w) : rot w n x < 2 ^ w := by
  unfold rot
  have hp : 2 ^ w = 2 ^ (w - n) * 2 ^ n := by rw [← Nat.pow_add]; congr 1; omega
  have h1 : x / 2 ^ n < 2 ^ (w - n) := by rw [Nat.div_lt_iff_lt_mul (Nat.two_pow_pos _), ← hp]; exact hx
  have h2 : x % 2 ^ n < 2 ^ n := Nat.mod_lt _ (Nat.two_pow_pos _)
  have h3 : (x % 2 ^ n + 1) * 2 ^ (w - n) ≤ 2 ^ n * 2 ^ (w - n) := Nat.mul_le_mul_right _ h2
  rw [Nat.add_mul, Nat.one_mul, Nat.mul_comm (2 ^ n)] at h3
  omega
/-- turned by 'or', as the machine does -/
theorem rot_or {w n x : Nat} (hn : n ≤ w) (hx : x < 2 ^ w) : rot w n x = (x * 2 ^ (w - n) % 2 ^ w) ||| (x / 2 ^ n) := by
  have hp : 2 ^ w = 2 ^ n * 2 ^ (w - n) := by rw [← Nat.pow_add]; congr 1; omega
  have h1 : x / 2 ^ n < 2 ^ (w - n) := by rw [Nat.div_lt_iff_lt_mul (Nat.two_pow_pos _), Nat.mul_comm, ← hp]; exact hx
  have h2 : x * 2 ^ (w - n) % 2 ^ w = x % 2 ^ n * 2 ^ (w - n) := by rw [hp, Nat.mul_mod_mul_right]
  rw [h2, Nat.mul_comm (x % 2 ^ n), ← Nat.two_pow_add_eq_or_of_lt h1]
  unfold rot
  rw [Nat.add_comm, Nat.mul_comm]
theorem three_lt {w a b c x : Nat} {s : Bool} (ha : a ≤ w) (hb : b ≤ w) (hc : c ≤ w) (hx : x < 2 ^ w) : three w a b c s x < 2 ^ w := by
  unfold three
  refine Nat.xor_lt_two_pow (Nat.xor_lt_two_pow (rot_lt ha hx) (rot_lt hb hx)) ?_
  split
  · exact Nat.lt_of_le_of_lt (Nat.div_le_self _ _) hx
  · exact rot_lt hc hx
end Go.Proofs.YtngkelflfahjbaaDoor
