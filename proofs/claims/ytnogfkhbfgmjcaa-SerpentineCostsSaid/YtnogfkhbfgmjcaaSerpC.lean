/- What the functions of layer 9 (serpentine) compute, in plain numbers, for any geometry and any numbers within an int. -/
import Derived.Test.YtnogfkhbfgmjcaaPx11
import Derived.Test.YtnogfkhbfgmjcaaPx13
import Derived.Test.YtnogfkhbfgmjcaaPx15
import Derived.Test.YtnogfkhbfgmjcaaPx16
import Derived.Test.YtnogfkhbfgmjcaaPx18
import Derived.Test.YtnogfkhbfgmjcaaPx2
import Derived.Test.YtnogfkhbfgmjcaaPx23
import Derived.Test.YtnogfkhbfgmjcaaPx3
import Derived.Test.YtnogfkhbfgmjcaaPx4
import Derived.Test.YtnogfkhbfgmjcaaPx5
import Derived.Test.YtnogfkhbfgmjcaaPx6
import Derived.Test.YtnogfkhbfgmjcaaWPureKit
namespace Go.Proofs.Ytnogfkhbfgmjcaa.P
open Go.RowKit Go.Proofs.YtnogfkhbfgmjcaaW.PrintWords Go.Proofs.YtnogfkhbfgmjcaaW.PureKit
set_option linter.unusedVariables false
set_option linter.unusedSimpArgs false

def TmOk (x : Int) : Prop := 0 ≤ x ∧ x ≤ 1000000
instance (x : Int) : Decidable (TmOk x) := inferInstanceAs (Decidable (_ ∧ _))
/-- A valid geometry. -/
def GV (W L S T J R : Int) : Prop := 1 ≤ W ∧ W ≤ 32 ∧ 1 ≤ L ∧ W * L ≤ 4096 ∧ TmOk S ∧ TmOk T ∧ TmOk J ∧ TmOk R
instance (W L S T J R : Int) : Decidable (GV W L S T J R) := inferInstanceAs (Decidable (_ ∧ _))

theorem GV.L_le {W L S T J R : Int} (h : GV W L S T J R) : L ≤ 4096 := by
  obtain ⟨h1, _, h3, h4, _⟩ := h
  have : 1 * L ≤ W * L := Int.mul_le_mul_of_nonneg_right h1 (by omega)
  omega
theorem GV.C_pos {W L S T J R : Int} (h : GV W L S T J R) : 1 ≤ W * L := by
  obtain ⟨h1, _, h3, h4, _⟩ := h
  have : 1 * L ≤ W * L := Int.mul_le_mul_of_nonneg_right h1 (by omega)
  omega

theorem timed_l0 (l : List Int) (hl : (l.length : Int) ≤ 9223372036854775807) : ∀ (d k : Nat) (i : Int), 0 ≤ i → i + d = l.length → d < k → serpentine_timed.l0 k l l.length i = some ((l.drop i.toNat).all fun x => decide (TmOk x)) := by
  intro d
  induction d with
  | zero =>
    intro k i h0 h1 hk
    obtain ⟨k, rfl⟩ : ∃ m, k = m + 1 := ⟨k - 1, by omega⟩
    simp only [serpentine_timed.l0]
    rw [if_neg (by omega), List.drop_of_length_le (by omega)]
    rfl
  | succ d ih =>
    intro k i h0 h1 hk
    obtain ⟨k, rfl⟩ : ∃ m, k = m + 1 := ⟨k - 1, by omega⟩
    simp only [serpentine_timed.l0]
    rw [if_pos (by omega), if_pos h0, if_pos (by omega), w64 (by omega) (by omega), ih k (i + 1) (by omega) (by omega) (by omega), drop_rd h0 (by omega)]
    simp only [List.all_cons]
    by_cases a : rd l i < 0
    · rw [if_pos a, show decide (TmOk (rd l i)) = false from decide_eq_false (by unfold TmOk; omega)]; rfl
    · rw [if_neg a]
      by_cases b : rd l i > 1000000
      · rw [if_pos b, show decide (TmOk (rd l i)) = false from decide_eq_false (by unfold TmOk; omega)]; rfl
      · rw [if_neg b, show decide (TmOk (rd l i)) = true from decide_eq_true (by unfold TmOk; omega)]; rfl

theorem timed_ev (S T J R : Int) : Ev (fun k => serpentine_timed.f k [S, T, J, R]) (decide (TmOk S ∧ TmOk T ∧ TmOk J ∧ TmOk R)) := by
  refine ⟨5, fun k hk => ?_⟩
  show serpentine_timed.l0 k [S, T, J, R] ([S, T, J, R].length : Int) 0 = _
  rw [timed_l0 [S, T, J, R] (by simp) 4 k 0 (by omega) (by simp) (by omega)]
  simp

theorem Valid_ev (W L S T J R : Int) (hL : L ≤ 9223372036854775807) : Ev (fun k => serpentine_Valid.f k W L S T J R) (decide (GV W L S T J R)) := by
  obtain ⟨K, h⟩ := timed_ev S T J R
  refine Ev.shift 1 ⟨K, fun k hk => ?_⟩
  simp only [serpentine_Valid.f, serpentine_Valid.j0, h k hk, Option.bind_some, if_true]
  by_cases a : W < 1
  · rw [if_pos a, decide_eq_false (by unfold GV; omega)]
  · rw [if_neg a]
    by_cases b : W > 32
    · rw [if_pos b, decide_eq_false (by unfold GV; omega)]
    · rw [if_neg b]
      by_cases c : L < 1
      · rw [if_pos c, decide_eq_false (by unfold GV; omega)]
      · rw [if_neg c, if_neg (by omega), tdiv_nn (by omega)]
        have hq : 0 ≤ 4096 / W := Int.ediv_nonneg (by omega) (by omega)
        have hq2 : 4096 / W ≤ 4096 := Int.ediv_le_self _ (by omega)
        rw [w64 (by omega) (by omega)]
        have hiff : L ≤ 4096 / W ↔ W * L ≤ 4096 := by rw [Int.le_ediv_iff_mul_le (by omega), Int.mul_comm]
        by_cases e : L > 4096 / W
        · rw [if_pos (by simpa using e), decide_eq_false]
          intro hv
          have := hiff.2 hv.2.2.2.1
          omega
        · rw [if_neg (by simpa using e)]
          congr 1
          rw [decide_eq_decide]
          unfold GV
          have := hiff.1 (by omega)
          constructor
          · intro hh; exact ⟨by omega, by omega, by omega, this, hh⟩
          · intro hh; exact hh.2.2.2.2

/-- The capacity. -/
def cap (W L S T J R : Int) : Int := if GV W L S T J R then W * L else 0
theorem Capacity_ev (W L S T J R : Int) (hL : L ≤ 9223372036854775807) : Ev (fun k => serpentine_Capacity.f k W L S T J R) (cap W L S T J R) := by
  obtain ⟨K, h⟩ := Valid_ev W L S T J R hL
  refine ⟨K, fun k hk => ?_⟩
  simp only [serpentine_Capacity.f, h k hk, Option.bind_some, cap]
  by_cases g : GV W L S T J R
  · have := g.C_pos; have := g.2.2.2.1
    rw [if_pos (by simpa using g), if_pos g, w64 (by omega) (by omega)]
  · rw [if_neg (by simpa using g), if_neg g]
/-- The place of a block before the end. -/
def place0 (L b : Int) : Int × Int × Bool := if b / L % 2 = 1 then (b / L, L - 1 - b % L, true) else (b / L, b % L, false)
/-- The place of a block, or the one behind the last. -/
def place (W L b : Int) : Int × Int × Bool := if b = W * L then (let p := place0 L (b - 1); if p.2.2 = true then (p.1, p.2.1 - 1, p.2.2) else (p.1, p.2.1 + 1, p.2.2)) else place0 L b

theorem place0_b {L b : Int} (hL : 1 ≤ L) (hb : 0 ≤ b) : 0 ≤ (place0 L b).1 ∧ (place0 L b).1 ≤ b ∧ 0 ≤ (place0 L b).2.1 ∧ (place0 L b).2.1 ≤ L - 1 := by
  have h1 : 0 ≤ b / L := Int.ediv_nonneg hb (by omega)
  have h2 : b / L ≤ b := Int.ediv_le_self _ hb
  have h3 := Int.emod_nonneg b (show L ≠ 0 by omega)
  have h4 := Int.emod_lt_of_pos b (show 0 < L by omega)
  unfold place0
  split <;> simp only <;> omega

theorem on_step {W L S T J R b : Int} (g : GV W L S T J R) (h0 : 0 ≤ b) (h1 : b < W * L) (k : Nat) : serpentine_on.f (k + 1) W L S T J R b = some (place0 L b) := by
  have hC := g.2.2.2.1; have hL := g.L_le; have hL1 := g.2.2.1
  have a1 : 0 ≤ b / L := Int.ediv_nonneg h0 (by omega)
  have a2 : b / L ≤ b := Int.ediv_le_self _ h0
  have a3 := Int.emod_nonneg b (show L ≠ 0 by omega)
  have a4 := Int.emod_lt_of_pos b (show 0 < L by omega)
  simp only [serpentine_on.f]
  rw [w64 (x := W * L) (by omega) (by omega), if_neg (by omega), if_neg (by omega), tdiv_nn h0, tmod_nn h0, w64 (x := b / L) (by omega) (by omega), tmod_nn a1, w64 (x := L - 1) (by omega) (by omega), w64 (by omega) (by omega)]
  unfold place0
  split <;> rfl
theorem on_ev {W L S T J R b : Int} (g : GV W L S T J R) (h0 : 0 ≤ b) (h1 : b ≤ W * L) : Ev (fun k => serpentine_on.f k W L S T J R b) (place W L b) := by
  have hC := g.2.2.2.1; have hL := g.L_le; have hL1 := g.2.2.1; have hp := g.C_pos
  refine Ev.shift 2 ⟨0, fun k _ => ?_⟩
  by_cases e : b = W * L
  · have hb := place0_b (L := L) (b := b - 1) hL1 (by omega)
    rw [serpentine_on.f, w64 (x := W * L) (by omega) (by omega), if_pos e, w64 (x := b - 1) (by omega) (by omega), on_step g (by omega) (by omega)]
    simp only [Option.bind_some, place, if_pos e]
    rw [w64 (x := (place0 L (b - 1)).2.1 - 1) (by omega) (by omega), w64 (x := (place0 L (b - 1)).2.1 + 1) (by omega) (by omega)]
    split <;> rfl
  · rw [on_step g h0 (by omega)]
    simp only [place, if_neg e]

theorem within_l0 (W L S T J R : Int) (hC0 : -9223372036854775808 ≤ W * L) (hC : W * L ≤ 9223372036854775807) (l : List Int) (hl : (l.length : Int) ≤ 9223372036854775807) : ∀ (d k : Nat) (i : Int), 0 ≤ i → i + d = l.length → d < k → serpentine_within.l0 k l l.length i W L S T J R = some ((l.drop i.toNat).all fun x => decide (0 ≤ x ∧ x ≤ W * L)) := by
  intro d
  induction d with
  | zero =>
    intro k i h0 h1 hk
    obtain ⟨k, rfl⟩ : ∃ m, k = m + 1 := ⟨k - 1, by omega⟩
    simp only [serpentine_within.l0]
    rw [if_neg (by omega), List.drop_of_length_le (by omega)]
    rfl
  | succ d ih =>
    intro k i h0 h1 hk
    obtain ⟨k, rfl⟩ : ∃ m, k = m + 1 := ⟨k - 1, by omega⟩
    simp only [serpentine_within.l0]
    rw [if_pos (by omega), if_pos h0, if_pos (by omega), w64 (x := i + 1) (by omega) (by omega), ih k (i + 1) (by omega) (by omega) (by omega), drop_rd h0 (by omega), w64 (x := W * L) hC0 hC]
    simp only [List.all_cons]
    by_cases a : rd l i < 0
    · rw [if_pos a, show decide (0 ≤ rd l i ∧ rd l i ≤ W * L) = false from decide_eq_false (by omega)]; rfl
    · rw [if_neg a]
      by_cases b : rd l i > W * L
      · rw [if_pos b, show decide (0 ≤ rd l i ∧ rd l i ≤ W * L) = false from decide_eq_false (by omega)]; rfl
      · rw [if_neg b, show decide (0 ≤ rd l i ∧ rd l i ≤ W * L) = true from decide_eq_true (by omega)]; rfl
theorem within_ev (W L S T J R : Int) (hL : L ≤ 9223372036854775807) (l : List Int) (hl : (l.length : Int) ≤ 9223372036854775807) : Ev (fun k => serpentine_within.f k W L S T J R l) (decide (GV W L S T J R ∧ ∀ x, x ∈ l → 0 ≤ x ∧ x ≤ W * L)) := by
  obtain ⟨K, h⟩ := Valid_ev W L S T J R hL
  refine ⟨K + l.length + 1, fun k hk => ?_⟩
  simp only [serpentine_within.f, h k (by omega), Option.bind_some]
  by_cases g : GV W L S T J R
  · have := g.C_pos; have := g.2.2.2.1
    rw [if_pos (by simpa using g), within_l0 W L S T J R (by omega) (by omega) l hl l.length k 0 (by omega) (by omega) (by omega)]
    simp [g, List.all_eq]
  · rw [if_neg (by simpa using g)]
    simp [g]

/-- A block, or the place behind the last one. -/
def Blk (W L S T J R b : Int) : Prop := GV W L S T J R ∧ 0 ≤ b ∧ b ≤ W * L
instance (W L S T J R b : Int) : Decidable (Blk W L S T J R b) := inferInstanceAs (Decidable (_ ∧ _))
theorem within1_ev (W L S T J R b : Int) (hL : L ≤ 9223372036854775807) : Ev (fun k => serpentine_within.f k W L S T J R [b]) (decide (Blk W L S T J R b)) := by
  have := within_ev W L S T J R hL [b] (by simp)
  have e : (GV W L S T J R ∧ ∀ x, x ∈ [b] → 0 ≤ x ∧ x ≤ W * L) ↔ Blk W L S T J R b := by simp [Blk]
  rw [decide_eq_decide.2 e] at this
  exact this
theorem within2_ev (W L S T J R a b : Int) (hL : L ≤ 9223372036854775807) : Ev (fun k => serpentine_within.f k W L S T J R [a, b]) (decide (Blk W L S T J R a ∧ Blk W L S T J R b)) := by
  have := within_ev W L S T J R hL [a, b] (by simp)
  have e : (GV W L S T J R ∧ ∀ x, x ∈ [a, b] → 0 ≤ x ∧ x ≤ W * L) ↔ (Blk W L S T J R a ∧ Blk W L S T J R b) := by
    simp [Blk]
    constructor
    · rintro ⟨h1, h2, h3⟩; exact ⟨⟨h1, h2⟩, h1, h3⟩
    · rintro ⟨⟨h1, h2⟩, _, h3⟩; exact ⟨h1, h2, h3⟩
  rw [decide_eq_decide.2 e] at this
  exact this

/-- What Place returns. -/
def placeR (W L S T J R b : Int) : Int × Int × Bool × Bool := if Blk W L S T J R b then ((place W L b).1, (place W L b).2.1, (place W L b).2.2, true) else (0, 0, false, false)
theorem Place_ev (W L S T J R b : Int) (hL : L ≤ 9223372036854775807) : Ev (fun k => serpentine_Place.f k W L S T J R b) (placeR W L S T J R b) := by
  obtain ⟨K, h⟩ := within1_ev W L S T J R b hL
  by_cases g : Blk W L S T J R b
  · obtain ⟨K2, h2⟩ := on_ev g.1 g.2.1 g.2.2
    refine ⟨K + K2, fun k hk => ?_⟩
    simp only [serpentine_Place.f, h k (by omega), h2 k (by omega), Option.bind_some, placeR, if_pos g]
    rw [if_pos (by simpa using g)]
  · refine ⟨K, fun k hk => ?_⟩
    simp only [serpentine_Place.f, h k (by omega), Option.bind_some, placeR, if_neg g]
    rw [if_neg (by simpa using g)]
def iabs (x : Int) : Int := if x < 0 then -x else x
theorem iabs_nn (x : Int) : 0 ≤ iabs x := by unfold iabs; split <;> omega
theorem iabs_le {x n : Int} (h1 : -n ≤ x) (h2 : x ≤ n) : iabs x ≤ n := by unfold iabs; split <;> omega
theorem iabs_comm (a b : Int) : iabs (a - b) = iabs (b - a) := by unfold iabs; split <;> split <;> omega
theorem mul_bd {S d m n : Int} (h0 : 0 ≤ S) (h1 : S ≤ m) (h2 : 0 ≤ d) (h3 : d ≤ n) : 0 ≤ S * d ∧ S * d ≤ m * n :=
  ⟨Int.mul_nonneg h0 h2, Int.mul_le_mul h1 h3 h2 (by omega)⟩

theorem place_b {W L S T J R b : Int} (h : Blk W L S T J R b) : 0 ≤ (place W L b).1 ∧ (place W L b).1 ≤ 4096 ∧ -1 ≤ (place W L b).2.1 ∧ (place W L b).2.1 ≤ L := by
  obtain ⟨g, h0, h1⟩ := h
  have hC := g.2.2.2.1; have hL := g.L_le; have hL1 := g.2.2.1; have hp := g.C_pos
  unfold place
  by_cases e : b = W * L
  · have hb := place0_b (L := L) (b := b - 1) hL1 (by omega)
    rw [if_pos e]
    simp only
    split <;> simp only <;> omega
  · have hb := place0_b (L := L) (b := b) hL1 (by omega)
    rw [if_neg e]
    omega
/-- Is the motion opposite to the target? -/
def opp (p q : Int × Int × Bool) : Bool := if q.2.1 > p.2.1 then q.2.2 else if q.2.1 < p.2.1 then !q.2.2 else p.2.2 != q.2.2
/-- The time of a motion. -/
def mot (S T J : Int) (p q : Int × Int × Bool) : Int := S * iabs (p.2.1 - q.2.1) + J * iabs (p.1 - q.1) + (if opp p q = true then T else 0)
theorem mot_b {S T J n : Int} {p q : Int × Int × Bool} (hS : TmOk S) (hT : TmOk T) (hJ : TmOk J) (h1 : -n ≤ p.2.1 - q.2.1) (h2 : p.2.1 - q.2.1 ≤ n) (h3 : -n ≤ p.1 - q.1) (h4 : p.1 - q.1 ≤ n) :
    0 ≤ S * iabs (p.2.1 - q.2.1) ∧ S * iabs (p.2.1 - q.2.1) ≤ 1000000 * n ∧ 0 ≤ J * iabs (p.1 - q.1) ∧ J * iabs (p.1 - q.1) ≤ 1000000 * n ∧ 0 ≤ mot S T J p q ∧ mot S T J p q ≤ 2000000 * n + 1000000 := by
  have a := mul_bd hS.1 hS.2 (iabs_nn _) (iabs_le h1 h2)
  have b := mul_bd hJ.1 hJ.2 (iabs_nn _) (iabs_le h3 h4)
  have c := hT.1; have d := hT.2
  unfold mot
  split <;> omega
theorem dist_eq {a b : Int} (h1 : -9223372036854775807 ≤ a - b) (h2 : a - b ≤ 9223372036854775807) : serpentine_distance.f a b = some (iabs (a - b)) := by
  unfold serpentine_distance.f
  rw [w64 (by omega) (by omega), w64 (by omega) (by omega), mx_eq]
  congr 1
  unfold iabs
  split <;> omega
theorem motion_ev {W L S T J R : Int} {p q : Int × Int × Bool} (hS : TmOk S) (hT : TmOk T) (hJ : TmOk J) (h1 : -5000 ≤ p.2.1 - q.2.1) (h2 : p.2.1 - q.2.1 ≤ 5000) (h3 : -5000 ≤ p.1 - q.1) (h4 : p.1 - q.1 ≤ 5000) :
    Ev (fun k => serpentine_motion.f k W L S T J R p.1 p.2.1 p.2.2 q.1 q.2.1 q.2.2) (mot S T J p q) := by
  have hb := mot_b (n := 5000) hS hT hJ h1 h2 h3 h4
  have c := hT.1; have d := hT.2
  refine Ev.shift 1 ⟨0, fun k _ => ?_⟩
  simp only [serpentine_motion.f, serpentine_motion.j0, dist_eq (a := p.2.1) (b := q.2.1) (by omega) (by omega), dist_eq (a := p.1) (b := q.1) (by omega) (by omega), Option.bind_some]
  rw [w64 (x := S * _) (by omega) (by omega), w64 (x := J * _) (by omega) (by omega), w64 (x := S * _ + _) (by omega) (by omega), w64 (by omega) (by omega)]
  unfold mot opp
  by_cases a1 : q.2.1 > p.2.1
  · rw [if_pos a1, if_pos a1]
    split <;> simp
  · rw [if_neg a1, if_neg a1]
    by_cases a2 : q.2.1 < p.2.1
    · rw [if_pos a2, if_pos a2]
      split <;> simp
    · rw [if_neg a2, if_neg a2]
      split <;> simp

/-- What Locate returns. -/
def loc (W L S T J R a b : Int) : Int := if a ≠ b ∧ Blk W L S T J R a ∧ Blk W L S T J R b then mot S T J (place W L a) (place W L b) else 0
theorem places_b {W L S T J R a b : Int} (ha : Blk W L S T J R a) (hb : Blk W L S T J R b) : -5000 ≤ (place W L a).2.1 - (place W L b).2.1 ∧ (place W L a).2.1 - (place W L b).2.1 ≤ 5000 ∧ -5000 ≤ (place W L a).1 - (place W L b).1 ∧ (place W L a).1 - (place W L b).1 ≤ 5000 := by
  have := place_b ha; have := place_b hb; have := ha.1.L_le
  omega
theorem Locate_ev (W L S T J R a b : Int) (hL : L ≤ 9223372036854775807) : Ev (fun k => serpentine_Locate.f k W L S T J R a b) (loc W L S T J R a b) := by
  obtain ⟨K, h⟩ := within2_ev W L S T J R a b hL
  by_cases e : a = b
  · refine Ev.shift 1 ⟨K, fun k hk => ?_⟩
    simp only [serpentine_Locate.f, serpentine_Locate.j0, if_pos e, if_true, loc]
    rw [if_neg (fun h => h.1 e)]
  · by_cases g : Blk W L S T J R a ∧ Blk W L S T J R b
    · obtain ⟨K1, h1⟩ := on_ev g.1.1 g.1.2.1 g.1.2.2
      obtain ⟨K2, h2⟩ := on_ev g.2.1 g.2.2.1 g.2.2.2
      obtain ⟨b1, b2, b3, b4⟩ := places_b g.1 g.2
      obtain ⟨K3, h3⟩ := motion_ev (W := W) (L := L) (R := R) (p := place W L a) (q := place W L b) g.1.1.2.2.2.2.1 g.1.1.2.2.2.2.2.1 g.1.1.2.2.2.2.2.2.1 b1 b2 b3 b4
      refine Ev.shift 1 ⟨K + K1 + K2 + K3, fun k hk => ?_⟩
      simp only [serpentine_Locate.f, serpentine_Locate.j0, if_neg e, h (k + 1) (by omega), h1 k (by omega), h2 k (by omega), h3 k (by omega), Option.bind_some, loc]
      rw [if_neg (by simp [g]), if_pos ⟨e, g⟩]
    · refine Ev.shift 1 ⟨K, fun k hk => ?_⟩
      simp only [serpentine_Locate.f, serpentine_Locate.j0, if_neg e, h (k + 1) (by omega), Option.bind_some, loc]
      rw [if_pos (by rw [Bool.not_eq_true', decide_eq_false_iff_not]; exact g), if_neg (fun h => g h.2)]
theorem ediv_is {y L q : Int} (hL : 1 ≤ L) (h1 : q * L ≤ y) (h2 : y < (q + 1) * L) : y / L = q := by
  have a := (Int.le_ediv_iff_mul_le (show 0 < L by omega)).2 h1
  have b := (Int.ediv_lt_iff_lt_mul (show 0 < L by omega)).2 h2
  omega
theorem div_step {x L : Int} (hL : 1 ≤ L) : x / L = (x - 1) / L + (if x % L = 0 then 1 else 0) := by
  have h1 := Int.mul_ediv_add_emod x L
  have h2 := Int.emod_nonneg x (show L ≠ 0 by omega)
  have h3 := Int.emod_lt_of_pos x (show 0 < L by omega)
  rw [Int.mul_comm] at h1
  generalize x / L = q at h1 ⊢
  generalize x % L = r at h1 h2 h3 ⊢
  have e1 : (q - 1) * L = q * L - L := by rw [Int.sub_mul, Int.one_mul]
  have e2 : (q + 1) * L = q * L + L := by rw [Int.add_mul, Int.one_mul]
  split
  · rename_i h
    rw [ediv_is (y := x - 1) (q := q - 1) hL (by omega) (by rw [show q - 1 + 1 = q by omega]; omega)]
    omega
  · rw [ediv_is (y := x - 1) (q := q) hL (by omega) (by omega)]
    omega
theorem div_mono {a b L : Int} (hL : 1 ≤ L) (h : a ≤ b) : a / L ≤ b / L := Int.ediv_le_ediv (by omega) h

/-- What Read returns. -/
def rdt (W L S T J R a n : Int) : Int := if Blk W L S T J R a ∧ 1 ≤ n ∧ n ≤ W * L - a then R * n + (J + T) * ((a + n - 1) / L - a / L) else 0
theorem rdt_parts {W L S T J R a n : Int} (h : Blk W L S T J R a) (h1 : 1 ≤ n) (h2 : n ≤ W * L - a) :
    0 ≤ R * n ∧ R * n ≤ 1000000 * 4096 ∧ 0 ≤ (a + n - 1) / L - a / L ∧ (a + n - 1) / L - a / L ≤ 4096 ∧ 0 ≤ (J + T) * ((a + n - 1) / L - a / L) ∧ (J + T) * ((a + n - 1) / L - a / L) ≤ 2000000 * 4096 := by
  obtain ⟨g, h0, h3⟩ := h
  have hC := g.2.2.2.1; have hL1 := g.2.2.1
  have t1 := g.2.2.2.2.2.1; have t2 := g.2.2.2.2.2.2.1; have t3 := g.2.2.2.2.2.2.2
  unfold TmOk at t1 t2 t3
  have a1 := mul_bd (d := n) t3.1 t3.2 (by omega) (show n ≤ 4096 by omega)
  have a2 := div_mono hL1 (show a ≤ a + n - 1 by omega)
  have a3 : (a + n - 1) / L ≤ a + n - 1 := Int.ediv_le_self _ (by omega)
  have a4 : 0 ≤ a / L := Int.ediv_nonneg h0 (by omega)
  have a5 := mul_bd (S := J + T) (d := (a + n - 1) / L - a / L) (m := 2000000) (n := 4096) (by omega) (by omega) (by omega) (by omega)
  omega
theorem Read_ev (W L S T J R a n : Int) (hL : L ≤ 9223372036854775807) : Ev (fun k => serpentine_Read.f k W L S T J R a n) (rdt W L S T J R a n) := by
  obtain ⟨K, h⟩ := within1_ev W L S T J R a hL
  refine Ev.shift 1 ⟨K, fun k hk => ?_⟩
  simp only [serpentine_Read.f, serpentine_Read.j0, h (k + 1) (by omega), Option.bind_some, rdt, if_true]
  by_cases g : Blk W L S T J R a
  · have hC := g.1.2.2.2.1; have hL1 := g.1.2.2.1; have hp := g.1.C_pos; have h0 := g.2.1; have h3 := g.2.2; have hLL := g.1.L_le
    rw [if_pos (by simpa using g)]
    by_cases c : n < 1
    · rw [if_pos c, if_neg (by omega)]
    · rw [if_neg c, w64 (x := W * L) (by omega) (by omega), w64 (x := W * L - a) (by omega) (by omega)]
      by_cases d : n > W * L - a
      · rw [if_pos (by simpa using d), if_neg (by omega)]
      · obtain ⟨p1, p2, p3, p4, p5, p6⟩ := rdt_parts g (n := n) (by omega) (by omega)
        have t1 := g.1.2.2.2.2.2.1; have t2 := g.1.2.2.2.2.2.2.1
        unfold TmOk at t1 t2
        have a3 : (a + n - 1) / L ≤ a + n - 1 := Int.ediv_le_self _ (by omega)
        have a4 : 0 ≤ a / L := Int.ediv_nonneg h0 (by omega)
        rw [if_neg (by simpa using d), if_neg (by omega), if_pos ⟨g, by omega, by omega⟩, w64 (x := R * n) (by omega) (by omega), w64 (x := J + T) (by omega) (by omega), w64 (x := a + n) (by omega) (by omega), w64 (x := a + n - 1) (by omega) (by omega), tdiv_nn (by omega), tdiv_nn h0, w64 (x := (a + n - 1) / L) (by omega) (by omega), w64 (x := a / L) (by omega) (by omega), w64 (x := _ / L - _) (by omega) (by omega), w64 (x := (J + T) * _) (by omega) (by omega), w64 (by omega) (by omega)]
  · rw [if_neg (by simpa using g), if_neg (fun h => g h.1)]

/-- The time of the first i blocks of a span. -/
def acc (L T J R a i : Int) : Int := if i = 0 then 0 else R * i + (J + T) * ((a + i - 1) / L - a / L)
theorem acc_step {L T J R a i : Int} (hL : 1 ≤ L) (h0 : 0 ≤ i) : acc L T J R a (i + 1) = acc L T J R a i + R + (if 0 < i ∧ (a + i) % L = 0 then J + T else 0) := by
  unfold acc
  rw [if_neg (by omega), show a + (i + 1) - 1 = a + i by omega, Int.mul_add R]
  have h := div_step (x := a + i) hL
  by_cases e : i = 0
  · subst e
    simp
  · rw [if_neg e, h]
    by_cases f : (a + i) % L = 0
    · rw [if_pos f, if_pos ⟨by omega, f⟩, show (a + i - 1) / L + 1 - a / L = ((a + i - 1) / L - a / L) + 1 by omega, Int.mul_add (J + T)]
      omega
    · rw [if_neg f, if_neg (fun h => f h.2), show (a + i - 1) / L + 0 - a / L = (a + i - 1) / L - a / L by omega]
      omega
theorem acc_b {W L S T J R a i : Int} (h : Blk W L S T J R a) (h1 : 0 ≤ i) (h2 : i ≤ W * L - a) : 0 ≤ acc L T J R a i ∧ acc L T J R a i ≤ 20000000000 := by
  unfold acc
  split
  · omega
  · have := rdt_parts h (n := i) (by omega) (by omega)
    omega
/-- What Passes returns. -/
def pss (W L S T J R a b : Int) : Int := if Blk W L S T J R a ∧ Blk W L S T J R b then (iabs ((place W L a).2.1 - (place W L b).2.1) * 1000 + L - 1) / L else 0
theorem Passes_ev (W L S T J R a b : Int) (hL : L ≤ 9223372036854775807) : Ev (fun k => serpentine_Passes.f k W L S T J R a b) (pss W L S T J R a b) := by
  obtain ⟨K, h⟩ := within2_ev W L S T J R a b hL
  by_cases g : Blk W L S T J R a ∧ Blk W L S T J R b
  · obtain ⟨K1, h1⟩ := on_ev g.1.1 g.1.2.1 g.1.2.2
    obtain ⟨K2, h2⟩ := on_ev g.2.1 g.2.2.1 g.2.2.2
    obtain ⟨b1, b2, b3, b4⟩ := places_b g.1 g.2
    have hL1 := g.1.1.2.2.1; have hLL := g.1.1.L_le
    have i0 := iabs_nn ((place W L a).2.1 - (place W L b).2.1); have i1 := iabs_le b1 b2
    have q0 : (iabs ((place W L a).2.1 - (place W L b).2.1) * 1000 + L - 1) / L ≤ _ := Int.ediv_le_self _ (by omega)
    have q1 : 0 ≤ (iabs ((place W L a).2.1 - (place W L b).2.1) * 1000 + L - 1) / L := Int.ediv_nonneg (by omega) (by omega)
    refine ⟨K + K1 + K2, fun k hk => ?_⟩
    simp only [serpentine_Passes.f, h k (by omega), h1 k (by omega), h2 k (by omega), dist_eq (a := (place W L a).2.1) (b := (place W L b).2.1) (by omega) (by omega), Option.bind_some, pss]
    rw [if_pos (by simpa using g), if_neg (by omega), if_pos g, w64 (x := _ * 1000) (by omega) (by omega), w64 (x := _ * 1000 + L) (by omega) (by omega), w64 (x := _ * 1000 + L - 1) (by omega) (by omega), tdiv_nn (by omega), w64 (by omega) (by omega)]
  · refine ⟨K, fun k hk => ?_⟩
    simp only [serpentine_Passes.f, h k (by omega), Option.bind_some, pss]
    rw [if_neg (by simpa using g), if_neg g]
/-- The ends of the wraps from wrap i on, d of them. -/
def endsFrom (L : Int) : Int → Nat → List Int
  | _, 0 => []
  | i, d + 1 => i * L :: ((i + 1) * L - 1) :: endsFrom L (i + 1) d
theorem endsFrom_length (L : Int) : ∀ (d : Nat) (i : Int), (endsFrom L i d).length = 2 * d
  | 0, _ => rfl
  | d + 1, i => by simp only [endsFrom, List.length_cons, endsFrom_length L d (i + 1)]; omega
def endsL (W L : Int) : List Int := [W * L] ++ endsFrom L 0 W.toNat
theorem endsL_length (W L : Int) : (endsL W L).length = 1 + 2 * W.toNat := by simp [endsL, endsFrom_length]; omega
theorem wrap_b {W L i : Int} (hL : 1 ≤ L) (hC : W * L ≤ 4096) (h0 : 0 ≤ i) (h1 : i < W) : 0 ≤ i * L ∧ i * L + L ≤ W * L ∧ (i + 1) * L = i * L + L := by
  have a := Int.mul_nonneg h0 (show 0 ≤ L by omega)
  have b : (i + 1) * L ≤ W * L := Int.mul_le_mul_of_nonneg_right (by omega) (by omega)
  have c : (i + 1) * L = i * L + L := by rw [Int.add_mul, Int.one_mul]
  omega
theorem ends_l0 {W L S T J R : Int} (g : GV W L S T J R) : ∀ (d k : Nat) (i : Int) (x : List Int), 0 ≤ i → i + d = W → (x.length : Int) = 1 + 2 * i → d < k → serpentine_ends.l0 k x W i W L S T J R = some (x ++ endsFrom L i d) := by
  intro d
  have hL1 := g.2.2.1; have hC := g.2.2.2.1; have hW := g.2.1; have hLL := g.L_le
  induction d with
  | zero =>
    intro k i x h0 h1 _ hk
    obtain ⟨k, rfl⟩ : ∃ m, k = m + 1 := ⟨k - 1, by omega⟩
    simp only [serpentine_ends.l0]
    rw [if_neg (by omega)]; simp [endsFrom]
  | succ d ih =>
    intro k i x h0 h1 hx hk
    obtain ⟨k, rfl⟩ : ∃ m, k = m + 1 := ⟨k - 1, by omega⟩
    obtain ⟨w1, w2, w3⟩ := wrap_b hL1 hC h0 (show i < W by omega)
    simp only [serpentine_ends.l0, Option.bind_some]
    rw [if_pos (by omega), w64 (x := i + 1) (by omega) (by omega), w64 (x := i * L) (by omega) (by omega), w64 (x := (i + 1) * L) (by omega) (by omega), w64 (x := (i + 1) * L - 1) (by omega) (by omega), if_pos (by simp; omega)]
    rw [ih k (i + 1) _ (by omega) (by omega) (by simp; omega) (by omega)]
    simp [endsFrom]
theorem ends_ev {W L S T J R : Int} (g : GV W L S T J R) : Ev (fun k => serpentine_ends.f k W L S T J R) (endsL W L) := by
  have hC := g.2.2.2.1; have hW := g.2.1; have hp := g.C_pos
  refine ⟨W.toNat + 1, fun k hk => ?_⟩
  have := ends_l0 g W.toNat k 0 [W * L] (by omega) (by have := g.1; omega) (by simp) (by omega)
  simp only [serpentine_ends.f]
  rw [w64 (x := W * L) (by omega) (by omega)]
  exact this

/-- The greatest time of a motion between ends. -/
def far (W L S T J R : Int) : Int := if GV W L S T J R then (endsL W L).foldl (fun m a => (endsL W L).foldl (fun m b => max m (loc W L S T J R a b)) m) 0 else 0
theorem far_l1 {W L S T J R : Int} (hL : L ≤ 9223372036854775807) (l : List Int) (hl : (l.length : Int) ≤ 1000) (a x r : Int) : ∀ (d : Nat) (m i : Int), 0 ≤ i → i + d = l.length →
    Ev (fun k => serpentine_Farthest.l0 k ((l.drop i.toNat).foldl (fun m b => max m (loc W L S T J R a b)) m) l l l.length (wrap64 (x + 1)) W L S T J R) r → Ev (fun k => serpentine_Farthest.l1 k m l a l l.length x l l.length i W L S T J R) r := by
  intro d
  induction d with
  | zero =>
    intro m i h0 h1 he
    rw [List.drop_of_length_le (by omega)] at he
    refine Ev.step (fun k => ?_) he
    simp only [serpentine_Farthest.l1]
    rw [if_neg (by omega)]; rfl
  | succ d ih =>
    intro m i h0 h1 he
    rw [drop_rd h0 (by omega)] at he
    obtain ⟨K, hK⟩ := Locate_ev W L S T J R a (rd l i) hL
    obtain ⟨K2, hK2⟩ := ih (max m (loc W L S T J R a (rd l i))) (i + 1) (by omega) (by omega) he
    refine Ev.shift 1 ⟨K + K2, fun k hk => ?_⟩
    simp only [serpentine_Farthest.l1]
    rw [if_pos (by omega), if_pos h0, if_pos (by omega)]
    simp only [hK k (by omega), Option.bind_some]
    rw [w64 (x := i + 1) (by omega) (by omega), mx_eq]
    exact hK2 k (by omega)
theorem far_l0 {W L S T J R : Int} (hL : L ≤ 9223372036854775807) (l : List Int) (hl : (l.length : Int) ≤ 1000) : ∀ (d : Nat) (m i : Int), 0 ≤ i → i + d = l.length →
    Ev (fun k => serpentine_Farthest.l0 k m l l l.length i W L S T J R) ((l.drop i.toNat).foldl (fun m a => l.foldl (fun m b => max m (loc W L S T J R a b)) m) m) := by
  intro d
  induction d with
  | zero =>
    intro m i h0 h1
    rw [List.drop_of_length_le (by omega)]
    refine Ev.shift 1 ⟨0, fun k _ => ?_⟩
    simp only [serpentine_Farthest.l0]
    rw [if_neg (by omega)]; rfl
  | succ d ih =>
    intro m i h0 h1
    rw [drop_rd h0 (by omega)]
    have h := ih (l.foldl (fun m b => max m (loc W L S T J R (rd l i) b)) m) (i + 1) (by omega) (by omega)
    obtain ⟨K, hK⟩ := far_l1 hL l hl (rd l i) i _ l.length m 0 (by omega) (by omega) (by rw [w64 (x := i + 1) (by omega) (by omega)]; exact h)
    refine Ev.shift 1 ⟨K, fun k hk => ?_⟩
    simp only [serpentine_Farthest.l0]
    rw [if_pos (by omega), if_pos h0, if_pos (by omega)]
    exact hK k hk
theorem Farthest_ev (W L S T J R : Int) (hL : L ≤ 9223372036854775807) : Ev (fun k => serpentine_Farthest.f k W L S T J R) (far W L S T J R) := by
  obtain ⟨K, h⟩ := Valid_ev W L S T J R hL
  by_cases g : GV W L S T J R
  · obtain ⟨K2, h2⟩ := ends_ev g
    have hW := g.2.1
    obtain ⟨K3, h3⟩ := far_l0 (S := S) (T := T) (J := J) (R := R) (W := W) hL (endsL W L) (by rw [endsL_length]; omega) (endsL W L).length 0 0 (by omega) (by omega)
    refine ⟨K + K2 + K3, fun k hk => ?_⟩
    simp only [serpentine_Farthest.f, h k (by omega), h2 k (by omega), h3 k (by omega), Option.bind_some, far, if_pos g]
    rw [if_pos (by simpa using g)]; rfl
  · refine ⟨K, fun k hk => ?_⟩
    simp only [serpentine_Farthest.f, h k (by omega), Option.bind_some, far, if_neg g]
    rw [if_neg (by simpa using g)]
/-- The number that a place stands for. -/
def unplace (L : Int) (p : Int × Int × Bool) : Int := p.1 * L + (if p.2.2 = true then L - 1 - p.2.1 else p.2.1)
theorem unplace_place0 (L b : Int) : unplace L (place0 L b) = b := by
  have h1 := Int.mul_ediv_add_emod b L
  rw [Int.mul_comm] at h1
  unfold unplace place0
  split
  · simp only [if_true]; omega
  · simp only [Bool.false_eq_true, if_false]; omega
theorem unplace_place {W L b : Int} : unplace L (place W L b) = b := by
  unfold place
  by_cases e : b = W * L
  · rw [if_pos e]
    have := unplace_place0 L (b - 1)
    simp only
    unfold unplace at this ⊢
    split <;> simp_all <;> omega
  · rw [if_neg e]; exact unplace_place0 L b
theorem place_inj {W L a b : Int} (h : place W L a = place W L b) : a = b := by
  rw [← unplace_place (W := W) (L := L) (b := a), h, unplace_place]
theorem place_three {p : Int × Int × Bool} {w x : Int} {bk : Bool} : ((p.1 == w && (p.2.1 == x && (p.2.2 == bk))) = true) ↔ p = (w, x, bk) := by
  obtain ⟨p1, p2, p3⟩ := p
  simp
end Go.Proofs.Ytnogfkhbfgmjcaa.P
