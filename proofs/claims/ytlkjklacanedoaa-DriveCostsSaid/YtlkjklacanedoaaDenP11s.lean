/- What the functions of layer 9 compute, as layer 11 uses them. -/
import Derived.Test.YtlkjklacanedoaaDenP11h
namespace Go.Proofs.Ytlkjklacanedoaa.Den.G11
open Go.Proofs.Ytlkjklacanedoaa.Den Go
set_option linter.unusedVariables false
set_option linter.unusedSectionVars false
set_option linter.unusedSimpArgs false
variable {D : Nat} [hBig : Big D]
def TmOk (x : Int) : Prop := 0 ≤ x ∧ x ≤ 1000000
instance (x : Int) : Decidable (TmOk x) := inferInstanceAs (Decidable (_ ∧ _))
/-- A valid geometry. -/
def GV (W L S T J R : Int) : Prop := 1 ≤ W ∧ W ≤ 32 ∧ 1 ≤ L ∧ W * L ≤ 4096 ∧ TmOk S ∧ TmOk T ∧ TmOk J ∧ TmOk R
instance (W L S T J R : Int) : Decidable (GV W L S T J R) := inferInstanceAs (Decidable (_ ∧ _))

theorem GV.L_le {W L S T J R : Int} (h : GV W L S T J R) : L ≤ 4096 := by
  obtain ⟨h1, _, h3, h4, _⟩ := h
  have : 1 * L ≤ W * L := Int.mul_le_mul_of_nonneg_right h1 (by omega)
  omega
theorem GV.C_pos {W L S T J R : Int} (h : GV W L S T J R) : 1 ≤ W * L := by
  obtain ⟨h1, _, h3, h4, _⟩ := h
  have : 1 * L ≤ W * L := Int.mul_le_mul_of_nonneg_right h1 (by omega)
  omega

theorem tdiv_nn {a b : Int} (h : 0 ≤ a) : Int.tdiv a b = a / b := Int.tdiv_eq_ediv_of_nonneg h
theorem tmod_nn {a b : Int} (h : 0 ≤ a) : Int.tmod a b = a % b := Int.tmod_eq_emod_of_nonneg h
theorem okG_iff {W L S T J R : Int} : okG (W, L, S, T, J, R) = true ↔ GV W L S T J R := by
  simp only [okG, GV, TmOk, List.all_cons, List.all_nil, Bool.and_true, Bool.and_eq_true, decide_eq_true_eq, okTm]
  constructor
  · rintro ⟨⟨h1, h2, h3, h4, h5⟩, h6⟩
    exact ⟨h1, h2, h3, h5, h6⟩
  · rintro ⟨h1, h2, h3, h5, h6⟩
    refine ⟨⟨h1, h2, h3, ?_, h5⟩, h6⟩
    have : 1 * L ≤ W * L := Int.mul_le_mul_of_nonneg_right h1 (by omega)
    omega
theorem geoV {W L S T J R : Int} : okG (W, L, S, T, J, R) = decide (GV W L S T J R) := by
  by_cases h : GV W L S T J R
  · rw [decide_eq_true h, okG_iff.2 h]
  · rw [decide_eq_false h]
    exact Bool.eq_false_iff.2 (fun e => h (okG_iff.1 e))
theorem Valid_gv {d : Nat} (hd : 5 ≤ d) (W L S T J R : Int) : serpentine_Valid d (W, L, S, T, J, R) = some (decide (GV W L S T J R)) := by rw [geo_eq hd, geoV]
theorem rValid_gv (d : Nat) (W L S T J R : Int) : tapearchiveref09_Valid d (W, L, S, T, J, R) = some (decide (GV W L S T J R)) := by rw [rGeo_eq, geoV]
theorem rCap_gv (d : Nat) (W L S T J R : Int) : tapearchiveref09_Capacity d (W, L, S, T, J, R) = some (if GV W L S T J R then W * L else 0) := by
  unfold tapearchiveref09_Capacity
  rw [rValid_gv]
  by_cases g : GV W L S T J R
  · have := g.C_pos; have := g.2.2.2.1
    rw [decide_eq_true g, if_pos g]
    simp only [Option.bind_some, Bool.not_true, Bool.false_eq_true, if_false]
    rw [w64 (by omega) (by omega)]
  · rw [decide_eq_false g, if_neg g]; rfl
/-- The place of a block before the end. -/
def place0 (L b : Int) : Int × Int × Bool := if b / L % 2 = 1 then (b / L, L - 1 - b % L, true) else (b / L, b % L, false)
/-- The place of a block, or the one behind the last. -/
def place (W L b : Int) : Int × Int × Bool := if b = W * L then (let p := place0 L (b - 1); if p.2.2 = true then (p.1, p.2.1 - 1, p.2.2) else (p.1, p.2.1 + 1, p.2.2)) else place0 L b

theorem place0_b {L b : Int} (hL : 1 ≤ L) (hb : 0 ≤ b) : 0 ≤ (place0 L b).1 ∧ (place0 L b).1 ≤ b ∧ 0 ≤ (place0 L b).2.1 ∧ (place0 L b).2.1 ≤ L - 1 := by
  have h1 : 0 ≤ b / L := Int.ediv_nonneg hb (by omega)
  have h2 : b / L ≤ b := Int.ediv_le_self _ hb
  have h3 := Int.emod_nonneg b (show L ≠ 0 by omega)
  have h4 := Int.emod_lt_of_pos b (show 0 < L by omega)
  unfold place0
  split <;> simp only <;> omega

theorem on_step {W L S T J R b : Int} (g : GV W L S T J R) (h0 : 0 ≤ b) (h1 : b < W * L) (k : Nat) : serpentine_on (k + 1) (W, L, S, T, J, R) b = some (place0 L b) := by
  have hC := g.2.2.2.1; have hL := g.L_le; have hL1 := g.2.2.1
  have a1 : 0 ≤ b / L := Int.ediv_nonneg h0 (by omega)
  have a2 : b / L ≤ b := Int.ediv_le_self _ h0
  have a3 := Int.emod_nonneg b (show L ≠ 0 by omega)
  have a4 := Int.emod_lt_of_pos b (show 0 < L by omega)
  simp only [serpentine_on, decide_eq_true_eq]
  rw [w64 (x := W * L) (by omega) (by omega), if_neg (by omega), if_neg (by omega), if_neg (by omega), tdiv_nn h0, tmod_nn h0, w64 (x := b / L) (by omega) (by omega), tmod_nn a1, w64 (x := L - 1) (by omega) (by omega), w64 (by omega) (by omega)]
  unfold place0
  split <;> rfl
theorem on_eq {W L S T J R b : Int} (g : GV W L S T J R) (h0 : 0 ≤ b) (h1 : b ≤ W * L) {d : Nat} (hd : 2 ≤ d) : serpentine_on d (W, L, S, T, J, R) b = some (place W L b) := by
  have hC := g.2.2.2.1; have hL := g.L_le; have hL1 := g.2.2.1; have hp := g.C_pos
  obtain ⟨k, rfl⟩ : ∃ k, d = k + 2 := ⟨d - 2, by omega⟩
  by_cases e : b = W * L
  · have hb := place0_b (L := L) (b := b - 1) hL1 (by omega)
    rw [serpentine_on]
    simp only [decide_eq_true_eq]
    rw [w64 (x := W * L) (by omega) (by omega), if_pos e, w64 (x := b - 1) (by omega) (by omega), on_step g (by omega) (by omega)]
    simp only [Option.bind_some, place, if_pos e]
    rw [w64 (x := (place0 L (b - 1)).2.1 - 1) (by omega) (by omega), w64 (x := (place0 L (b - 1)).2.1 + 1) (by omega) (by omega)]
    split <;> rfl
  · rw [on_step g h0 (by omega)]
    simp only [place, if_neg e]
theorem within_l0 (W L S T J R : Int) (hC0 : -9223372036854775808 ≤ W * L) (hC : W * L ≤ 9223372036854775807) (d : Nat) (l : List Int) (hl : (l.length : Int) ≤ 9223372036854775806) : ∀ (m k : Nat) (i : Int), 0 ≤ i → i + m = l.length → m < k →
    serpentine_within_l0 d k l l.length i (W, L, S, T, J, R) = some (if ((l.drop i.toNat).all fun x => decide (0 ≤ x ∧ x ≤ W * L)) = true then .inl () else .inr false) := by
  intro m
  induction m with
  | zero =>
    intro k i h0 h1 hk
    obtain ⟨k, rfl⟩ : ∃ m, k = m + 1 := ⟨k - 1, by omega⟩
    simp only [serpentine_within_l0, decide_eq_true_eq]
    rw [if_neg (by omega), List.drop_of_length_le (by omega)]
    rfl
  | succ m ih =>
    intro k i h0 h1 hk
    obtain ⟨k, rfl⟩ : ∃ m, k = m + 1 := ⟨k - 1, by omega⟩
    rw [drop_getD 0 h0 (by omega), List.all_cons]
    simp only [serpentine_within_l0, decide_eq_true_eq]
    rw [if_pos (by omega), if_pos (by omega), w64 (x := i + 1) (by omega) (by omega), ih k (i + 1) (by omega) (by omega) (by omega), w64 (x := W * L) hC0 hC]
    generalize l.getD i.toNat 0 = x
    by_cases a : x < 0
    · rw [if_pos a, decide_eq_false (by omega)]; rfl
    · rw [if_neg a]
      by_cases b : x > W * L
      · rw [if_pos b, decide_eq_false (by omega)]; rfl
      · rw [if_neg b, decide_eq_true (by omega), Bool.true_and]
theorem within_eq (W L S T J R : Int) (l : List Int) (hl : l.length ≤ 10) : serpentine_within D (W, L, S, T, J, R) l = some (decide (GV W L S T J R ∧ ∀ x, x ∈ l → 0 ≤ x ∧ x ≤ W * L)) := by
  have hD := hBig.h
  unfold serpentine_within
  rw [Valid_gv (by omega)]
  by_cases g : GV W L S T J R
  · have := g.C_pos; have := g.2.2.2.1
    rw [decide_eq_true g]
    simp only [Option.bind_some, Bool.not_true, Bool.false_eq_true, if_false]
    rw [within_l0 W L S T J R (by omega) (by omega) D l (by omega) l.length D 0 (by omega) (by omega) (by omega), Int.toNat_zero, List.drop_zero]
    by_cases h : (l.all fun x => decide (0 ≤ x ∧ x ≤ W * L)) = true
    · rw [if_pos h, decide_eq_true ⟨g, fun x hx => of_decide_eq_true (List.all_eq_true.1 h x hx)⟩]; rfl
    · rw [if_neg h, decide_eq_false (fun hh => h (List.all_eq_true.2 fun x hx => decide_eq_true (hh.2 x hx)))]; rfl
  · rw [decide_eq_false g, decide_eq_false (fun h => g h.1)]; rfl
/-- A block, or the place behind the last one. -/
def PB (W L S T J R b : Int) : Prop := GV W L S T J R ∧ 0 ≤ b ∧ b ≤ W * L
instance (W L S T J R b : Int) : Decidable (PB W L S T J R b) := inferInstanceAs (Decidable (_ ∧ _))
theorem within1 (W L S T J R b : Int) : serpentine_within D (W, L, S, T, J, R) [b] = some (decide (PB W L S T J R b)) := by
  have hD := hBig.h
  rw [within_eq W L S T J R [b] (by simp)]
  congr 1
  refine decide_eq_decide.2 ?_
  simp [PB]
theorem within2 (W L S T J R a b : Int) : serpentine_within D (W, L, S, T, J, R) [a, b] = some (decide (PB W L S T J R a ∧ PB W L S T J R b)) := by
  have hD := hBig.h
  rw [within_eq W L S T J R [a, b] (by simp)]
  congr 1
  refine decide_eq_decide.2 ?_
  simp [PB]
  constructor
  · rintro ⟨h1, h2, h3⟩; exact ⟨⟨h1, h2⟩, h1, h3⟩
  · rintro ⟨⟨h1, h2⟩, _, h3⟩; exact ⟨h1, h2, h3⟩
def iabs (x : Int) : Int := if x < 0 then -x else x
theorem iabs_nn (x : Int) : 0 ≤ iabs x := by unfold iabs; split <;> omega
theorem iabs_le {x n : Int} (h1 : -n ≤ x) (h2 : x ≤ n) : iabs x ≤ n := by unfold iabs; split <;> omega
theorem iabs_comm (a b : Int) : iabs (a - b) = iabs (b - a) := by unfold iabs; split <;> split <;> omega
theorem mul_bd {S d m n : Int} (h0 : 0 ≤ S) (h1 : S ≤ m) (h2 : 0 ≤ d) (h3 : d ≤ n) : 0 ≤ S * d ∧ S * d ≤ m * n :=
  ⟨Int.mul_nonneg h0 h2, Int.mul_le_mul h1 h3 h2 (by omega)⟩

theorem place_b {W L S T J R b : Int} (h : PB W L S T J R b) : 0 ≤ (place W L b).1 ∧ (place W L b).1 ≤ 4096 ∧ -1 ≤ (place W L b).2.1 ∧ (place W L b).2.1 ≤ L := by
  obtain ⟨g, h0, h1⟩ := h
  have hC := g.2.2.2.1; have hL := g.L_le; have hL1 := g.2.2.1; have hp := g.C_pos
  unfold place
  by_cases e : b = W * L
  · have hb := place0_b (L := L) (b := b - 1) hL1 (by omega)
    rw [if_pos e]
    simp only
    split <;> simp only <;> omega
  · have hb := place0_b (L := L) (b := b) hL1 (by omega)
    rw [if_neg e]
    omega
/-- Is the motion opposite to the target? -/
def opp (p q : Int × Int × Bool) : Bool := if q.2.1 > p.2.1 then q.2.2 else if q.2.1 < p.2.1 then !q.2.2 else p.2.2 != q.2.2
/-- The time of a motion. -/
def mot (S T J : Int) (p q : Int × Int × Bool) : Int := S * iabs (p.2.1 - q.2.1) + J * iabs (p.1 - q.1) + (if opp p q = true then T else 0)
theorem mot_b {S T J n : Int} {p q : Int × Int × Bool} (hS : TmOk S) (hT : TmOk T) (hJ : TmOk J) (h1 : -n ≤ p.2.1 - q.2.1) (h2 : p.2.1 - q.2.1 ≤ n) (h3 : -n ≤ p.1 - q.1) (h4 : p.1 - q.1 ≤ n) :
    0 ≤ S * iabs (p.2.1 - q.2.1) ∧ S * iabs (p.2.1 - q.2.1) ≤ 1000000 * n ∧ 0 ≤ J * iabs (p.1 - q.1) ∧ J * iabs (p.1 - q.1) ≤ 1000000 * n ∧ 0 ≤ mot S T J p q ∧ mot S T J p q ≤ 2000000 * n + 1000000 := by
  have a := mul_bd hS.1 hS.2 (iabs_nn _) (iabs_le h1 h2)
  have b := mul_bd hJ.1 hJ.2 (iabs_nn _) (iabs_le h3 h4)
  have c := hT.1; have d := hT.2
  unfold mot
  split <;> omega
theorem dist_eq {d : Nat} {a b : Int} (h1 : -9223372036854775807 ≤ a - b) (h2 : a - b ≤ 9223372036854775807) : serpentine_distance d a b = some (iabs (a - b)) := by
  unfold serpentine_distance
  rw [w64 (by omega) (by omega), w64 (by omega) (by omega)]
  congr 1
  unfold iabs
  split <;> omega
theorem motion_eq {d : Nat} {W L S T J R : Int} {p q : Int × Int × Bool} (hS : TmOk S) (hT : TmOk T) (hJ : TmOk J) (h1 : -5000 ≤ p.2.1 - q.2.1) (h2 : p.2.1 - q.2.1 ≤ 5000) (h3 : -5000 ≤ p.1 - q.1) (h4 : p.1 - q.1 ≤ 5000) :
    serpentine_motion d (W, L, S, T, J, R) p q = some (mot S T J p q) := by
  have hb := mot_b (n := 5000) hS hT hJ h1 h2 h3 h4
  have c := hT.1; have d := hT.2
  simp only [serpentine_motion, dist_eq (a := p.2.1) (b := q.2.1) (by omega) (by omega), dist_eq (a := p.1) (b := q.1) (by omega) (by omega), Option.bind_some, decide_eq_true_eq]
  rw [w64 (x := S * _) (by omega) (by omega), w64 (x := J * _) (by omega) (by omega), w64 (x := S * _ + _) (by omega) (by omega)]
  unfold mot opp
  by_cases a1 : q.2.1 > p.2.1
  · rw [if_pos a1, if_pos a1]
    simp only [Option.bind_some]
    split
    · rw [w64 (by omega) (by omega)]
    · rw [Int.add_zero]
  · rw [if_neg a1, if_neg a1]
    by_cases a2 : q.2.1 < p.2.1
    · rw [if_pos a2, if_pos a2]
      simp only [Option.bind_some]
      split
      · rw [w64 (by omega) (by omega)]
      · rw [Int.add_zero]
    · rw [if_neg a2, if_neg a2]
      simp only [Option.bind_some]
      by_cases e : p.2.2 = q.2.2
      · simp [e]
      · have : (p.2.2 != q.2.2) = true := by simpa using e
        rw [decide_eq_false e, this]
        simp only [Bool.not_false, if_true]
        rw [w64 (by omega) (by omega)]
/-- What Locate returns. -/
def loc (W L S T J R a b : Int) : Int := if a ≠ b ∧ PB W L S T J R a ∧ PB W L S T J R b then mot S T J (place W L a) (place W L b) else 0
theorem places_b {W L S T J R a b : Int} (ha : PB W L S T J R a) (hb : PB W L S T J R b) : -5000 ≤ (place W L a).2.1 - (place W L b).2.1 ∧ (place W L a).2.1 - (place W L b).2.1 ≤ 5000 ∧ -5000 ≤ (place W L a).1 - (place W L b).1 ∧ (place W L a).1 - (place W L b).1 ≤ 5000 := by
  have := place_b ha; have := place_b hb; have := ha.1.L_le
  omega
theorem locate_eq (W L S T J R a b : Int) : serpentine_Locate D (W, L, S, T, J, R) a b = some (loc W L S T J R a b) := by
  have hD := hBig.h
  unfold serpentine_Locate
  rw [within2]
  simp only [decide_eq_true_eq]
  by_cases e : a = b
  · rw [if_pos e]
    simp only [Option.bind_some, loc]
    rw [if_neg (fun h => h.1 e)]
  · rw [if_neg e]
    by_cases g : PB W L S T J R a ∧ PB W L S T J R b
    · obtain ⟨b1, b2, b3, b4⟩ := places_b g.1 g.2
      rw [decide_eq_true g]
      simp only [Option.bind_some, Bool.not_true, Bool.false_eq_true, if_false, on_eq g.1.1 g.1.2.1 g.1.2.2 (d := D) (by omega), on_eq g.2.1 g.2.2.1 g.2.2.2 (d := D) (by omega)]
      rw [motion_eq (d := D) (W := W) (L := L) (R := R) (p := place W L a) (q := place W L b) g.1.1.2.2.2.2.1 g.1.1.2.2.2.2.2.1 g.1.1.2.2.2.2.2.2.1 b1 b2 b3 b4]
      simp only [Option.bind_some, loc]
      rw [if_pos ⟨e, g⟩]
    · rw [decide_eq_false g]
      simp only [Option.bind_some, Bool.not_false, if_true, loc]
      rw [if_neg (fun h => g h.2)]
theorem ediv_is {y L q : Int} (hL : 1 ≤ L) (h1 : q * L ≤ y) (h2 : y < (q + 1) * L) : y / L = q := by
  have a := (Int.le_ediv_iff_mul_le (show 0 < L by omega)).2 h1
  have b := (Int.ediv_lt_iff_lt_mul (show 0 < L by omega)).2 h2
  omega
theorem div_step {x L : Int} (hL : 1 ≤ L) : x / L = (x - 1) / L + (if x % L = 0 then 1 else 0) := by
  have h1 := Int.mul_ediv_add_emod x L
  have h2 := Int.emod_nonneg x (show L ≠ 0 by omega)
  have h3 := Int.emod_lt_of_pos x (show 0 < L by omega)
  rw [Int.mul_comm] at h1
  generalize x / L = q at h1 ⊢
  generalize x % L = r at h1 h2 h3 ⊢
  have e1 : (q - 1) * L = q * L - L := by rw [Int.sub_mul, Int.one_mul]
  have e2 : (q + 1) * L = q * L + L := by rw [Int.add_mul, Int.one_mul]
  split
  · rename_i h
    rw [ediv_is (y := x - 1) (q := q - 1) hL (by omega) (by rw [show q - 1 + 1 = q by omega]; omega)]
    omega
  · rw [ediv_is (y := x - 1) (q := q) hL (by omega) (by omega)]
    omega
theorem div_mono {a b L : Int} (hL : 1 ≤ L) (h : a ≤ b) : a / L ≤ b / L := Int.ediv_le_ediv (by omega) h

/-- What Read returns. -/
def rdt (W L S T J R a n : Int) : Int := if PB W L S T J R a ∧ 1 ≤ n ∧ n ≤ W * L - a then R * n + (J + T) * ((a + n - 1) / L - a / L) else 0
theorem rdt_parts {W L S T J R a n : Int} (h : PB W L S T J R a) (h1 : 1 ≤ n) (h2 : n ≤ W * L - a) :
    0 ≤ R * n ∧ R * n ≤ 1000000 * 4096 ∧ 0 ≤ (a + n - 1) / L - a / L ∧ (a + n - 1) / L - a / L ≤ 4096 ∧ 0 ≤ (J + T) * ((a + n - 1) / L - a / L) ∧ (J + T) * ((a + n - 1) / L - a / L) ≤ 2000000 * 4096 := by
  obtain ⟨g, h0, h3⟩ := h
  have hC := g.2.2.2.1; have hL1 := g.2.2.1
  have t1 := g.2.2.2.2.2.1; have t2 := g.2.2.2.2.2.2.1; have t3 := g.2.2.2.2.2.2.2
  unfold TmOk at t1 t2 t3
  have a1 := mul_bd (d := n) t3.1 t3.2 (by omega) (show n ≤ 4096 by omega)
  have a2 := div_mono hL1 (show a ≤ a + n - 1 by omega)
  have a3 : (a + n - 1) / L ≤ a + n - 1 := Int.ediv_le_self _ (by omega)
  have a4 : 0 ≤ a / L := Int.ediv_nonneg h0 (by omega)
  have a5 := mul_bd (S := J + T) (d := (a + n - 1) / L - a / L) (m := 2000000) (n := 4096) (by omega) (by omega) (by omega) (by omega)
  omega
theorem sread_eq (W L S T J R a n : Int) : serpentine_Read D (W, L, S, T, J, R) (a, n) = some (rdt W L S T J R a n) := by
  have hD := hBig.h
  unfold serpentine_Read
  simp only [within1, Option.bind_some, rdt, decide_eq_true_eq]
  by_cases g : PB W L S T J R a
  · have hC := g.1.2.2.2.1; have hL1 := g.1.2.2.1; have hp := g.1.C_pos; have h0 := g.2.1; have h3 := g.2.2; have hLL := g.1.L_le
    rw [decide_eq_true g, if_neg (by simp)]
    by_cases c : n < 1
    · rw [if_pos c, if_neg (by omega)]; rfl
    · rw [if_neg c, w64 (x := W * L) (by omega) (by omega), w64 (x := W * L - a) (by omega) (by omega)]
      by_cases d : n > W * L - a
      · rw [if_pos d, if_neg (by omega)]; rfl
      · obtain ⟨p1, p2, p3, p4, p5, p6⟩ := rdt_parts g (n := n) (by omega) (by omega)
        have t1 := g.1.2.2.2.2.2.1; have t2 := g.1.2.2.2.2.2.2.1
        unfold TmOk at t1 t2
        have a3 : (a + n - 1) / L ≤ a + n - 1 := Int.ediv_le_self _ (by omega)
        have a4 : 0 ≤ a / L := Int.ediv_nonneg h0 (by omega)
        rw [if_neg d, if_pos ⟨g, by omega, by omega⟩]
        simp only [Option.bind_some]
        rw [if_neg (by omega), if_neg (by omega), w64 (x := R * n) (by omega) (by omega), w64 (x := J + T) (by omega) (by omega), w64 (x := a + n) (by omega) (by omega), w64 (x := a + n - 1) (by omega) (by omega), tdiv_nn (by omega), tdiv_nn h0, w64 (x := (a + n - 1) / L) (by omega) (by omega), w64 (x := a / L) (by omega) (by omega), w64 (x := _ / L - _) (by omega) (by omega), w64 (x := (J + T) * _) (by omega) (by omega), w64 (by omega) (by omega)]
  · rw [decide_eq_false g, if_pos (by simp), if_neg (fun h => g h.1)]; rfl
/-- The time of the first i blocks of a span. -/
def acc (L T J R a i : Int) : Int := if i = 0 then 0 else R * i + (J + T) * ((a + i - 1) / L - a / L)
theorem acc_step {L T J R a i : Int} (hL : 1 ≤ L) (h0 : 0 ≤ i) : acc L T J R a (i + 1) = acc L T J R a i + R + (if 0 < i ∧ (a + i) % L = 0 then J + T else 0) := by
  unfold acc
  rw [if_neg (by omega), show a + (i + 1) - 1 = a + i by omega, Int.mul_add R]
  have h := div_step (x := a + i) hL
  by_cases e : i = 0
  · subst e
    simp
  · rw [if_neg e, h]
    by_cases f : (a + i) % L = 0
    · rw [if_pos f, if_pos ⟨by omega, f⟩, show (a + i - 1) / L + 1 - a / L = ((a + i - 1) / L - a / L) + 1 by omega, Int.mul_add (J + T)]
      omega
    · rw [if_neg f, if_neg (fun h => f h.2), show (a + i - 1) / L + 0 - a / L = (a + i - 1) / L - a / L by omega]
      omega
theorem acc_b {W L S T J R a i : Int} (h : PB W L S T J R a) (h1 : 0 ≤ i) (h2 : i ≤ W * L - a) : 0 ≤ acc L T J R a i ∧ acc L T J R a i ≤ 20000000000 := by
  unfold acc
  split
  · omega
  · have := rdt_parts h (n := i) (by omega) (by omega)
    omega
/-- What Passes returns. -/
def pss (W L S T J R a b : Int) : Int := if PB W L S T J R a ∧ PB W L S T J R b then (iabs ((place W L a).2.1 - (place W L b).2.1) * 1000 + L - 1) / L else 0
theorem passes_eq (W L S T J R a b : Int) : serpentine_Passes D (W, L, S, T, J, R) a b = some (pss W L S T J R a b) := by
  have hD := hBig.h
  unfold serpentine_Passes
  rw [within2]
  simp only [decide_eq_true_eq]
  by_cases g : PB W L S T J R a ∧ PB W L S T J R b
  · obtain ⟨b1, b2, b3, b4⟩ := places_b g.1 g.2
    have hL1 := g.1.1.2.2.1; have hLL := g.1.1.L_le
    have i0 := iabs_nn ((place W L a).2.1 - (place W L b).2.1); have i1 := iabs_le b1 b2
    have q0 : (iabs ((place W L a).2.1 - (place W L b).2.1) * 1000 + L - 1) / L ≤ _ := Int.ediv_le_self _ (by omega)
    have q1 : 0 ≤ (iabs ((place W L a).2.1 - (place W L b).2.1) * 1000 + L - 1) / L := Int.ediv_nonneg (by omega) (by omega)
    rw [decide_eq_true g]
    simp only [Option.bind_some, Bool.not_true, Bool.false_eq_true, if_false, on_eq g.1.1 g.1.2.1 g.1.2.2 (d := D) (by omega), on_eq g.2.1 g.2.2.1 g.2.2.2 (d := D) (by omega), dist_eq (d := D) (a := (place W L a).2.1) (b := (place W L b).2.1) (by omega) (by omega), pss]
    rw [if_neg (by omega), if_pos g, w64 (x := _ * 1000) (by omega) (by omega), w64 (x := _ * 1000 + L) (by omega) (by omega), w64 (x := _ * 1000 + L - 1) (by omega) (by omega), tdiv_nn (by omega), w64 (by omega) (by omega)]
  · rw [decide_eq_false g]
    simp only [Option.bind_some, Bool.not_false, if_true, pss]
    rw [if_neg g]
end Go.Proofs.Ytlkjklacanedoaa.Den.G11
