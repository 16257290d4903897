/- What functions of layer 10 compute: the guards, valid cartridges. -/
import Derived.Test.YtiaafpihoikeeaaDenP10d
import Derived.KernelRfl
namespace Go.Proofs.Ytiaafpihoikeeaa.Den.G10
open Go.Proofs.Ytiaafpihoikeeaa.Den Go
set_option linter.unusedVariables false
set_option linter.unusedSimpArgs false
theorem awake_eq : tapearchivelaw10_awake 10000 = some true := by kernel_rfl
abbrev Cart := ByteArray × (Int × Int × Int × Int × Int × Int) × Bool × Bool × List Blk × Int × Int × Int
/-- Blocks that are few and small. -/
def Lt (l : List Blk) : Prop := l.length ≤ 300 ∧ ∀ b ∈ l, b.2.2.length ≤ 200
theorem lightBlocks_l0 (d : Nat) (l : List Blk) (hy : (l.length : Int) ≤ 9223372036854775806) : ∀ (m k : Nat) (i : Int), 0 ≤ i → i + m = l.length → m < k →
    tapearchivelaw10_lightBlocks_l0 d k l i = some (if (l.drop i.toNat).all (fun b => decide (b.2.2.length ≤ 200)) = true then .inl () else .inr false) := by
  intro m
  induction m with
  | zero =>
    intro k i h0 h1 hk
    obtain ⟨k, rfl⟩ : ∃ j, k = j + 1 := ⟨k - 1, by omega⟩
    rw [List.drop_of_length_le (by omega)]
    simp only [tapearchivelaw10_lightBlocks_l0, decide_eq_true_eq]
    rw [if_neg (by omega)]
    rfl
  | succ m ih =>
    intro k i h0 h1 hk
    obtain ⟨k, rfl⟩ : ∃ j, k = j + 1 := ⟨k - 1, by omega⟩
    have ih := ih k (i + 1) (by omega) (by omega) (by omega)
    rw [drop_getD zBlock h0 (by omega), List.all_cons]
    simp only [tapearchivelaw10_lightBlocks_l0, decide_eq_true_eq]
    rw [if_pos (by omega), if_pos (by omega), w64 (by omega) (by omega), ih]
    split
    · rw [decide_eq_false (by omega)]; rfl
    · rw [decide_eq_true (by omega), Bool.true_and]
theorem lightBlocks_eq (l : List Blk) : ∃ b, tapearchivelaw10_lightBlocks 10000 l = some b ∧ (b = true → Lt l) := by
  unfold tapearchivelaw10_lightBlocks
  simp only [decide_eq_true_eq]
  split
  · exact ⟨_, rfl, fun h => by cases h⟩
  · have h := lightBlocks_l0 10000 l (by omega) l.length 10000 0 (by omega) (by omega) (by omega)
    rw [h, Int.toNat_zero, List.drop_zero]
    by_cases o : l.all (fun b => decide (b.2.2.length ≤ 200)) = true
    · rw [if_pos o]
      refine ⟨_, rfl, fun _ => ⟨by omega, fun b hb => ?_⟩⟩
      exact of_decide_eq_true (List.all_eq_true.1 o b hb)
    · rw [if_neg o]
      exact ⟨_, rfl, fun h => by cases h⟩
theorem light_eq (c : Cart) : ∃ b, tapearchivelaw10_light 10000 c = some b ∧ (b = true → Lt c.2.2.2.2.1 ∧ c.1.size ≤ 100) := by
  obtain ⟨b, hb, hl⟩ := lightBlocks_eq c.2.2.2.2.1
  unfold tapearchivelaw10_light
  rw [hb]
  cases b with
  | false => exact ⟨_, rfl, fun h => by cases h⟩
  | true =>
    refine ⟨_, rfl, fun h => ⟨hl rfl, ?_⟩⟩
    have := of_decide_eq_true h
    omega
def okCart (c : Cart) : Bool := okBar c.1 && okG c.2.1 && decide ((c.2.2.2.2.1.length : Int) ≤ c.2.1.1 * c.2.1.2.1) && okCnt c.2.2.2.2.2.1 && okCnt c.2.2.2.2.2.2.1 && okCnt c.2.2.2.2.2.2.2 && c.2.2.2.2.1.all okBlk
theorem bar_eq {s : ByteArray} (hs : s.size ≤ 9000) : cartridge_barcode 10000 s = some (okBar s) := by
  have hl := bytesOf_length s
  have h := barcode_l0 10000 s (bytesOf s) (by omega) (bytesOf s).length 10000 0 (by omega) (by omega) (by omega)
  unfold cartridge_barcode
  rw [h]
  simp only [Int.toNat_zero, List.drop_zero, okBar]
  by_cases o : (bytesOf s).all okC = true
  · rw [if_pos o, o]
    simp only [Option.bind_some, decide_eq_true_eq, Bool.true_and]
    split
    · congr 1; rw [decide_eq_decide]; omega
    · rw [decide_eq_false (by omega)]
  · rw [if_neg o, Bool.eq_false_iff.2 o]
    rfl
theorem rbar_eq {s : ByteArray} (hs : s.size ≤ 9000) : tapearchiveref10_Barcode 10000 s = some (okBar s) := by
  have h := rBarcode_l0 10000 s (by omega) s.size 10000 0 (by omega) (by omega) (by omega)
  unfold tapearchiveref10_Barcode
  rw [h]
  simp only [Int.toNat_zero, List.drop_zero, okBar]
  by_cases o : (bytesOf s).all okC = true
  · rw [if_pos o, o]
    simp only [Option.bind_some, decide_eq_true_eq, Bool.true_and]
    split
    · congr 1; rw [decide_eq_decide]; omega
    · rw [decide_eq_false (by omega)]
  · rw [if_neg o, Bool.eq_false_iff.2 o]
    rfl
theorem okG_mul {g : Int × Int × Int × Int × Int × Int} (h : okG g = true) : 1 ≤ g.1 * g.2.1 ∧ g.1 * g.2.1 ≤ 4096 := by
  simp only [okG, Bool.and_eq_true, decide_eq_true_eq] at h
  obtain ⟨⟨h1, h2, h3, h4, h5⟩, _⟩ := h
  have : 1 * 1 ≤ g.1 * g.2.1 := Int.mul_le_mul h1 h3 (by omega) (by omega)
  exact ⟨by omega, h5⟩
theorem cap_eq {g : Int × Int × Int × Int × Int × Int} : serpentine_Capacity 10000 g = some (if okG g = true then g.1 * g.2.1 else 0) := by
  unfold serpentine_Capacity
  rw [geo_eq (by omega)]
  cases h : okG g with
  | false => rfl
  | true =>
    have := okG_mul h
    simp only [Option.bind_some, Bool.not_true, Bool.false_eq_true, if_false, if_true]
    rw [w64 (by omega) (by omega)]
theorem rcap_eq {g : Int × Int × Int × Int × Int × Int} : tapearchiveref09_Capacity 10000 g = some (if okG g = true then g.1 * g.2.1 else 0) := by
  unfold tapearchiveref09_Capacity
  rw [rGeo_eq]
  cases h : okG g with
  | false => rfl
  | true =>
    have := okG_mul h
    simp only [Option.bind_some, Bool.not_true, Bool.false_eq_true, if_false, if_true]
    rw [w64 (by omega) (by omega)]
theorem any_not (l : List Blk) : (!l.any fun b => !okBlk b) = l.all okBlk := by
  induction l with
  | nil => rfl
  | cons b l ih => rw [List.any_cons, List.all_cons, ← ih]; cases okBlk b <;> simp
theorem valid_eq {c : Cart} (h1 : c.2.2.2.2.1.length ≤ 9000) (h2 : c.1.size ≤ 9000) : cartridge_Valid 10000 c = some (okCart c) := by
  unfold cartridge_Valid
  rw [bar_eq h2, geo_eq (by omega), cap_eq]
  simp only [Option.bind_some, counter_eq, anyV_eq (d := 10000) c.2.2.2.2.1 (by omega) (by omega), any_not, okCart, decide_eq_true_eq]
  cases okBar c.1 <;> cases hg : okG c.2.1 <;> cases okCnt c.2.2.2.2.2.1 <;> cases okCnt c.2.2.2.2.2.2.1 <;> cases okCnt c.2.2.2.2.2.2.2 <;> simp
  split
  · simp_all
  · rw [decide_eq_false (by omega)]; rfl
end Go.Proofs.Ytiaafpihoikeeaa.Den.G10
