/- What functions of layer 11 compute: barcodes, geometries. -/
import Derived.Test.YtlkjklacanedoaaDenP11a
namespace Go.Proofs.Ytlkjklacanedoaa.Den.G11
open Go.Proofs.Ytlkjklacanedoaa.Den Go
set_option linter.unusedVariables false
set_option linter.unusedSectionVars false
set_option linter.unusedSimpArgs false
variable {D : Nat} [hBig : Big D]
theorem bytesOf_length (s : ByteArray) : (bytesOf s).length = s.size := by unfold bytesOf; rw [List.length_map]; exact Array.length_toList
theorem barcode_ev {s : ByteArray} (hs : s.size ≤ 9223372036854775807) : Ev (fun d => cartridge_barcode d s) (okBar s) := by
  refine ⟨s.size + 1, fun d hd => ?_⟩
  have hl := bytesOf_length s
  have h := barcode_l0 d s (bytesOf s) (by omega) (bytesOf s).length d 0 (by omega) (by omega) (by omega)
  show cartridge_barcode d s = _
  unfold cartridge_barcode
  rw [h]
  simp only [Int.toNat_zero, List.drop_zero, okBar]
  by_cases o : (bytesOf s).all okC = true
  · rw [if_pos o, o]
    simp only [Option.bind_some, decide_eq_true_eq, Bool.true_and]
    split
    · congr 1; rw [decide_eq_decide]; omega
    · rw [decide_eq_false (by omega)]
  · rw [if_neg o, Bool.eq_false_iff.2 o]
    rfl
theorem byte_getD (s : ByteArray) (i : Nat) : ((s.data.getD i 0).toNat : Int) = (bytesOf s).getD i 0 := by
  unfold bytesOf
  rw [List.getD_eq_getElem?_getD, List.getElem?_map]
  simp only [Array.getD_eq_getD_getElem?, Array.getElem?_toList]
  cases s.data[i]? <;> rfl
theorem rBarcode_l0 (d : Nat) (s : ByteArray) (hs : s.size ≤ 9223372036854775807) : ∀ (m k : Nat) (i : Int), 0 ≤ i → i + m = s.size → m < k →
    tapearchiveref10_Barcode_l0 d k s i = some (if ((bytesOf s).drop i.toNat).all okC = true then .inl s else .inr false) := by
  have hl := bytesOf_length s
  intro m
  induction m with
  | zero =>
    intro k i h0 h1 hk
    obtain ⟨k, rfl⟩ : ∃ j, k = j + 1 := ⟨k - 1, by omega⟩
    rw [List.drop_of_length_le (by omega)]
    simp only [tapearchiveref10_Barcode_l0, decide_eq_true_eq]
    rw [if_neg (by omega)]
    rfl
  | succ m ih =>
    intro k i h0 h1 hk
    obtain ⟨k, rfl⟩ : ∃ j, k = j + 1 := ⟨k - 1, by omega⟩
    have ih := ih k (i + 1) (by omega) (by omega) (by omega)
    rw [drop_getD 0 h0 (by omega), List.all_cons]
    simp only [tapearchiveref10_Barcode_l0, decide_eq_true_eq, byte_getD]
    have hb : (0 : Int) ≤ i ∧ i < (s.size : Int) := by omega
    simp only [if_pos hb]
    rw [if_pos hb.2, w64 (by omega) (by omega), ih]
    generalize (bytesOf s).getD i.toNat 0 = c
    by_cases o : okC c = true
    · have o' : 65 ≤ c ∧ c ≤ 90 ∨ 48 ≤ c ∧ c ≤ 57 := of_decide_eq_true o
      rw [o, Bool.true_and]
      repeat' split
      all_goals first | rfl | omega | simp_all
      all_goals omega
    · have o' : ¬ (65 ≤ c ∧ c ≤ 90 ∨ 48 ≤ c ∧ c ≤ 57) := fun z => o (decide_eq_true z)
      rw [Bool.eq_false_iff.2 o, Bool.false_and]
      repeat' split
      all_goals first | rfl | omega | simp_all
      all_goals omega
theorem rBarcode_ev {s : ByteArray} (hs : s.size ≤ 9223372036854775807) : Ev (fun d => tapearchiveref10_Barcode d s) (okBar s) := by
  refine ⟨s.size + 1, fun d hd => ?_⟩
  have h := rBarcode_l0 d s hs s.size d 0 (by omega) (by omega) (by omega)
  show tapearchiveref10_Barcode d s = _
  unfold tapearchiveref10_Barcode
  rw [h]
  simp only [Int.toNat_zero, List.drop_zero, okBar]
  by_cases o : (bytesOf s).all okC = true
  · rw [if_pos o, o]
    simp only [Option.bind_some, decide_eq_true_eq, Bool.true_and]
    split
    · congr 1; rw [decide_eq_decide]; omega
    · rw [decide_eq_false (by omega)]
  · rw [if_neg o, Bool.eq_false_iff.2 o]
    rfl
/-- A time. -/
def okTm (x : Int) : Bool := decide (0 ≤ x ∧ x ≤ 1000000)
theorem timed_l0 (d : Nat) (y : List Int) (hy : (y.length : Int) ≤ 9223372036854775806) : ∀ (m k : Nat) (i : Int), 0 ≤ i → i + m = y.length → m < k →
    serpentine_timed_l0 d k y y.length i = some (if (y.drop i.toNat).all okTm = true then .inl () else .inr false) := by
  intro m
  induction m with
  | zero =>
    intro k i h0 h1 hk
    obtain ⟨k, rfl⟩ : ∃ j, k = j + 1 := ⟨k - 1, by omega⟩
    rw [List.drop_of_length_le (by omega)]
    simp only [serpentine_timed_l0, decide_eq_true_eq]
    rw [if_neg (by omega)]
    rfl
  | succ m ih =>
    intro k i h0 h1 hk
    obtain ⟨k, rfl⟩ : ∃ j, k = j + 1 := ⟨k - 1, by omega⟩
    have ih := ih k (i + 1) (by omega) (by omega) (by omega)
    rw [drop_getD 0 h0 (by omega), List.all_cons]
    simp only [serpentine_timed_l0, decide_eq_true_eq]
    rw [if_pos (by omega), if_pos (by omega), w64 (by omega) (by omega), ih]
    generalize y.getD i.toNat 0 = c
    by_cases o : okTm c = true
    · have o' : 0 ≤ c ∧ c ≤ 1000000 := of_decide_eq_true o
      rw [o, Bool.true_and, if_neg (by omega), if_neg (by omega)]
    · have o' : ¬ (0 ≤ c ∧ c ≤ 1000000) := fun z => o (decide_eq_true z)
      rw [Bool.eq_false_iff.2 o, Bool.false_and]
      repeat' split
      all_goals first | rfl | omega | contradiction
/-- A geometry. -/
def okG (g : Int × Int × Int × Int × Int × Int) : Bool := decide (1 ≤ g.1 ∧ g.1 ≤ 32 ∧ 1 ≤ g.2.1 ∧ g.2.1 ≤ 4096 ∧ g.1 * g.2.1 ≤ 4096) && [g.2.2.1, g.2.2.2.1, g.2.2.2.2.1, g.2.2.2.2.2].all okTm
theorem rtime_eq (d : Nat) (x : Int) : tapearchiveref09_time d x = some (okTm x) := by
  simp only [tapearchiveref09_time, decide_eq_true_eq, okTm]
  split
  · congr 1; rw [decide_eq_decide]; omega
  · rw [decide_eq_false (by omega)]
theorem rGeo_eq (d : Nat) (g : Int × Int × Int × Int × Int × Int) : tapearchiveref09_Valid d g = some (okG g) := by
  obtain ⟨a, b, c1, c2, c3, c4⟩ := g
  simp only [tapearchiveref09_Valid, decide_eq_true_eq, rtime_eq, Option.bind_some, okG, List.all_cons, List.all_nil, Bool.and_true]
  by_cases h : 1 ≤ a ∧ a ≤ 32 ∧ 1 ≤ b ∧ b ≤ 4096
  · obtain ⟨h1, h2, h3, h4⟩ := h
    have hlo : 1 * 1 ≤ a * b := Int.mul_le_mul h1 h3 (by omega) (by omega)
    have hhi : a * b ≤ 32 * 4096 := Int.mul_le_mul h2 h4 (by omega) (by omega)
    rw [if_neg (by omega), if_neg (by omega), if_neg (by omega), if_neg (by omega), w64 (by omega) (by omega)]
    by_cases hp : a * b ≤ 4096
    · rw [if_neg (by omega), decide_eq_true (by exact ⟨h1, h2, h3, h4, hp⟩)]
      simp only [Option.bind_some, Bool.true_and]
      cases okTm c1 <;> cases okTm c2 <;> cases okTm c3 <;> simp
    · rw [if_pos (by omega), decide_eq_false (by omega)]
      rfl
  · rw [decide_eq_false (by omega), Bool.false_and]
    have : ∀ (x : Option ((Int × Int × Int × Int × Int × Int) ⊕ Bool)) (f : (Int × Int × Int × Int × Int × Int) ⊕ Bool → Option Bool), x = some (.inr false) → x.bind f = f (.inr false) := fun x f hx => by rw [hx]; rfl
    rw [this _ _ (by repeat' split
                     all_goals first | rfl | omega)]
end Go.Proofs.Ytlkjklacanedoaa.Den.G11
