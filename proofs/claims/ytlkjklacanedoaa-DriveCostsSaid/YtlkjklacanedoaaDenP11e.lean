/- What functions of layer 11 compute: the guards, valid cartridges. -/
import Derived.Test.YtlkjklacanedoaaDenP11d
import Derived.KernelRfl
namespace Go.Proofs.Ytlkjklacanedoaa.Den.G11
open Go.Proofs.Ytlkjklacanedoaa.Den Go
set_option linter.unusedVariables false
set_option linter.unusedSectionVars false
set_option linter.unusedSimpArgs false
variable {D : Nat} [hBig : Big D]
abbrev Cart := ByteArray × (Int × Int × Int × Int × Int × Int) × Bool × Bool × List Blk × Int × Int × Int
/-- Blocks that are few and small. -/
def Lt (l : List Blk) : Prop := l.length ≤ 300 ∧ ∀ b ∈ l, b.2.2.length ≤ 200
def okCart (c : Cart) : Bool := okBar c.1 && okG c.2.1 && decide ((c.2.2.2.2.1.length : Int) ≤ c.2.1.1 * c.2.1.2.1) && okCnt c.2.2.2.2.2.1 && okCnt c.2.2.2.2.2.2.1 && okCnt c.2.2.2.2.2.2.2 && c.2.2.2.2.1.all okBlk
theorem bar_eq {s : ByteArray} (hs : s.size < D ∧ s.size ≤ 9223372036854775807) : cartridge_barcode D s = some (okBar s) := by
  have hD := hBig.h
  have hl := bytesOf_length s
  have h := barcode_l0 D s (bytesOf s) (by omega) (bytesOf s).length D 0 (by omega) (by omega) (by omega)
  unfold cartridge_barcode
  rw [h]
  simp only [Int.toNat_zero, List.drop_zero, okBar]
  by_cases o : (bytesOf s).all okC = true
  · rw [if_pos o, o]
    simp only [Option.bind_some, decide_eq_true_eq, Bool.true_and]
    split
    · congr 1; rw [decide_eq_decide]; omega
    · rw [decide_eq_false (by omega)]
  · rw [if_neg o, Bool.eq_false_iff.2 o]
    rfl
theorem rbar_eq {s : ByteArray} (hs : s.size < D ∧ s.size ≤ 9223372036854775807) : tapearchiveref10_Barcode D s = some (okBar s) := by
  have hD := hBig.h
  have h := rBarcode_l0 D s (by omega) s.size D 0 (by omega) (by omega) (by omega)
  unfold tapearchiveref10_Barcode
  rw [h]
  simp only [Int.toNat_zero, List.drop_zero, okBar]
  by_cases o : (bytesOf s).all okC = true
  · rw [if_pos o, o]
    simp only [Option.bind_some, decide_eq_true_eq, Bool.true_and]
    split
    · congr 1; rw [decide_eq_decide]; omega
    · rw [decide_eq_false (by omega)]
  · rw [if_neg o, Bool.eq_false_iff.2 o]
    rfl
theorem okG_mul {g : Int × Int × Int × Int × Int × Int} (h : okG g = true) : 1 ≤ g.1 * g.2.1 ∧ g.1 * g.2.1 ≤ 4096 := by
  simp only [okG, Bool.and_eq_true, decide_eq_true_eq] at h
  obtain ⟨⟨h1, h2, h3, h4, h5⟩, _⟩ := h
  have : 1 * 1 ≤ g.1 * g.2.1 := Int.mul_le_mul h1 h3 (by omega) (by omega)
  exact ⟨by omega, h5⟩
theorem cap_eq {g : Int × Int × Int × Int × Int × Int} : serpentine_Capacity D g = some (if okG g = true then g.1 * g.2.1 else 0) := by
  have hD := hBig.h
  unfold serpentine_Capacity
  rw [geo_eq (by omega)]
  cases h : okG g with
  | false => rfl
  | true =>
    have := okG_mul h
    simp only [Option.bind_some, Bool.not_true, Bool.false_eq_true, if_false, if_true]
    rw [w64 (by omega) (by omega)]
theorem rcap_eq {g : Int × Int × Int × Int × Int × Int} : tapearchiveref09_Capacity D g = some (if okG g = true then g.1 * g.2.1 else 0) := by
  have hD := hBig.h
  unfold tapearchiveref09_Capacity
  rw [rGeo_eq]
  cases h : okG g with
  | false => rfl
  | true =>
    have := okG_mul h
    simp only [Option.bind_some, Bool.not_true, Bool.false_eq_true, if_false, if_true]
    rw [w64 (by omega) (by omega)]
theorem any_not (l : List Blk) : (!l.any fun b => !okBlk b) = l.all okBlk := by
  induction l with
  | nil => rfl
  | cons b l ih => rw [List.any_cons, List.all_cons, ← ih]; cases okBlk b <;> simp
theorem valid_eq {c : Cart} (h1 : c.2.2.2.2.1.length ≤ 9000) (h2 : c.1.size < D ∧ c.1.size ≤ 9223372036854775807) : cartridge_Valid D c = some (okCart c) := by
  have hD := hBig.h
  unfold cartridge_Valid
  rw [bar_eq h2, geo_eq (by omega), cap_eq]
  simp only [Option.bind_some, counter_eq, anyV_eq (d := D) c.2.2.2.2.1 (by omega) (by omega), any_not, okCart, decide_eq_true_eq]
  cases okBar c.1 <;> cases hg : okG c.2.1 <;> cases okCnt c.2.2.2.2.2.1 <;> cases okCnt c.2.2.2.2.2.2.1 <;> cases okCnt c.2.2.2.2.2.2.2 <;> simp
  split
  · simp_all
  · rw [decide_eq_false (by omega)]; rfl
end Go.Proofs.Ytlkjklacanedoaa.Den.G11
