/- What operations of layer 11 keep. -/
import Derived.Test.YtlkjklacanedoaaDenP11w
namespace Go.Proofs.Ytlkjklacanedoaa.Den.G11
open Go.Proofs.Ytlkjklacanedoaa.Den Go
set_option linter.unusedVariables false
set_option linter.unusedSectionVars false
set_option linter.unusedSimpArgs false
variable {D : Nat} [hBig : Big D]
/-- A cartridge that may be worked with. -/
def GI (D : Nat) (c : Cart) : Prop := c.2.2.2.2.1.length ≤ 4096 ∧ (∀ b ∈ c.2.2.2.2.1, b.2.2.length ≤ 1000) ∧ c.1.size < D ∧ c.1.size ≤ 9223372036854775807
theorem GI_lt {c : Cart} (h : Lt c.2.2.2.2.1) (h2 : c.1.size < D ∧ c.1.size ≤ 9223372036854775807) : GI D c := ⟨by have := h.1; omega, fun b hb => by have := h.2 b hb; omega, h2⟩
theorem GI_z : GI D zC := by
  have hD := hBig.h
  refine ⟨by simp, fun b hb => by simp at hb, ?_⟩
  have : ByteArray.empty.size = 0 := rfl
  show ByteArray.empty.size < D ∧ ByteArray.empty.size ≤ 9223372036854775807
  omega
theorem mv_GI {v : Drv} {c : Cart} {t : Int} (h : GI D c) : GI D (mv v c t).2 := h
theorem W_GI {c : Cart} {a : Int} {l : List Blk} (h : GI D c) (hl : ∀ b ∈ l, b.2.2.length ≤ 1000) (h0 : wcode c a l = 0) : GI D (W c a l).1 := by
  obtain ⟨q1, q2, q3, q4, q5, q6, q7⟩ := wcode_0 h0
  obtain ⟨hg, hc1, hc2, _⟩ := okCart_g q1
  have hW : W c a l = (withB c (if l = [] then c.2.2.2.2.1 else c.2.2.2.2.1.take a.toNat ++ l), 0) := by unfold W; rw [if_pos h0]
  rw [hW]
  refine ⟨?_, ?_, h.2.2⟩
  · show (if l = [] then c.2.2.2.2.1 else c.2.2.2.2.1.take a.toNat ++ l).length ≤ 4096
    split
    · omega
    · rw [List.length_append, List.length_take]; omega
  · show ∀ b ∈ (if l = [] then c.2.2.2.2.1 else c.2.2.2.2.1.take a.toNat ++ l), b.2.2.length ≤ 1000
    intro b hb
    split at hb
    · exact h.2.1 b hb
    · rcases List.mem_append.1 hb with hb | hb
      · exact h.2.1 b (List.mem_of_mem_take hb)
      · exact hl b hb
theorem we_0 {m : Mdl} {v : Drv} {c : Cart} {l : List Blk} (h : we m v c l = 0) : fst1 m v c = 0 ∧ worn m c = false ∧ l ≠ [] ∧ wcode c v.2.2.1 l = 0 := by
  unfold we at h
  by_cases h1 : fst1 m v c = 0
  · rw [if_pos h1] at h
    by_cases h2 : worn m c = true
    · rw [if_pos h2] at h; cases h
    · rw [if_neg h2] at h
      by_cases h3 : l = []
      · rw [if_pos h3] at h; cases h
      · rw [if_neg h3] at h
        exact ⟨h1, by simpa using h2, h3, h⟩
  · rw [if_neg h1] at h; exact absurd h h1
theorem op_GI {m : Mdl} {v : Drv} {c : Cart} {s : Stp} (h : GI D c) (hs : Lt s.2.2.2) : GI D (op m v c s).2.1 ∧ (op m v c s).2.2.1.length ≤ 4096 := by
  have hl : ∀ b ∈ s.2.2.2, b.2.2.length ≤ 1000 := hs.data
  unfold op
  split
  · refine ⟨?_, by simp⟩
    show GI D (LoadP m v c).2.1
    unfold LoadP
    split
    · exact h
    · exact GI_z
  split
  · refine ⟨?_, by simp⟩
    show GI D (UnloadP m v c).2.1
    unfold UnloadP
    split
    · exact mv_GI h
    · exact GI_z
  split
  · refine ⟨?_, by simp⟩
    show GI D (SeekP m v c s.2.2.1).2.1
    unfold SeekP
    split
    · exact mv_GI h
    · exact GI_z
  split
  · unfold ReadP
    split
    · refine ⟨mv_GI h, ?_⟩
      show (rr v c s.2.2.1).1.length ≤ 4096
      unfold rr
      obtain ⟨j, hj⟩ := rd_take (c.2.2.2.2.1.drop v.2.2.1.toNat) s.2.2.1.toNat
      rw [hj, List.length_take, List.length_drop]
      have := h.1
      omega
    · exact ⟨GI_z, by simp⟩
  split
  · refine ⟨?_, by simp⟩
    show GI D (WriteP m v c s.2.2.2).2.1
    unfold WriteP
    split
    · rename_i h0
      exact mv_GI (W_GI h hl (we_0 h0).2.2.2)
    · exact GI_z
  · exact ⟨h, by simp⟩
end Go.Proofs.Ytlkjklacanedoaa.Den.G11
