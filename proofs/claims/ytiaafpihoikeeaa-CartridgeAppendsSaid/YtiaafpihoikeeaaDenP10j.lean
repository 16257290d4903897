/- What writing and erasing do to a cartridge of layer 10. -/
import Derived.Test.YtiaafpihoikeeaaDenP10i
namespace Go.Proofs.Ytiaafpihoikeeaa.Den.G10
open Go.Proofs.Ytiaafpihoikeeaa.Den Go
set_option linter.unusedVariables false
set_option linter.unusedSimpArgs false
theorem W_0 {c : Cart} {at_ : Int} {l : List Blk} (h : wcode c at_ l = 0) : W c at_ l = (withB c (if l = [] then c.2.2.2.2.1 else c.2.2.2.2.1.take at_.toNat ++ l), 0) := by
  unfold W; rw [if_pos h]
/-- What is written makes a valid cartridge. -/
theorem W_ok {c : Cart} {at_ : Int} {l : List Blk} (h : wcode c at_ l = 0) : okCart (W c at_ l).1 = true := by
  obtain ⟨q1, q2, q3, q4, q5, q6, q7⟩ := wcode_0 h
  have hul := unfit_len q2
  have hall : l.all okBlk = true := List.all_eq_true.2 (fun b hb => (hul b hb).2.2)
  rw [W_0 h]
  unfold okCart at q1 ⊢
  simp only [Bool.and_eq_true, decide_eq_true_eq] at q1
  obtain ⟨⟨⟨⟨⟨⟨p1, p2⟩, p3⟩, p4⟩, p5⟩, p6⟩, p7⟩ := q1
  simp only [withB, Bool.and_eq_true, decide_eq_true_eq]
  refine ⟨⟨⟨⟨⟨⟨p1, p2⟩, ?_⟩, p4⟩, p5⟩, p6⟩, ?_⟩
  · split
    · exact decide_eq_true p3
    · refine decide_eq_true ?_
      rw [List.length_append, List.length_take]
      have : capOfC c = c.2.1.1 * c.2.1.2.1 := rfl
      omega
  · split
    · exact p7
    · rw [List.all_append, hall, Bool.and_true]
      exact List.all_eq_true.2 (fun b hb => List.all_eq_true.1 p7 b (List.mem_of_mem_take hb))
end Go.Proofs.Ytiaafpihoikeeaa.Den.G10
