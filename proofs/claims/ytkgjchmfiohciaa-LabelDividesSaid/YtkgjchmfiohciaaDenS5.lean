/- Operations that leave memory as it is: each of them. -/
import Derived.Test.YtkgjchmfiohciaaDenS4
namespace Go.Proofs.Ytkgjchmfiohciaa.Den
open Go.RowKit
set_option linter.unusedVariables false
set_option linter.unusedSimpArgs false
variable {P : Program} {τ : Nat → Option Ty} {C : Cx}
theorem castT_rfl {k : K} (x : T k) : K.castT (rfl : k = k) x = x := rfl
theorem asK_pure {E : RE} {k : K} (ha : k.agg = false) {v : AV} {x : T k} {u : Value} (h : asK noRows k v = some x) (hv : rel E v u) : RC E.w E.rd k x [u] := by
  have gen : ∀ (k : K) (x : T k), k.agg = false → asP k v = some x → RC E.w E.rd k x [u] := by
    intro k x ha h
    unfold asP at h
    split at h
    · split at h
      · rename_i e
        subst e
        simp only [castT_rfl, Option.some.injEq] at h
        subst h
        have hv : VR E.w E.rd _ _ u := hv
        unfold VR at hv
        rwa [if_neg (by simp [ha])] at hv
      · cases h
    · cases h
  cases k with
  | slice k => exact rdSl_pure h hv
  | int i => exact gen _ x ha h
  | bool => exact gen _ x ha h
  | str => exact gen _ x ha h
  | _ => simp [K.agg] at ha
theorem unflatN_ok {E : RE} {α : Type} {f : List AV → Option (α × List AV)} {R : α → List Value → Prop}
    (hf : ∀ l x l' vals, f l = some (x, l') → rels E l vals → ∃ c d, vals = c ++ d ∧ R x c ∧ rels E l' d) :
    ∀ (n : Nat) (l l' : List AV) (xs : List α) (vals : List Value), unflatN f n l = some (xs, l') → rels E l vals → ∃ c d, vals = c ++ d ∧ xs.length = n ∧ RL R xs c ∧ rels E l' d
  | 0, l, l', xs, vals, h, hv => by
    simp only [unflatN, Option.some.injEq, Prod.mk.injEq] at h
    obtain ⟨rfl, rfl⟩ := h
    exact ⟨[], vals, by simp, rfl, rfl, hv⟩
  | n + 1, l, l', xs, vals, h, hv => by
    simp only [unflatN] at h
    split at h
    · rename_i a l1 ha
      split at h
      · rename_i bs l2 hb
        simp only [Option.some.injEq, Prod.mk.injEq] at h
        obtain ⟨rfl, rfl⟩ := h
        obtain ⟨c, d, rfl, h1, h2⟩ := hf l a l1 vals ha hv
        obtain ⟨c', d', rfl, h3, h4, h5⟩ := unflatN_ok hf n l1 _ _ d hb h2
        exact ⟨c ++ c', d', by simp, by simp [h3], ⟨c, c', rfl, h1, h4⟩, h5⟩
      · cases h
    · cases h
theorem unflat_ok {E : RE} : ∀ (k : K) (l l' : List AV) (x : T k) (vals : List Value), unflat noRows k l = some (x, l') → rels E l vals → ∃ c d, vals = c ++ d ∧ RC E.w E.rd k x c ∧ rels E l' d := by
  intro k
  have leaf : ∀ (k : K), k.agg = false → ∀ (v : AV) (l : List AV) (x : T k) (vals : List Value), asK noRows k v = some x → rels E (v :: l) vals → ∃ c d, vals = c ++ d ∧ RC E.w E.rd k x c ∧ rels E l d := by
    intro k ha v l x vals hy hv
    obtain ⟨u, r, rfl, h1, h2⟩ := hv
    exact ⟨[u], r, rfl, asK_pure ha hy h1, h2⟩
  induction k with
  | pair a b iha ihb =>
    intro l l' x vals h hv
    simp only [unflat] at h
    split at h
    · rename_i x1 l1 h1
      split at h
      · rename_i y l2 h2
        simp only [Option.some.injEq, Prod.mk.injEq] at h
        obtain ⟨rfl, rfl⟩ := h
        obtain ⟨c, d, rfl, h3, h4⟩ := iha l l1 x1 vals h1 hv
        obtain ⟨c', d', rfl, h5, h6⟩ := ihb l1 _ _ d h2 h4
        exact ⟨c ++ c', d', by simp, ⟨c, c', rfl, h3, h5⟩, h6⟩
      · cases h
    · cases h
  | one k ih => exact fun l l' x vals h hv => ih l l' x vals h hv
  | unit =>
    intro l l' x vals h hv
    simp only [unflat, Option.some.injEq, Prod.mk.injEq] at h
    obtain ⟨_, rfl⟩ := h
    exact ⟨[], vals, by simp, rfl, hv⟩
  | arr n k ih =>
    intro l l' x vals h hv
    obtain ⟨c, d, e, h1, h2, h3⟩ := unflatN_ok (R := RC E.w E.rd k) (fun l x l' vals h hv => ih l l' x vals h hv) n l l' x vals h hv
    exact ⟨c, d, e, ⟨h1, h2⟩, h3⟩
  | int i =>
    intro l l' x vals h hv
    cases l with
    | nil => simp [unflat] at h
    | cons v l =>
      simp only [unflat] at h
      split at h
      · rename_i y hy
        simp only [Option.some.injEq, Prod.mk.injEq] at h
        obtain ⟨rfl, rfl⟩ := h
        exact leaf (.int i) rfl v _ y vals hy hv
      · cases h
  | bool =>
    intro l l' x vals h hv
    cases l with
    | nil => simp [unflat] at h
    | cons v l =>
      simp only [unflat] at h
      split at h
      · rename_i y hy
        simp only [Option.some.injEq, Prod.mk.injEq] at h
        obtain ⟨rfl, rfl⟩ := h
        exact leaf .bool rfl v _ y vals hy hv
      · cases h
  | str =>
    intro l l' x vals h hv
    cases l with
    | nil => simp [unflat] at h
    | cons v l =>
      simp only [unflat] at h
      split at h
      · rename_i y hy
        simp only [Option.some.injEq, Prod.mk.injEq] at h
        obtain ⟨rfl, rfl⟩ := h
        exact leaf .str rfl v _ y vals hy hv
      · cases h
  | slice i _ =>
    intro l l' x vals h hv
    cases l with
    | nil => simp [unflat] at h
    | cons v l =>
      simp only [unflat] at h
      split at h
      · rename_i y hy
        simp only [Option.some.injEq, Prod.mk.injEq] at h
        obtain ⟨rfl, rfl⟩ := h
        exact leaf (.slice i) rfl v _ y vals hy hv
      · cases h
theorem pack_ok {E : RE} {k : K} (ha : k.agg = true) {cs : List AV} {vals : List Value} (h : rels E cs vals) : rel E (pack k cs) (.agg vals.toArray) := by
  unfold pack
  split
  · exact ⟨_, rfl, by simpa using h⟩
  split
  · rename_i v hv
    obtain ⟨c, d, rfl, h1, h2⟩ := unflat_ok k _ _ v vals hv h
    simp only [rels] at h2
    subst h2
    show VR E.w E.rd k v _
    unfold VR
    rw [if_pos ha]
    exact ⟨_, rfl, by simpa using h1⟩
  · exact ⟨_, rfl, by simpa using h⟩
theorem flatN_ok {E : RE} {α : Type} {f : α → List AV} {R : α → List Value → Prop} {z : α} (hf : ∀ x c, R x c → rels E (f x) c) :
    ∀ (n i : Nat) (xs : List α) (vals : List Value), RL R (xs.drop i) vals → (xs.drop i).length = n → rels E (flatN f z xs n i) vals
  | 0, i, xs, vals, h, hl => by
    have : xs.drop i = [] := List.eq_nil_of_length_eq_zero hl
    rw [this] at h
    simp only [RL] at h
    subst h
    simp [flatN, rels]
  | n + 1, i, xs, vals, h, hl => by
    have hi : i < xs.length := by rw [List.length_drop] at hl; omega
    rw [List.drop_eq_getElem_cons hi] at h hl
    obtain ⟨c, l', rfl, h1, h2⟩ := h
    simp only [flatN]
    have : xs.getD i z = xs[i] := by simp [List.getD, hi]
    rw [this]
    exact rels_append (hf _ _ h1) (flatN_ok hf n (i + 1) xs l' h2 (Nat.succ.inj hl))
theorem flat_ok {E : RE} : ∀ (k : K) (x : T k) (vals : List Value), RC E.w E.rd k x vals → rels E (flat k x) vals
  | .int k, x, vals, h => by simp only [RC] at h; subst h; exact ⟨_, [], rfl, by simp [rel, VR, K.agg, RC], rfl⟩
  | .bool, x, vals, h => by simp only [RC] at h; subst h; exact ⟨_, [], rfl, by simp [rel, VR, K.agg, RC], rfl⟩
  | .str, x, vals, h => by simp only [RC] at h; subst h; exact ⟨_, [], rfl, by simp [rel, VR, K.agg, RC], rfl⟩
  | .slice k, x, vals, h => by
    have h' := h
    obtain ⟨A, cap, v, rfl, _⟩ := h
    exact ⟨_, [], rfl, by show VR E.w E.rd (.slice k) x _; unfold VR; rw [if_neg (by simp [K.agg])]; exact h', rfl⟩
  | .pair a b, x, vals, h => by
    obtain ⟨c, d, rfl, h1, h2⟩ := h
    exact rels_append (flat_ok a x.1 c h1) (flat_ok b x.2 d h2)
  | .one k, x, vals, h => flat_ok k x vals h
  | .unit, x, vals, h => by simp only [RC] at h; subst h; rfl
  | .arr n k, x, vals, h => flatN_ok (fun x c h => flat_ok k x c h) n 0 x vals (by simpa using h.2) (by simpa using h.1)
theorem flatZ_ok {E : RE} : ∀ (k : K), rels E (flatZ k) (zcells k)
  | .slice k => ⟨_, [], rfl, rfl, rfl⟩
  | .pair a b => rels_append (flatZ_ok a) (flatZ_ok b)
  | .one k => flatZ_ok k
  | .int k => flat_ok _ _ _ (RC_zero _ _ _)
  | .bool => flat_ok _ _ _ (RC_zero _ _ _)
  | .str => flat_ok _ _ _ (RC_zero _ _ _)
  | .unit => flat_ok .unit () _ (RC_zero E.w E.rd .unit)
  | .arr n k => flat_ok _ _ _ (RC_zero _ _ _)
theorem flat_one {E : RE} {k : K} {x : T k} {vals : List Value} (h : RC E.w E.rd k x vals) : ∀ u ∈ vals, u.oneCell' = true := RC_one h
/-- The cells of a value, and what they are in memory. -/
theorem cells_sl {v : Value} (h : isSl v) : v.cells.toList = [v] ∧ v.oneCell' = true := by cases v <;> simp_all [isSl, Value.cells, Value.oneCell']
theorem cells_ptr {v : Value} (h : isPtr v) : v.cells.toList = [v] ∧ v.oneCell' = true := by obtain ⟨b, off, rfl⟩ := h; simp [Value.cells, Value.oneCell']
theorem cellsOf_ok {E : RE} {v : AV} {u : Value} (h : rel E v u) (hk : 0 < (cellsOf v).length) : rels E (cellsOf v) u.cells.toList := by
  cases v with
  | p k x => exact flat_ok k x _ (VR_cells h).1
  | agg cs => obtain ⟨c, rfl, h⟩ := h; exact h
  | u => simp [cellsOf] at hk
  | tup vs => simp [cellsOf] at hk
  | rw id ver => simp [cellsOf] at hk
  | pc k x => obtain ⟨A, rfl, h'⟩ := h; exact ⟨_, [], rfl, ⟨A, rfl, h'⟩, rfl⟩
  | nilsl => have h' := h; simp only [rel] at h; subst h; exact ⟨_, [], rfl, h', rfl⟩
  | slw id ver fl => rw [(cells_sl h.1.sl).1]; exact ⟨_, [], rfl, h, rfl⟩
  | sl id ver off len => rw [(cells_sl h.1).1]; exact ⟨_, [], rfl, h, rfl⟩
  | sa id ver off len => rw [(cells_sl h.1).1]; exact ⟨_, [], rfl, h, rfl⟩
  | ad id ver off => rw [(cells_ptr h.1).1]; exact ⟨_, [], rfl, h, rfl⟩
  | el id ver i off => rw [(cells_ptr h.1).1]; exact ⟨_, [], rfl, h, rfl⟩
  | fe k x => obtain ⟨b, off, cs, rfl, h'⟩ := h; exact ⟨_, [], rfl, ⟨b, off, cs, rfl, h'⟩, rfl⟩
  | fn f caps => obtain ⟨c, rfl, h⟩ := h; exact ⟨_, [], rfl, ⟨c, rfl, h⟩, rfl⟩
end Go.Proofs.Ytkgjchmfiohciaa.Den
