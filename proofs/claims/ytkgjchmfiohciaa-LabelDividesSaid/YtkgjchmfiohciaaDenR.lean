/- How plain data stands in memory. -/
import Derived.Test.YtkgjchmfiohciaaDenA
import Derived.WalkKit
namespace Go.Proofs.Ytkgjchmfiohciaa.Den
set_option linter.unusedVariables false
set_option linter.unusedSimpArgs false
/-- Things in line, each in some values. -/
def RL {α : Type} (f : α → List Value → Prop) : List α → List Value → Prop
  | [], l => l = []
  | x :: xs, l => ∃ c l', l = c ++ l' ∧ f x c ∧ RL f xs l'
/-- Values stand in line in a block. -/
def At (w : World) (b off : Nat) (vals : List Value) : Prop := ∀ j u, vals[j]? = some u → w.cell? ⟨b, off + j, none⟩ = some u
def RC (w : World) (rd : Nat → Prop) : (k : K) → T k → List Value → Prop
  | .int k, n, cs => cs = [.int k n]
  | .bool, b, cs => cs = [.bool b]
  | .str, s, cs => cs = [.string s]
  | .slice k, xs, cs => ∃ A cap vals, cs = [.slice A (List.length xs) cap] ∧ List.length xs ≤ cap ∧ RL (RC w rd k) xs vals ∧ (vals ≠ [] → ∃ b off, A = some ⟨b, off, none⟩ ∧ rd b ∧ At w b off vals)
  | .pair a b, x, cs => ∃ c d, cs = c ++ d ∧ RC w rd a x.1 c ∧ RC w rd b x.2 d
  | .one k, x, cs => RC w rd k x cs
  | .unit, _, cs => cs = []
  | .arr n k, xs, cs => List.length xs = n ∧ RL (RC w rd k) xs cs
theorem RL_len {α : Type} {f : α → List Value → Prop} {m : Nat} (h : ∀ x c, f x c → c.length = m) : ∀ {xs : List α} {l}, RL f xs l → l.length = xs.length * m
  | [], l, hl => by simp only [RL] at hl; subst hl; simp
  | x :: xs, l, hl => by
    obtain ⟨c, l', rfl, h1, h2⟩ := hl
    rw [List.length_append, h x c h1, RL_len h h2, List.length_cons, Nat.add_mul, Nat.one_mul, Nat.add_comm]
theorem RL_imp {α : Type} {f g : α → List Value → Prop} (h : ∀ x c, f x c → g x c) : ∀ {xs : List α} {l}, RL f xs l → RL g xs l
  | [], l, hl => hl
  | x :: xs, l, hl => by
    obtain ⟨c, l', rfl, h1, h2⟩ := hl
    exact ⟨c, l', rfl, h x c h1, RL_imp h h2⟩
theorem RC_len {w : World} {rd : Nat → Prop} : ∀ {k : K} {x : T k} {cs}, RC w rd k x cs → cs.length = k.cells
  | .int k, n, cs, h => by simp only [RC] at h; subst h; rfl
  | .bool, n, cs, h => by simp only [RC] at h; subst h; rfl
  | .str, n, cs, h => by simp only [RC] at h; subst h; rfl
  | .slice k, n, cs, h => by obtain ⟨_, _, _, rfl, _⟩ := h; rfl
  | .pair a b, n, cs, h => by
    obtain ⟨c, d, rfl, h1, h2⟩ := h
    rw [List.length_append, RC_len h1, RC_len h2]; rfl
  | .one k, n, cs, h => RC_len (k := k) h
  | .unit, n, cs, h => by simp only [RC] at h; subst h; rfl
  | .arr n k, xs, cs, h => by
    obtain ⟨h1, h2⟩ := h
    rw [RL_len (fun x c hx => RC_len hx) h2, h1]; rfl
theorem RC_mono {w w' : World} {rd rd' : Nat → Prop} (hm : ∀ b, rd b → rd' b ∧ w'.heap[b]? = w.heap[b]?) : ∀ {k : K} {x : T k} {cs}, RC w rd k x cs → RC w' rd' k x cs
  | .int k, n, cs, h => h
  | .bool, n, cs, h => h
  | .str, n, cs, h => h
  | .slice k, n, cs, h => by
    obtain ⟨A, cap, vals, rfl, hc, hl, ha⟩ := h
    refine ⟨A, cap, vals, rfl, hc, RL_imp (fun x c hx => RC_mono hm hx) hl, fun hv => ?_⟩
    obtain ⟨b, off, rfl, hb, hat⟩ := ha hv
    refine ⟨b, off, rfl, (hm b hb).1, fun j u hu => ?_⟩
    have := hat j u hu
    rwa [World.cell?_of_block (w := w) (w' := w') (a := ⟨b, off + j, none⟩) (hm b hb).2]
  | .pair a b, n, cs, h => by
    obtain ⟨c, d, rfl, h1, h2⟩ := h
    exact ⟨c, d, rfl, RC_mono hm h1, RC_mono hm h2⟩
  | .one k, n, cs, h => RC_mono (k := k) hm h
  | .unit, n, cs, h => h
  | .arr n k, xs, cs, h => ⟨h.1, RL_imp (fun x c hx => RC_mono hm hx) h.2⟩
theorem RL_one {α : Type} {f : α → List Value → Prop} (h : ∀ x c, f x c → ∀ u ∈ c, u.oneCell' = true) : ∀ {xs : List α} {l}, RL f xs l → ∀ u ∈ l, u.oneCell' = true
  | [], l, hl => by simp only [RL] at hl; subst hl; simp
  | x :: xs, l, hl => by
    obtain ⟨c, l', rfl, h1, h2⟩ := hl
    intro u hu
    rcases List.mem_append.1 hu with hu | hu
    · exact h x c h1 u hu
    · exact RL_one h h2 u hu
theorem RC_one {w : World} {rd : Nat → Prop} : ∀ {k : K} {x : T k} {cs}, RC w rd k x cs → ∀ u ∈ cs, u.oneCell' = true
  | .int k, n, cs, h => by simp only [RC] at h; subst h; simp [Value.oneCell']
  | .bool, n, cs, h => by simp only [RC] at h; subst h; simp [Value.oneCell']
  | .str, n, cs, h => by simp only [RC] at h; subst h; simp [Value.oneCell']
  | .slice k, n, cs, h => by obtain ⟨_, _, _, rfl, _⟩ := h; simp [Value.oneCell']
  | .pair a b, n, cs, h => by
    obtain ⟨c, d, rfl, h1, h2⟩ := h
    intro u hu
    rcases List.mem_append.1 hu with hu | hu
    · exact RC_one h1 u hu
    · exact RC_one h2 u hu
  | .one k, n, cs, h => RC_one (k := k) h
  | .unit, n, cs, h => by simp only [RC] at h; subst h; simp
  | .arr n k, xs, cs, h => RL_one (fun x c hx => RC_one hx) h.2
/-- The value of a kind: a struct or array is an aggregate, the rest one cell. -/
def VR (w : World) (rd : Nat → Prop) (k : K) (x : T k) (v : Value) : Prop :=
  if k.agg then ∃ c, v = .agg c ∧ RC w rd k x c.toList else RC w rd k x [v]
theorem cells_one {k : K} (h : k.agg = false) : k.cells = 1 := by cases k <;> simp_all [K.agg, K.cells]
theorem VR_cells {w : World} {rd : Nat → Prop} {k : K} {x : T k} {v : Value} (h : VR w rd k x v) : RC w rd k x v.cells.toList ∧ (k.agg = true → ∃ c, v = .agg c) ∧ (k.agg = false → v.cells = #[v]) := by
  unfold VR at h
  split at h
  · rename_i hk
    obtain ⟨c, rfl, h⟩ := h
    exact ⟨h, fun _ => ⟨c, rfl⟩, fun h' => by simp_all⟩
  · rename_i hk
    have h1 : v.cells = #[v] := by
      have := RC_one h v (by simp)
      cases v <;> simp_all [Value.cells, Value.oneCell']
    rw [h1]
    exact ⟨h, fun h' => absurd h' hk, fun _ => rfl⟩
theorem VR_of {w : World} {rd : Nat → Prop} {k : K} {x : T k} {cs : List Value} (h : RC w rd k x cs) : VR w rd k x (if k.agg then .agg cs.toArray else cs.headD undef) := by
  unfold VR
  split
  · exact ⟨_, rfl, by simpa using h⟩
  · rename_i hk
    have hl := RC_len h
    rw [cells_one (by simpa using hk)] at hl
    obtain ⟨v, rfl⟩ := List.length_eq_one_iff.1 hl
    simpa using h
theorem VR_mono {w w' : World} {rd rd' : Nat → Prop} (hm : ∀ b, rd b → rd' b ∧ w'.heap[b]? = w.heap[b]?) {k : K} {x : T k} {v : Value} (h : VR w rd k x v) : VR w' rd' k x v := by
  unfold VR at *
  split at h
  · rename_i hk
    obtain ⟨c, rfl, h⟩ := h
    exact by rw [if_pos hk]; exact ⟨c, rfl, RC_mono hm h⟩
  · rename_i hk
    rw [if_neg hk]
    exact RC_mono hm h
/-! Parts. -/
theorem At_app {w : World} {b off : Nat} {c d : List Value} (h : At w b off (c ++ d)) : At w b off c ∧ At w b (off + c.length) d := by
  refine ⟨fun j u hu => h j u ?_, fun j u hu => ?_⟩
  · rw [List.getElem?_append_left (by have := (List.getElem?_eq_some_iff.1 hu).1; omega)]; exact hu
  · have := h (c.length + j) u (by rw [List.getElem?_append_right (by omega)]; simpa using hu)
    rwa [← Nat.add_assoc] at this
theorem RL_get {α : Type} {f : α → List Value → Prop} {m : Nat} (hm : ∀ x c, f x c → c.length = m) : ∀ {xs : List α} {l}, RL f xs l → ∀ (i : Nat) (z : α), i < xs.length →
    ∃ p c q, l = p ++ c ++ q ∧ p.length = i * m ∧ f (xs.getD i z) c
  | [], l, hl, i, z, hi => by simp at hi
  | x :: xs, l, hl, 0, z, hi => by
    obtain ⟨c, l', rfl, h1, h2⟩ := hl
    exact ⟨[], c, l', by simp, by simp, by simpa using h1⟩
  | x :: xs, l, hl, i + 1, z, hi => by
    obtain ⟨c, l', rfl, h1, h2⟩ := hl
    obtain ⟨p, d, q, rfl, hp, hf⟩ := RL_get hm h2 i z (by simpa using hi)
    exact ⟨c ++ p, d, q, by simp, by rw [List.length_append, hm x c h1, hp, Nat.add_mul]; omega, by simpa using hf⟩
theorem RL_set {α : Type} {f : α → List Value → Prop} {m : Nat} (hm : ∀ x c, f x c → c.length = m) : ∀ {xs : List α} {l p c q : List Value} {i : Nat} {y : α} {c' : List Value}, RL f xs l → l = p ++ c ++ q → p.length = i * m → i < xs.length → c.length = m → f y c' → RL f (xs.set i y) (p ++ c' ++ q)
  | [], l, p, c, q, i, y, c', hl, he, hp, hi, hc, hf => by simp at hi
  | x :: xs, l, p, c, q, 0, y, c', hl, he, hp, hi, hc, hf => by
    obtain ⟨d, l', rfl, h1, h2⟩ := hl
    have hp0 : p = [] := List.eq_nil_of_length_eq_zero (by simpa using hp)
    subst hp0
    simp only [List.nil_append] at he
    obtain ⟨rfl, rfl⟩ := List.append_inj he (by rw [hm x d h1, hc])
    exact ⟨c', l', by simp, hf, h2⟩
  | x :: xs, l, p, c, q, i + 1, y, c', hl, he, hp, hi, hc, hf => by
    obtain ⟨d, l', rfl, h1, h2⟩ := hl
    have hd := hm x d h1
    have hpl : p.length = m + i * m := by rw [hp, Nat.add_mul]; omega
    obtain ⟨p1, p2, rfl, hp1⟩ : ∃ p1 p2, p = p1 ++ p2 ∧ p1.length = m := ⟨p.take m, p.drop m, by simp, by rw [List.length_take]; omega⟩
    rw [List.append_assoc, List.append_assoc] at he
    obtain ⟨rfl, rfl⟩ := List.append_inj he (by rw [hd, hp1])
    refine ⟨d, p2 ++ c' ++ q, by simp, h1, RL_set hm h2 (by simp) ?_ (by simpa using hi) hc hf⟩
    rw [List.length_append] at hpl; omega
theorem RL_append {α : Type} {f : α → List Value → Prop} : ∀ {xs ys : List α} {l m}, RL f xs l → RL f ys m → RL f (xs ++ ys) (l ++ m)
  | [], ys, l, m, h1, h2 => by simp only [RL] at h1; subst h1; simpa using h2
  | x :: xs, ys, l, m, h1, h2 => by
    obtain ⟨c, l', rfl, h1, h3⟩ := h1
    exact ⟨c, l' ++ m, by simp, h1, RL_append h3 h2⟩
theorem RL_take {α : Type} {f : α → List Value → Prop} {m : Nat} (hm : ∀ x c, f x c → c.length = m) : ∀ {xs : List α} {l} (n : Nat), RL f xs l → RL f (xs.take n) (l.take (n * m))
  | [], l, n, hl => by simp only [RL] at hl; subst hl; simp [RL]
  | x :: xs, l, 0, hl => by simp [RL]
  | x :: xs, l, n + 1, hl => by
    obtain ⟨c, l', rfl, h1, h2⟩ := hl
    have hc := hm x c h1
    refine ⟨c, l'.take (n * m), ?_, h1, RL_take hm n h2⟩
    rw [List.take_append, hc, List.take_of_length_le (by rw [hc, Nat.add_mul]; omega)]
    congr 2
    rw [Nat.add_mul]; omega
theorem RL_drop {α : Type} {f : α → List Value → Prop} {m : Nat} (hm : ∀ x c, f x c → c.length = m) : ∀ {xs : List α} {l} (n : Nat), RL f xs l → RL f (xs.drop n) (l.drop (n * m))
  | [], l, n, hl => by simp only [RL] at hl; subst hl; simp [RL]
  | x :: xs, l, 0, hl => by simpa using hl
  | x :: xs, l, n + 1, hl => by
    obtain ⟨c, l', rfl, h1, h2⟩ := hl
    have hc := hm x c h1
    have h3 : (c ++ l').drop ((n + 1) * m) = l'.drop (n * m) := by
      rw [List.drop_append, List.drop_of_length_le (l := c) (by rw [hc, Nat.add_mul]; omega), hc, List.nil_append]
      congr 1
      rw [Nat.add_mul]; omega
    rw [h3]
    exact RL_drop hm n h2
theorem RL_replicate {α : Type} {f : α → List Value → Prop} {x : α} {c : List Value} (h : f x c) : ∀ n, RL f (List.replicate n x) (List.replicate n c).flatten
  | 0 => by simp [RL]
  | n + 1 => ⟨c, (List.replicate n c).flatten, by simp [List.replicate_succ], h, RL_replicate h n⟩
theorem RC_proj {w : World} {rd : Nat → Prop} : ∀ (k : K) (x : T k) (off : Nat) (kf : K) (u : T kf) (cs : List Value), RC w rd k x cs → proj k x off kf = some u →
    ∃ p c q, cs = p ++ c ++ q ∧ p.length = off ∧ RC w rd kf u c := by
  intro k
  induction k with
  | pair a b iha ihb =>
    intro x off kf u cs h hp
    unfold proj at hp
    split at hp
    · rename_i he
      obtain ⟨rfl, rfl⟩ := he
      have hp := Option.some.inj hp
      subst hp
      exact ⟨[], cs, [], by simp, rfl, h⟩
    · obtain ⟨c, d, rfl, h1, h2⟩ := h
      simp only at hp
      split at hp
      · obtain ⟨p, e, q, rfl, hl, hr⟩ := iha _ _ _ _ _ h1 hp
        exact ⟨p, e, q ++ d, by simp, hl, hr⟩
      · rename_i hlt
        obtain ⟨p, e, q, rfl, hl, hr⟩ := ihb _ _ _ _ _ h2 hp
        exact ⟨c ++ p, e, q, by simp, by rw [List.length_append, RC_len h1, hl]; omega, hr⟩
  | one k ih =>
    intro x off kf u cs h hp
    unfold proj at hp
    split at hp
    · rename_i he
      obtain ⟨rfl, rfl⟩ := he
      have hp := Option.some.inj hp
      subst hp
      exact ⟨[], cs, [], by simp, rfl, h⟩
    · exact ih _ _ _ _ _ h hp
  | _ =>
    intro x off kf u cs h hp
    unfold proj at hp
    split at hp
    · rename_i he
      obtain ⟨rfl, rfl⟩ := he
      have hp := Option.some.inj hp
      subst hp
      exact ⟨[], cs, [], by simp, rfl, h⟩
    · simp at hp
theorem RC_setProj {w : World} {rd : Nat → Prop} : ∀ (k : K) (x : T k) (off : Nat) (kf : K) (u : T kf) (y : T k) (cs : List Value) (c' : List Value), RC w rd k x cs → setProj k x off kf u = some y → RC w rd kf u c' →
    ∃ p c q, cs = p ++ c ++ q ∧ p.length = off ∧ c.length = c'.length ∧ RC w rd k y (p ++ c' ++ q) := by
  intro k
  induction k with
  | pair a b iha ihb =>
    intro x off kf u y cs c' h hp hu
    unfold setProj at hp
    split at hp
    · rename_i he
      obtain ⟨rfl, rfl⟩ := he
      have hp := Option.some.inj hp
      subst hp
      exact ⟨[], cs, [], by simp, rfl, by rw [RC_len h, RC_len hu], by simp only [List.nil_append, List.append_nil]; exact hu⟩
    · obtain ⟨c, d, rfl, h1, h2⟩ := h
      simp only at hp
      split at hp
      · obtain ⟨z, hz, rfl⟩ := Option.map_eq_some_iff.1 hp
        obtain ⟨p, e, q, rfl, hl, hel, hr⟩ := iha _ _ _ _ _ _ _ h1 hz hu
        exact ⟨p, e, q ++ d, by simp, hl, hel, _, d, by simp, hr, h2⟩
      · obtain ⟨z, hz, rfl⟩ := Option.map_eq_some_iff.1 hp
        obtain ⟨p, e, q, rfl, hl, hel, hr⟩ := ihb _ _ _ _ _ _ _ h2 hz hu
        exact ⟨c ++ p, e, q, by simp, by rw [List.length_append, RC_len h1, hl]; omega, hel, c, _, by simp, h1, hr⟩
  | one k ih =>
    intro x off kf u y cs c' h hp hu
    unfold setProj at hp
    split at hp
    · rename_i he
      obtain ⟨rfl, rfl⟩ := he
      have hp := Option.some.inj hp
      subst hp
      exact ⟨[], cs, [], by simp, rfl, by rw [RC_len h, RC_len hu], by simp only [List.nil_append, List.append_nil]; exact hu⟩
    · exact ih _ _ _ _ _ _ _ h hp hu
  | _ =>
    intro x off kf u y cs c' h hp hu
    unfold setProj at hp
    split at hp
    · rename_i he
      obtain ⟨rfl, rfl⟩ := he
      have hp := Option.some.inj hp
      subst hp
      exact ⟨[], cs, [], by simp, rfl, by rw [RC_len h, RC_len hu], by simp only [List.nil_append, List.append_nil]; exact hu⟩
    · simp at hp
end Go.Proofs.Ytkgjchmfiohciaa.Den
