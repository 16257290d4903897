/- Code. -/
import Derived.Test.YtkgjchmfiohciaaDenS20
import Derived.Scope
namespace Go.Proofs.Ytkgjchmfiohciaa.Den
open Go.RowKit
set_option linter.unusedVariables false
set_option linter.unusedSimpArgs false
variable {P : Program} {C : Cx} {outs : List RM} {e : Env outs}
/-- A frame that hands back y. -/
def FinOK (C : Cx) {outs : List RM} (e : Env outs) (y : Leafs (RM.ks outs)) (a : Act) (w : World) : Prop := ∃ ρ s, Inv C ρ s a w ∧ fin e s = some y
def LoopN (P : Program) (C : Cx) (c : Code) (i : Nat) (L : CutN) : Prop :=
  ∀ x y, L.g x = some y → ∀ ρ a w, Inv C ρ (L.i.st x) a w → (Code.block i (Code.loop c)).wp P (fun ex a' w' => match ex with | .normal => ∃ ρ', Inv C ρ' (L.o.st y) a' w' | _ => False) a w
def LoopR (P : Program) (C : Cx) {outs : List RM} (e : Env outs) (c : Code) (i : Nat) (L : Cut (Leafs (RM.ks outs))) : Prop :=
  ∀ x y, L.g x = some y → ∀ ρ a w, Inv C ρ (L.i.st x) a w → (Code.block i (Code.loop c)).wp P (fun ex a' w' => match ex, y with
    | .normal, .inl y => ∃ ρ', Inv C ρ' (L.o.st y) a' w'
    | .ret, .inr r => FinOK C e r a' w'
    | _, _ => False) a w
def LoopX (P : Program) (C : Cx) {outs : List RM} (e : Env outs) (c : Code) (i : Nat) (L : CutX (Leafs (RM.ks outs))) : Prop :=
  ∀ x y, L.g x = some y → ∀ ρ a w, Inv C ρ (L.i.st x) a w → (Code.block i (Code.loop c)).wp P (fun ex a' w' => match ex, y with
    | .normal, .inl y => ∃ ρ', Inv C ρ' (L.o.st y) a' w'
    | .exit j, .inr (.inl y) => j = L.j ∧ ∃ ρ', Inv C ρ' (L.q.st y) a' w'
    | .ret, .inr (.inr r) => FinOK C e r a' w'
    | _, _ => False) a w
/-- The loops of some code do what the tables say. -/
def Loops (P : Program) (C : Cx) {outs : List RM} (e : Env outs) : Code → Prop
  | .seq a b | .cond _ a b => Loops P C e a ∧ Loops P C e b
  | .block i (.loop c) => (∀ m, e.unroll i = some m → Loops P C e c) ∧ (∀ L, e.loopN i = some L → LoopN P C c i L) ∧ (∀ L, e.loopR i = some L → LoopR P C e c i L) ∧ (∀ L, e.loopX i = some L → LoopX P C e c i L)
  | .block _ c => Loops P C e c
  | .loop c => Loops P C e c
  | .scope c => Loops P C e c
  | _ => True
theorem wp_loop_fuel {c : Code} {Q : Exit → Act → World → Prop} (I : Nat → Act → World → Prop) (h0 : ∀ a w, ¬ I 0 a w) (round : ∀ k a w, I (k + 1) a w → c.wp P (Exit.then (fun a' w' => I k a' w') Q) a w) {k : Nat} {a : Act} {w : World} (h : I k a w) : (Code.loop c).wp P Q a w := by
  classical
  have least : ∀ a w, (∃ k, I k a w) → ∃ k, I k a w ∧ ∀ j, I j a w → k ≤ j := by
    intro a w ⟨k, hk⟩
    induction k using Nat.strongRecOn with
    | _ k ih =>
      by_cases hj : ∃ j, j < k ∧ I j a w
      · obtain ⟨j, hj1, hj2⟩ := hj
        exact ih j hj1 hj2
      · exact ⟨k, hk, fun j hj' => by
          rcases Nat.lt_or_ge j k with h | h
          · exact absurd ⟨j, h, hj'⟩ hj
          · exact h⟩
  let μ : Act → World → Nat := fun a w => if h : ∃ k, I k a w then Classical.choose (least a w h) else 0
  have hμ : ∀ a w (h : ∃ k, I k a w), I (μ a w) a w ∧ ∀ j, I j a w → μ a w ≤ j := by
    intro a w h
    have := Classical.choose_spec (least a w h)
    simp only [μ, dif_pos h]
    exact this
  refine wp_loop (fun a w => ∃ k, I k a w) μ ⟨k, h⟩ fun a w hI => ?_
  obtain ⟨h1, _⟩ := hμ a w hI
  cases hm : μ a w with
  | zero => rw [hm] at h1; exact absurd h1 (h0 a w)
  | succ m =>
    rw [hm] at h1
    refine wp_mono (round m a w h1) fun ex a' w' hq => ?_
    cases ex with
    | normal =>
      have hq : I m a' w' := hq
      refine ⟨⟨m, hq⟩, ?_⟩
      have := (hμ a' w' ⟨m, hq⟩).2 m hq
      omega
    | _ => exact hq
/-- Some code does what is told of it. -/
def CodeOK (P : Program) (C : Cx) {outs : List RM} (e : Env outs) (c : Code) : Prop :=
  Loops P C e c → ∀ {X : Type} (ex : Nat → St → Option X) (rt : Leafs (RM.ks outs) → Option X) (n : St → Option X) (s : St) (r : X),
    codeE e c ex rt n s = some r → ∀ ρ a w, Inv C ρ s a w → ∀ Q : Exit → Act → World → Prop,
    (∀ ρ' s' a' w', n s' = some r → Inv C ρ' s' a' w' → Q .normal a' w') →
    (∀ i ρ' s' a' w', ex i s' = some r → Inv C ρ' s' a' w' → Q (.exit i) a' w') →
    (∀ y a' w', rt y = some r → FinOK C e y a' w' → Q .ret a' w') → c.wp P Q a w
theorem code_ok2 (he : EnvOK P C e) (hmix : P.follows .mixedOrders = true) : ∀ (c : Code), CodeOK P C e c ∧ ∀ c', c = .loop c' → CodeOK P C e c' := by
  intro c
  induction c with
  | skip =>
    refine ⟨?_, fun c' h => by cases h⟩
    exact fun _ X ex rt n s r h ρ a w I Q hn hex hrt => wp_skip (hn ρ s a w h I)
  | ret =>
    refine ⟨?_, fun c' h => by cases h⟩
    intro _ X ex rt n s r h ρ a w I Q hn hex hrt
    simp only [codeE] at h
    obtain ⟨y, hy, hr⟩ := Option.bind_eq_some_iff.1 h
    exact wp_ret (hrt y a w hr ⟨ρ, s, I, hy⟩)
  | exit i =>
    refine ⟨?_, fun c' h => by cases h⟩
    exact fun _ X ex rt n s r h ρ a w I Q hn hex hrt => wp_exit (hex i ρ s a w h I)
  | region id ops dr =>
    refine ⟨?_, fun c' h => by cases h⟩
    intro _ X ex rt n s r h ρ a w I Q hn hex hrt
    have h' : (if dr = true then opsD e ops 0 ops.toList [] s n else opsE e ops ops.toList s n) = some r := by cases dr <;> exact h
    obtain ⟨s', h1, h2⟩ := region_ok he hmix (id := id) h'
    exact h2 ρ a w I Q fun ρ' a' w' I' => hn ρ' s' a' w' h1 I'
  | cond c x y ihx ihy =>
    refine ⟨?_, fun c' h => by cases h⟩
    intro L X ex rt n s r h ρ a w I Q hn hex hrt
    simp only [codeE] at h
    split at h
    · rename_i t ht
      have hv : rel (envOf C ρ s.h w) (.p .bool t) (a.eval c) := ht ▸ I.ev c
      rw [rel_bool] at hv
      refine wp_cond hv ?_
      cases t with
      | true => exact ihx.1 L.1 ex rt n s r (by simpa using h) ρ a w I Q hn hex hrt
      | false => exact ihy.1 L.2 ex rt n s r (by simpa using h) ρ a w I Q hn hex hrt
    · cases h
  | seq x y ihx ihy =>
    refine ⟨?_, fun c' h => by cases h⟩
    intro L X ex rt n s r h ρ a w I Q hn hex hrt
    simp only [codeE] at h
    refine wp_seq ?_
    split at h
    · rename_i σ hσ
      split at h
      · obtain ⟨y', hy', hr⟩ := Option.bind_eq_some_iff.1 h
        refine ihx.1 L.1 _ _ _ s y' hy' ρ a w I _ (fun ρ' s' a' w' h' I' => ?_) (fun i ρ' s' a' w' h' I' => ?_) (fun z a' w' h' hf => ?_)
        · obtain ⟨v, hv, rfl⟩ := Option.map_eq_some_iff.1 h'
          obtain ⟨ρ2, I2⟩ := shape_ok I' hv
          exact ihy.1 L.2 ex rt n _ r hr ρ2 a' w' I2 Q hn hex hrt
        · obtain ⟨v, hv, rfl⟩ := Option.map_eq_some_iff.1 h'
          simp only [Option.some.injEq] at hr
          subst hr
          exact hex i ρ' s' a' w' hv I'
        · obtain ⟨v, hv, rfl⟩ := Option.map_eq_some_iff.1 h'
          simp only [Option.some.injEq] at hr
          subst hr
          exact hrt z a' w' hv hf
      · obtain ⟨y', hy', hr⟩ := Option.bind_eq_some_iff.1 h
        refine ihx.1 L.1 _ _ _ s y' hy' ρ a w I _ (fun ρ' s' a' w' h' I' => ?_) (fun i ρ' s' a' w' h' I' => by cases h') (fun z a' w' h' hf => by cases h')
        obtain ⟨ρ2, I2⟩ := shape_ok I' h'
        exact ihy.1 L.2 ex rt n _ r hr ρ2 a' w' I2 Q hn hex hrt
    · refine ihx.1 L.1 ex rt _ s r h ρ a w I _ (fun ρ' s' a' w' h' I' => ?_) (fun i ρ' s' a' w' h' I' => hex i ρ' s' a' w' h' I') (fun z a' w' h' hf => hrt z a' w' h' hf)
      exact ihy.1 L.2 ex rt n _ r h' ρ' a' w' I' Q hn hex hrt
  | label l =>
    refine ⟨?_, fun c' h => by cases h⟩
    exact fun _ X ex rt n s r h ρ a w I Q hn hex hrt => wp_label (hn ρ s a w (by simpa only [codeE] using h) I)
  | scope c ih =>
    refine ⟨?_, fun c' h => by cases h⟩
    intro L X ex rt n s r h ρ a w I Q hn hex hrt
    simp only [codeE] at h
    exact wp_scope_straight (ih.1 L ex rt n s r h ρ a w I _ (fun ρ' s' a' w' h' I' => hn ρ' s' a' w' h' I') (fun j ρ' s' a' w' h' I' => hex j ρ' s' a' w' h' I') (fun z a' w' h' hf => hrt z a' w' h' hf))
  | block i c ih =>
    refine ⟨?_, fun c' h => by cases h⟩
    intro L X ex rt n s r h ρ a w I Q hn hex hrt
    by_cases hl : ∃ c', c = .loop c'
    · obtain ⟨c', rfl⟩ := hl
      simp only [codeE] at h
      split at h
      · rename_i m hm
        refine wp_block (wp_loop_fuel (P := P) (c := c') (fun k a w => ∃ s ρ, unrollE (fun back s => codeE e c' (fun j s => if j = i then n s else ex j s) rt back s) k s = some r ∧ Inv C ρ s a w) (fun a w ⟨s, ρ, h, _⟩ => by simp [unrollE] at h) ?_ (k := m) ⟨s, ρ, h, I⟩)
        intro k a w ⟨s, ρ, h, I⟩
        simp only [unrollE] at h
        have hloop : ∀ {X : Type} (ex : Nat → St → Option X) (rt : Leafs (RM.ks outs) → Option X) (n : St → Option X) (s : St) (r : X), codeE e c' ex rt n s = some r → ∀ ρ a w, Inv C ρ s a w → ∀ Q : Exit → Act → World → Prop,
            (∀ ρ' s' a' w', n s' = some r → Inv C ρ' s' a' w' → Q .normal a' w') → (∀ i ρ' s' a' w', ex i s' = some r → Inv C ρ' s' a' w' → Q (.exit i) a' w') → (∀ y a' w', rt y = some r → FinOK C e y a' w' → Q .ret a' w') → c'.wp P Q a w := ih.2 c' rfl (L.1 m hm)
        refine hloop _ rt _ s r h ρ a w I _ (fun ρ' s' a' w' h' I' => ⟨s', ρ', h', I'⟩) (fun j ρ' s' a' w' h' I' => ?_) (fun z a' w' h' hf => hrt z a' w' h' hf)
        show if j = i then Q .normal a' w' else Q (.exit j) a' w'
        split at h'
        · rename_i hj; rw [if_pos hj]; exact hn ρ' s' a' w' h' I'
        · rename_i hj; rw [if_neg hj]; exact hex j ρ' s' a' w' h' I'
      split at h
      · rename_i M hM
        obtain ⟨x, hx, h⟩ := Option.bind_eq_some_iff.1 h
        obtain ⟨y, hy, h⟩ := Option.bind_eq_some_iff.1 h
        obtain ⟨ρ2, I2⟩ := shape_ok I hx
        refine wp_mono (L.2.1 M hM x y hy ρ2 a w I2) fun en a' w' hq => ?_
        cases en <;> simp only at hq
        obtain ⟨ρ3, I3⟩ := hq
        exact hn ρ3 _ a' w' h I3
      · split at h
        · rename_i M hM
          obtain ⟨x, hx, h⟩ := Option.bind_eq_some_iff.1 h
          obtain ⟨y, hy, h⟩ := Option.bind_eq_some_iff.1 h
          obtain ⟨ρ2, I2⟩ := shape_ok I hx
          refine wp_mono (L.2.2.1 M hM x y hy ρ2 a w I2) fun en a' w' hq => ?_
          cases y with
          | inl y =>
            cases en <;> simp only at hq
            obtain ⟨ρ3, I3⟩ := hq
            exact hn ρ3 _ a' w' h I3
          | inr y =>
            cases en <;> simp only at hq
            exact hrt y a' w' h hq
        · split at h
          · rename_i M hM
            obtain ⟨x, hx, h⟩ := Option.bind_eq_some_iff.1 h
            obtain ⟨y, hy, h⟩ := Option.bind_eq_some_iff.1 h
            obtain ⟨ρ2, I2⟩ := shape_ok I hx
            refine wp_mono (L.2.2.2 M hM x y hy ρ2 a w I2) fun en a' w' hq => ?_
            match y, h, hq with
            | .inl y, h, hq =>
              cases en <;> simp only at hq
              obtain ⟨ρ3, I3⟩ := hq
              exact hn ρ3 _ a' w' h I3
            | .inr (.inl y), h, hq =>
              cases en <;> simp only at hq
              obtain ⟨rfl, ρ3, I3⟩ := hq
              exact hex _ ρ3 _ a' w' h I3
            | .inr (.inr y), h, hq =>
              cases en <;> simp only at hq
              exact hrt y a' w' h hq
          · cases h
    · have hc : codeE e (.block i c) ex rt n s = codeE e c (fun j s => if j = i then n s else ex j s) rt n s := by
        cases c <;> first | rfl | exact absurd ⟨_, rfl⟩ hl
      have hL : Loops P C e c := by
        cases c <;> first | exact L | exact absurd ⟨_, rfl⟩ hl
      rw [hc] at h
      refine wp_block (ih.1 hL _ rt n s r h ρ a w I _ (fun ρ' s' a' w' h' I' => hn ρ' s' a' w' h' I') (fun j ρ' s' a' w' h' I' => ?_) (fun z a' w' h' hf => hrt z a' w' h' hf))
      show if j = i then Q .normal a' w' else Q (.exit j) a' w'
      split at h'
      · rename_i hj; rw [if_pos hj]; exact hn ρ' s' a' w' h' I'
      · rename_i hj; rw [if_neg hj]; exact hex j ρ' s' a' w' h' I'
  | loop c ih =>
    refine ⟨?_, fun c' h => by cases h; exact ih.1⟩
    intro L X ex rt n s r h
    simp [codeE] at h
  | _ =>
    refine ⟨?_, fun c' h => by cases h⟩
    intro L X ex rt n s r h
    simp [codeE] at h
theorem code_ok (he : EnvOK P C e) (hmix : P.follows .mixedOrders = true) (c : Code) : CodeOK P C e c := (code_ok2 he hmix c).1
/-- A loop that does not hand back. -/
theorem loopN_ok {i : Nat} {c : Code} (σi σo : Shape) (g : Nat → Leafs σi.ks → Option (Leafs σo.ks)) (ev : Nat → Env outs) (he : ∀ k, EnvOK P C (ev k)) (hmix : P.follows .mixedOrders = true) (hl : ∀ k, Loops P C (ev k) c)
    (h0 : ∀ x, g 0 x = none)
    (hs : ∀ k x, codeE (ev k) c (X := Leafs σo.ks) (fun j s => if j = i then σo.of s else none) (fun _ => none) (fun s => (σi.of s).bind (g k)) (σi.st x) = g (k + 1) x) :
    ∀ k, LoopN P C c i ⟨σi, σo, g k⟩ := by
  intro k x y hy ρ a w I
  have hy : g k x = some y := hy
  refine wp_block (wp_loop_fuel (P := P) (c := c) (fun k a w => ∃ x ρ, g k x = some y ∧ Inv C ρ (σi.st x) a w) (fun a w ⟨x, ρ, h, _⟩ => by rw [h0] at h; cases h) ?_ (k := k) ⟨x, ρ, hy, I⟩)
  intro k a w ⟨x, ρ, h, I⟩
  rw [← hs] at h
  refine code_ok (he k) hmix c (hl k) _ _ _ _ y h ρ a w I _ (fun ρ' s' a' w' h' I' => ?_) (fun j ρ' s' a' w' h' I' => ?_) (fun z a' w' h' hf => by cases h')
  · obtain ⟨x', hx', h'⟩ := Option.bind_eq_some_iff.1 h'
    obtain ⟨ρ2, I2⟩ := shape_ok I' hx'
    exact ⟨x', ρ2, h', I2⟩
  · split at h'
    · rename_i hj
      obtain ⟨ρ2, I2⟩ := shape_ok I' h'
      show if j = i then _ else _
      rw [if_pos hj]
      exact ⟨ρ2, I2⟩
    · cases h'
theorem resAV_congr {e e' : Env outs} (hτ : e'.τ = e.τ) (s : St) (r : ResultVar) : resAV e' s r = resAV e s r := by
  unfold resAV
  rw [hτ]
theorem outIds_congr {e e' : Env outs} (hτ : e'.τ = e.τ) (s : St) : ∀ (ms : List RM) (rs : List ResultVar), outIds e' s ms rs = outIds e s ms rs
  | [], rs => by cases rs <;> rfl
  | .b j ty k :: ms, [] => by simp only [outIds, outIds_congr hτ s ms []]
  | .r j ty k :: ms, [] => by simp only [outIds, outIds_congr hτ s ms []]
  | .v _ :: _, [] | .c _ :: _, [] | .o _ _ _ :: _, [] => rfl
  | m :: ms, r :: rs => by cases m <;> simp only [outIds, resAV_congr hτ, outIds_congr hτ s ms rs, outIds_congr hτ s ms (r :: rs)]
theorem resE_congr {e e' : Env outs} (hτ : e'.τ = e.τ) (s : St) (O : List Nat) : ∀ (ms : List RM) (rs : List ResultVar), resE e' s O ms rs = resE e s O ms rs
  | [], [] => rfl
  | [], _ :: _ => rfl
  | .b j ty k :: ms, [] => by simp only [resE, resE_congr hτ s O ms []]
  | .r j ty k :: ms, [] => by simp only [resE, resE_congr hτ s O ms []]
  | .v _ :: _, [] | .c _ :: _, [] | .o _ _ _ :: _, [] => rfl
  | m :: ms, r :: rs => by cases m <;> simp only [resE, resAV_congr hτ, resE_congr hτ s O ms rs, resE_congr hτ s O ms (r :: rs)]
theorem lenG1_congr {e e' : Env outs} (hτ : e'.τ = e.τ) (s : St) (r : ResultVar) : lenG1 e' s r = lenG1 e s r := by
  unfold lenG1
  rw [hτ]
theorem lenG_congr {e e' : Env outs} (hτ : e'.τ = e.τ) (s : St) : ∀ (rs : List ResultVar), lenG e' s rs = lenG e s rs
  | [] => rfl
  | r :: rs => by simp only [lenG, lenG1_congr hτ, lenG_congr hτ s rs]
theorem fin_congr {e e' : Env outs} (hτ : e'.τ = e.τ) (hr : e'.res = e.res) (s : St) : fin e' s = fin e s := by
  unfold fin
  rw [hr, outIds_congr hτ, resE_congr hτ, lenG_congr hτ]
/-- A loop that may hand back. -/
theorem loopR_ok {e : Env outs} {i : Nat} {c : Code} (σi σo : Shape) (g : Nat → Leafs σi.ks → Option (Leafs σo.ks ⊕ Leafs (RM.ks outs))) (ev : Nat → Env outs) (he : ∀ k, EnvOK P C (ev k)) (hmix : P.follows .mixedOrders = true) (hl : ∀ k, Loops P C (ev k) c)
    (hτ : ∀ k, (ev k).τ = e.τ) (hr : ∀ k, (ev k).res = e.res) (h0 : ∀ x, g 0 x = none)
    (hs : ∀ k x, codeE (ev k) c (X := Leafs σo.ks ⊕ Leafs (RM.ks outs)) (fun j s => if j = i then (σo.of s).map .inl else none) (fun r => some (.inr r)) (fun s => (σi.of s).bind (g k)) (σi.st x) = g (k + 1) x) :
    ∀ k, LoopR P C e c i ⟨σi, σo, g k⟩ := by
  intro k x y hy ρ a w I
  have hy : g k x = some y := hy
  refine wp_block (wp_loop_fuel (P := P) (c := c) (fun k a w => ∃ x ρ, g k x = some y ∧ Inv C ρ (σi.st x) a w) (fun a w ⟨x, ρ, h, _⟩ => by rw [h0] at h; cases h) ?_ (k := k) ⟨x, ρ, hy, I⟩)
  intro k a w ⟨x, ρ, h, I⟩
  rw [← hs] at h
  refine code_ok (he k) hmix c (hl k) _ _ _ _ y h ρ a w I _ (fun ρ' s' a' w' h' I' => ?_) (fun j ρ' s' a' w' h' I' => ?_) (fun z a' w' h' hf => ?_)
  · obtain ⟨x', hx', h'⟩ := Option.bind_eq_some_iff.1 h'
    obtain ⟨ρ2, I2⟩ := shape_ok I' hx'
    exact ⟨x', ρ2, h', I2⟩
  · split at h'
    · rename_i hj
      obtain ⟨v, hv, rfl⟩ := Option.map_eq_some_iff.1 h'
      obtain ⟨ρ2, I2⟩ := shape_ok I' hv
      show if j = i then _ else _
      rw [if_pos hj]
      exact ⟨ρ2, I2⟩
    · cases h'
  · simp only [Option.some.injEq] at h'
    subst h'
    obtain ⟨ρ2, s2, I2, hf2⟩ := hf
    exact ⟨ρ2, s2, I2, by rw [← fin_congr (hτ k) (hr k)]; exact hf2⟩
/-- A loop out of which a way leads to an outer block. -/
theorem loopX_ok {e : Env outs} {i j0 : Nat} {c : Code} (hij : j0 ≠ i) (σi σo σq : Shape) (g : Nat → Leafs σi.ks → Option (Leafs σo.ks ⊕ (Leafs σq.ks ⊕ Leafs (RM.ks outs)))) (ev : Nat → Env outs) (he : ∀ k, EnvOK P C (ev k)) (hmix : P.follows .mixedOrders = true) (hl : ∀ k, Loops P C (ev k) c)
    (hτ : ∀ k, (ev k).τ = e.τ) (hr : ∀ k, (ev k).res = e.res) (h0 : ∀ x, g 0 x = none)
    (hs : ∀ k x, codeE (ev k) c (X := Leafs σo.ks ⊕ (Leafs σq.ks ⊕ Leafs (RM.ks outs))) (fun j s => if j = i then (σo.of s).map .inl else if j = j0 then (σq.of s).map (fun v => .inr (.inl v)) else none) (fun r => some (.inr (.inr r))) (fun s => (σi.of s).bind (g k)) (σi.st x) = g (k + 1) x) :
    ∀ k, LoopX P C e c i ⟨σi, σo, j0, σq, g k⟩ := by
  intro k x y hy ρ a w I
  have hy : g k x = some y := hy
  refine wp_block (wp_loop_fuel (P := P) (c := c) (fun k a w => ∃ x ρ, g k x = some y ∧ Inv C ρ (σi.st x) a w) (fun a w ⟨x, ρ, h, _⟩ => by rw [h0] at h; cases h) ?_ (k := k) ⟨x, ρ, hy, I⟩)
  intro k a w ⟨x, ρ, h, I⟩
  rw [← hs] at h
  refine code_ok (he k) hmix c (hl k) _ _ _ _ y h ρ a w I _ (fun ρ' s' a' w' h' I' => ?_) (fun j ρ' s' a' w' h' I' => ?_) (fun z a' w' h' hf => ?_)
  · obtain ⟨x', hx', h'⟩ := Option.bind_eq_some_iff.1 h'
    obtain ⟨ρ2, I2⟩ := shape_ok I' hx'
    exact ⟨x', ρ2, h', I2⟩
  · split at h'
    · rename_i hj
      obtain ⟨v, hv, rfl⟩ := Option.map_eq_some_iff.1 h'
      obtain ⟨ρ2, I2⟩ := shape_ok I' hv
      show if j = i then _ else _
      rw [if_pos hj]
      exact ⟨ρ2, I2⟩
    · rename_i hj
      split at h'
      · rename_i hj2
        obtain ⟨v, hv, rfl⟩ := Option.map_eq_some_iff.1 h'
        obtain ⟨ρ2, I2⟩ := shape_ok I' hv
        show if j = i then _ else _
        rw [if_neg hj]
        exact ⟨hj2, ρ2, I2⟩
      · cases h'
  · simp only [Option.some.injEq] at h'
    subst h'
    obtain ⟨ρ2, s2, I2, hf2⟩ := hf
    exact ⟨ρ2, s2, I2, by rw [← fin_congr (hτ k) (hr k)]; exact hf2⟩
end Go.Proofs.Ytkgjchmfiohciaa.Den
