/- What an operation does to a state. -/
import Derived.Test.YtkgjchmfiohciaaDenS1
namespace Go.Proofs.Ytkgjchmfiohciaa.Den
open Go.RowKit
set_option linter.unusedVariables false
set_option linter.unusedSimpArgs false
def zcells : K → List Value
  | .int k => [.int k 0] | .bool => [.bool false] | .str => [.string ByteArray.empty] | .slice _ => [.slice none 0 0] | .pair a b => zcells a ++ zcells b | .one k => zcells k | .unit => []
  | .arr n k => (List.replicate n (zcells k)).flatten
theorem RC_zero (w : World) (rd : Nat → Prop) : ∀ k : K, RC w rd k (zero k) (zcells k)
  | .int k => rfl
  | .bool => rfl
  | .str => rfl
  | .slice k => ⟨none, 0, [], rfl, Nat.le_refl _, rfl, fun h => absurd rfl h⟩
  | .pair a b => ⟨zcells a, zcells b, rfl, RC_zero w rd a, RC_zero w rd b⟩
  | .one k => RC_zero w rd k
  | .unit => rfl
  | .arr n k => ⟨by simp [zero], RL_replicate (RC_zero w rd k) n⟩
def TD.fits (P : Program) (τ : Nat → Option Ty) (t : Nat) (k : K) : TD → Prop
  | .int i => P.underlying t = some (.int i) ∧ k = .int i
  | .bool => P.underlying t = some .bool ∧ k = .bool
  | .str => P.underlying t = some .string ∧ k = .str
  | .slice e => P.underlying t = some (.slice e) ∧ ∃ ety, τ e = some ety ∧ k = .slice ety.k
  | .struct fs => P.underlying t = some (.struct (P.fieldsOf t)) ∧ k.agg = true ∧ (P.fieldsOf t).toList.map (fun f => (f.offset, f.type)) = fs ∧ P.stoodInHeld t = false ∧ P.eqGuardType P.depth t = false ∧ (∀ f ∈ (P.fieldsOf t).toList, f.name ≠ "_" ∧ (P.info? f.type).any (fun i => i.size != 0) = true)
  | .arr n e => P.underlying t = some (.array n e) ∧ ∃ ety, τ e = some ety ∧ k = .arr n ety.k ∧ P.eqGuardType P.depth t = false
  | .ptr _ => False
  | .fn => False
/-- What is told of a type is so. -/
structure TyOK (P : Program) (τ : Nat → Option Ty) (t : Nat) (ty : Ty) : Prop where
  info : (P.info? t).map (fun i => (i.zero.map fun z => z.cells.toList, i.size, i.bytes)) = some (some (zcells ty.k), ty.k.cells, ty.bytes)
  fits : ty.d.fits P τ t ty.k
  pos : 0 < ty.k.cells
abbrev TauOK (P : Program) (τ : Nat → Option Ty) : Prop := ∀ t ty, τ t = some ty → TyOK P τ t ty
theorem TyOK.i {P : Program} {τ : Nat → Option Ty} {t : Nat} {ty : Ty} (h : TyOK P τ t ty) : ∃ i z, P.info? t = some i ∧ i.zero = some z ∧ z.cells.toList = zcells ty.k ∧ i.size = ty.k.cells ∧ i.bytes = ty.bytes := by
  have hh := h.info
  cases hi : P.info? t with
  | none => rw [hi] at hh; simp at hh
  | some i =>
    rw [hi] at hh
    simp only [Option.map_some, Option.some.injEq, Prod.mk.injEq] at hh
    obtain ⟨h1, h2, h3⟩ := hh
    cases hz : i.zero with
    | none => rw [hz] at h1; simp at h1
    | some z => rw [hz] at h1; simp at h1; exact ⟨i, z, rfl, hz, h1, h2, h3⟩
theorem run_info {P : Program} {w : World} {t : Nat} {i : TypeInfo} (h : P.info? t = some i) : (typeInfo t).run P w = .ok i w := by simp [typeInfo, h]
theorem run_sizeOf {P : Program} {w : World} {t : Nat} {i : TypeInfo} (h : P.info? t = some i) : (sizeOf t).run P w = .ok i.size w := by simp [sizeOf, typeInfo, h]
theorem run_zeroValue {P : Program} {w : World} {t : Nat} {i : TypeInfo} {z : Value} (h : P.info? t = some i) (hz : i.zero = some z) : (zeroValue t).run P w = .ok z w := by simp [zeroValue, typeInfo, h, hz]
theorem run_isAgg {P : Program} {τ : Nat → Option Ty} {w : World} {t : Nat} {ty : Ty} (h : TyOK P τ t ty) : (isAgg t).run P w = .ok ty.k.agg w := by
  have hf := h.fits
  unfold isAgg
  cases hd : ty.d with
  | int i => rw [hd] at hf; obtain ⟨h1, h2⟩ := hf; simp [underlying, h1, h2, K.agg]
  | bool => rw [hd] at hf; obtain ⟨h1, h2⟩ := hf; simp [underlying, h1, h2, K.agg]
  | str => rw [hd] at hf; obtain ⟨h1, h2⟩ := hf; simp [underlying, h1, h2, K.agg]
  | slice e => rw [hd] at hf; obtain ⟨h1, ety, _, h2⟩ := hf; simp [underlying, h1, h2, K.agg]
  | struct fs => rw [hd] at hf; obtain ⟨h1, h2, _⟩ := hf; simp [underlying, h1, h2]
  | arr n e => rw [hd] at hf; obtain ⟨h1, ety, _, h2, _⟩ := hf; simp [underlying, h1, h2, K.agg]
  | ptr e => rw [hd] at hf; exact hf.elim
  | fn => rw [hd] at hf; exact hf.elim
section
variable {P : Program} {τ : Nat → Option Ty} {C : Cx}
/-- An operation has an effect, in every frame and world of which the state tells. -/
def Does (P : Program) (C : Cx) (s : St) (o : Oper) (E : Eff) : Prop :=
  ∀ ρ a w, Inv C ρ s a w → ∃ n v w' ρ', (execOp a.eval o).run P w = .ok n w' ∧ (n = .value v ∨ n = .skip ∧ v = undef) ∧ Inv C ρ' ⟨s.t, hupd s.h E.u⟩ a w' ∧ rel (envOf C ρ' (hupd s.h E.u) w') E.v v
theorem Does.pure {s : St} {o : Oper} {v : AV} (h : ∀ ρ a w, Inv C ρ s a w → ∃ u, (execOp a.eval o).run P w = .ok (.value u) w ∧ rel (envOf C ρ s.h w) v u) : Does P C s o ⟨v, []⟩ := by
  intro ρ a w I
  obtain ⟨u, h1, h2⟩ := h ρ a w I
  exact ⟨_, u, w, ρ, h1, .inl rfl, I, h2⟩
theorem rel_int {E : RE} {k : IntKind} {n : Int} {v : Value} : rel E (.p (.int k) n) v ↔ v = .int k n := by simp [rel, VR, K.agg, RC]
theorem rel_bool {E : RE} {b : Bool} {v : Value} : rel E (.p .bool b) v ↔ v = .bool b := by simp [rel, VR, K.agg, RC]
theorem rel_str {E : RE} {b : ByteArray} {v : Value} : rel E (.p .str b) v ↔ v = .string b := by simp [rel, VR, K.agg, RC]
/-- A slice, as it is read. -/
def SlR (w : World) (rd : Nat → Prop) (k : K) (xs : List (T k)) (v : Value) : Prop :=
  ∃ A cap vals, v = .slice A xs.length cap ∧ xs.length ≤ cap ∧ RL (RC w rd k) xs vals ∧ (vals ≠ [] → ∃ b off, A = some ⟨b, off, none⟩ ∧ At w b off vals)
theorem SlR_of_RC {w : World} {rd : Nat → Prop} {k : K} {xs : List (T k)} {v : Value} (h : RC w rd (.slice k) xs [v]) : SlR w rd k xs v := by
  obtain ⟨A, cap, vals, h1, h2, h3, h4⟩ := h
  simp at h1
  exact ⟨A, cap, vals, h1, h2, h3, fun hn => let ⟨b, off, e, _, ha⟩ := h4 hn; ⟨b, off, e, ha⟩⟩
theorem RL_nil {α : Type} {f : α → List Value → Prop} {l : List Value} (h : RL f ([] : List α) l) : l = [] := h
theorem row_reads {ρ : Nat → Value} {s : St} {a : Act} {w : World} (I : Inv C ρ s a w) {id : Nat} {rv : Nat} {wr : Bool} {ty : Nat} {k : K} {xs : List (T k)} (h : s.h id = some ⟨rv, wr, ty, .list k xs⟩) :
    ∃ vals, RL (RC w (Rd C s.h ρ w) k) xs vals ∧ vals.length = xs.length * k.cells ∧ (blk (ρ id) = none → vals = [] ∧ xs = []) ∧ (∀ b, blk (ρ id) = some b → At w b 0 vals ∧ C.own b ∧ b < w.heap.size) ∧
      (isSl (ρ id) → ∃ A cap, ρ id = .slice A xs.length cap ∧ xs.length ≤ cap ∧ ∀ ad, A = some ad → ∃ b, ad = ⟨b, 0, none⟩) := by
  obtain ⟨vals, ho, hl, _⟩ := I.rows id _ h
  have key : ∀ b, blk (ρ id) = some b → At w b 0 vals ∧ C.own b ∧ b < w.heap.size := by
    intro b hb
    have h0 := ho.own_of hb
    refine ⟨?_, h0⟩
    rcases ho.2 with ⟨he, hn⟩ | ⟨g, cap, cur, he, hb2, hg, hnc, hcm, hcs, ht⟩
    · rw [he] at hb; simp [blk] at hb
    · have hgb : g = b := by
        rcases he with he | ⟨he, _⟩
        · rw [he] at hb; simpa [blk] using hb
        · rw [he] at hb; simpa [blk] using hb
      subst hgb
      intro j u hu
      have hj : j < xs.length * k.cells := by rw [← ho.1]; exact (List.getElem?_eq_some_iff.1 hu).1
      rw [← ht, List.getElem?_take, if_pos hj] at hu
      rw [Nat.zero_add]
      simpa [World.cell?, hg] using hu
  rcases ho.2 with ⟨he, hn⟩ | ⟨g, cap, cur, he, hb, hg, hnc, hcm, hcs, ht⟩
  · have hv : vals = [] := List.eq_nil_of_length_eq_zero (by rw [ho.1, hn]; simp)
    exact ⟨vals, hl, ho.1, fun _ => ⟨hv, List.eq_nil_of_length_eq_zero hn⟩, key, fun _ => ⟨none, 0, by rw [he, hn], by omega, fun ad h => by simp at h⟩⟩
  · rcases he with he | ⟨he, hc⟩
    · exact ⟨vals, hl, ho.1, fun h => by rw [he] at h; simp [blk] at h, key, fun _ => ⟨_, cap, he, hnc, fun ad h => ⟨g, by simpa using h.symm⟩⟩⟩
    · exact ⟨vals, hl, ho.1, fun h => by rw [he] at h; simp [blk] at h, key, fun h => by rw [he] at h; exact h.elim⟩
theorem castS_rfl {k : K} (xs : List (T k)) : castS (rfl : k = k) xs = xs := rfl
theorem rdSl_reads {ρ : Nat → Value} {s : St} {a : Act} {w : World} (I : Inv C ρ s a w) {h' : Nat → Option Row} (hsub : ∀ id row, h' id = some row → s.h id = some row) {k : K} {v : AV} {xs : List (T k)} {u : Value}
    (hr : rdSl h' k v = some xs) (hv : rel (envOf C ρ s.h w) v u) : SlR w (Rd C s.h ρ w) k xs u := by
  cases v with
  | nilsl =>
    simp only [rdSl, Option.some.injEq] at hr
    subst hr
    simp only [rel] at hv
    subst hv
    exact ⟨none, 0, [], rfl, Nat.le_refl _, rfl, fun h => absurd rfl h⟩
  | p k' x =>
    cases k' with
    | slice k' =>
      simp only [rdSl] at hr
      split at hr
      · rename_i e
        subst e
        simp only [castS_rfl, Option.some.injEq] at hr
        subst hr
        simp only [rel, VR, K.agg] at hv
        exact SlR_of_RC hv
      · cases hr
    | _ => simp [rdSl] at hr
  | pc k' x =>
    simp only [rdSl] at hr
    split at hr
    · rename_i e
      subst e
      simp only [castS_rfl, Option.some.injEq] at hr
      subst hr
      obtain ⟨A, rfl, hv⟩ := hv
      exact SlR_of_RC hv
    · cases hr
  | slw id ver fl =>
    simp only [rdSl] at hr
    split at hr
    · rename_i rv wr ty k' ys hrow
      split at hr
      · rename_i e
        obtain ⟨rfl, rfl⟩ := e
        simp only [castS_rfl, Option.some.injEq] at hr
        subst hr
        obtain ⟨hsh, row, h1, h2, h3⟩ := hv
        have h4 := hsub _ _ hrow
        have h1 : s.h id = some row := h1
        rw [h4] at h1
        injection h1 with h1
        subst h1
        obtain ⟨_, rfl⟩ := h3 rfl
        obtain ⟨vals, hl, hlen, hn, hs, hsl⟩ := row_reads I h4
        obtain ⟨A, cap, he, hc, hA⟩ := hsl hsh.sl
        refine ⟨A, cap, vals, he, hc, hl, fun hne => ?_⟩
        cases A with
        | none => exact absurd (hn (by rw [he]; rfl)).1 hne
        | some ad =>
          obtain ⟨b, rfl⟩ := hA ad rfl
          exact ⟨b, 0, rfl, (hs b (by rw [he]; rfl)).1⟩
      · cases hr
    · cases hr
  | sl id ver off len =>
    simp only [rdSl] at hr
    split at hr
    · rename_i rv wr ty k' ys hrow
      split at hr
      · rename_i e
        obtain ⟨rfl, rfl⟩ := e
        simp only [castS_rfl, Option.some.injEq] at hr
        subst hr
        obtain ⟨hsh, row, h1, h2, h3⟩ := hv
        have h4 := hsub _ _ hrow
        have h1 : s.h id = some row := h1
        rw [h4] at h1
        injection h1 with h1
        subst h1
        obtain ⟨_, k2, xs2, A, cap, hb, hof, hlc, rfl, hA, _⟩ := h3 rfl
        simp only [RowB.list.injEq] at hb
        obtain ⟨rfl, hb⟩ := hb
        have hb := eq_of_heq hb
        subst hb
        obtain ⟨vals, hl, hlen, hn, hs, hsl⟩ := row_reads I h4
        have hm : ∀ (x : T k') c, RC w (Rd C s.h ρ w) k' x c → c.length = k'.cells := fun x c hx => RC_len hx
        have hl2 : ((ys.drop off).take len).length = len := by rw [List.length_take, List.length_drop]; omega
        refine ⟨A, cap, (vals.drop (off * k'.cells)).take (len * k'.cells), by rw [hl2], by omega, RL_take hm len (RL_drop hm off hl), fun hne => ?_⟩
        have hpos : 0 < len := by
          rcases Nat.eq_zero_or_pos len with e | e
          · subst e; simp at hne
          · exact e
        obtain ⟨b, hb1, rfl⟩ := hA hpos
        refine ⟨b, _, rfl, fun j u hu => ?_⟩
        have hat := (hs b hb1).1
        have hj : j < len * k'.cells := by
          have := (List.getElem?_eq_some_iff.1 hu).1
          rw [List.length_take] at this; omega
        rw [List.getElem?_take, if_pos hj, List.getElem?_drop] at hu
        have := hat _ _ hu
        rwa [Nat.zero_add] at this
      · cases hr
    · cases hr
  | sa id ver off len =>
    simp only [rdSl] at hr
    split at hr
    · rename_i rv wr ty k' ys hrow
      split at hr
      · rename_i e
        obtain ⟨rfl, rfl⟩ := e
        simp only [castS_rfl, Option.some.injEq] at hr
        subst hr
        obtain ⟨hsh, row, h1, h2, h3⟩ := hv
        have h4 := hsub _ _ hrow
        have h1 : s.h id = some row := h1
        rw [h4] at h1
        injection h1 with h1
        subst h1
        obtain ⟨k2, xs2, A, cap, hb, hof, hlc, rfl, hA⟩ := h3 rfl
        simp only [RowB.list.injEq] at hb
        obtain ⟨rfl, hb⟩ := hb
        have hb := eq_of_heq hb
        subst hb
        obtain ⟨vals, hl, hlen, hn, hs, hsl⟩ := row_reads I h4
        have hm : ∀ (x : T k') c, RC w (Rd C s.h ρ w) k' x c → c.length = k'.cells := fun x c hx => RC_len hx
        have hl2 : ((ys.drop off).take len).length = len := by rw [List.length_take, List.length_drop]; omega
        refine ⟨A, cap, (vals.drop (off * k'.cells)).take (len * k'.cells), by rw [hl2], by omega, RL_take hm len (RL_drop hm off hl), fun hne => ?_⟩
        have hpos : 0 < len := by
          rcases Nat.eq_zero_or_pos len with e | e
          · subst e; simp at hne
          · exact e
        obtain ⟨b, hb1, rfl⟩ := hA hpos
        refine ⟨b, _, rfl, fun j u hu => ?_⟩
        have hat := (hs b hb1).1
        have hj : j < len * k'.cells := by
          have := (List.getElem?_eq_some_iff.1 hu).1
          rw [List.length_take] at this; omega
        rw [List.getElem?_take, if_pos hj, List.getElem?_drop] at hu
        have := hat _ _ hu
        rwa [Nat.zero_add] at this
      · cases hr
    · cases hr
  | _ => simp [rdSl] at hr
/-- Read without rows: data that stays. -/
theorem rdSl_pure {E : RE} {k : K} {v : AV} {xs : List (T k)} {u : Value} (hr : rdSl noRows k v = some xs) (hv : rel E v u) : RC E.w E.rd (.slice k) xs [u] := by
  cases v with
  | nilsl =>
    simp only [rdSl, Option.some.injEq] at hr
    subst hr
    simp only [rel] at hv
    subst hv
    exact ⟨none, 0, [], rfl, Nat.le_refl _, rfl, fun h => absurd rfl h⟩
  | p k' x =>
    cases k' with
    | slice k' =>
      simp only [rdSl] at hr
      split at hr
      · rename_i e
        subst e
        simp only [castS_rfl, Option.some.injEq] at hr
        subst hr
        simpa [rel, VR, K.agg] using hv
      · cases hr
    | _ => simp [rdSl] at hr
  | pc k' x =>
    simp only [rdSl] at hr
    split at hr
    · rename_i e
      subst e
      simp only [castS_rfl, Option.some.injEq] at hr
      subst hr
      obtain ⟨A, rfl, hv⟩ := hv
      exact hv
    · cases hr
  | slw id ver fl => simp [rdSl, noRows] at hr
  | sl id ver off len => simp [rdSl, noRows] at hr
  | sa id ver off len => simp [rdSl, noRows] at hr
  | _ => simp [rdSl] at hr
theorem lenOf_reads {ρ : Nat → Value} {s : St} {a : Act} {w : World} (I : Inv C ρ s a w) {h' : Nat → Option Row} (hsub : ∀ id row, h' id = some row → s.h id = some row) {v : AV} {n : Int} {u : Value}
    (hr : lenOf h' v = some n) (hv : rel (envOf C ρ s.h w) v u) : ∃ A l c, u = .slice A l c ∧ n = (l : Int) := by
  cases v with
  | nilsl => simp only [lenOf, Option.some.injEq] at hr; subst hr; exact ⟨none, 0, 0, hv, rfl⟩
  | p k' x =>
    cases k' with
    | slice k' =>
      simp only [lenOf, Option.some.injEq] at hr
      subst hr
      simp only [rel, VR, K.agg] at hv
      obtain ⟨A, cap, vals, h1, _⟩ := hv
      simp at h1
      exact ⟨A, _, cap, h1, rfl⟩
    | _ => simp [lenOf] at hr
  | pc k' x =>
    simp only [lenOf, Option.some.injEq] at hr
    subst hr
    obtain ⟨A, rfl, hv⟩ := hv
    exact ⟨A, _, _, rfl, rfl⟩
  | slw id ver fl =>
    simp only [lenOf] at hr
    split at hr
    · rename_i rv wr ty k' ys hrow
      split at hr
      · rename_i e
        subst e
        simp only [Option.some.injEq] at hr
        subst hr
        obtain ⟨hsh, row, h1, h2, h3⟩ := hv
        have h4 := hsub _ _ hrow
        have h1 : s.h id = some row := h1
        rw [h4] at h1
        injection h1 with h1
        subst h1
        obtain ⟨_, rfl⟩ := h3 rfl
        obtain ⟨vals, hl, hlen, hn, hs, hsl⟩ := row_reads I h4
        obtain ⟨A, cap, he, _⟩ := hsl hsh.sl
        exact ⟨A, _, cap, he, rfl⟩
      · cases hr
    · cases hr
  | sl id ver off len =>
    simp only [lenOf] at hr
    split at hr
    · rename_i rv wr ty k' ys hrow
      split at hr
      · rename_i e
        subst e
        simp only [Option.some.injEq] at hr
        subst hr
        obtain ⟨hsh, row, h1, h2, h3⟩ := hv
        have h4 := hsub _ _ hrow
        have h1 : s.h id = some row := h1
        rw [h4] at h1
        injection h1 with h1
        subst h1
        obtain ⟨_, k2, xs2, A, cap, hb, hof, hlc, rfl, hA, _⟩ := h3 rfl
        exact ⟨A, _, cap, rfl, rfl⟩
      · cases hr
    · cases hr
  | sa id ver off len =>
    simp only [lenOf] at hr
    split at hr
    · rename_i rv wr ty k' ys hrow
      split at hr
      · rename_i e
        subst e
        simp only [Option.some.injEq] at hr
        subst hr
        obtain ⟨hsh, row, h1, h2, h3⟩ := hv
        have h4 := hsub _ _ hrow
        have h1 : s.h id = some row := h1
        rw [h4] at h1
        injection h1 with h1
        subst h1
        obtain ⟨k2, xs2, A, cap, hb, hof, hlc, rfl, hA⟩ := h3 rfl
        exact ⟨A, _, cap, rfl, rfl⟩
      · cases hr
    · cases hr
  | _ => simp [lenOf] at hr
end
end Go.Proofs.Ytkgjchmfiohciaa.Den
