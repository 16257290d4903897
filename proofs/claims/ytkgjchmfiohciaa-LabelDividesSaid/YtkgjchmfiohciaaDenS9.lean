/- len, min, max; parts of slices. -/
import Derived.Test.YtkgjchmfiohciaaDenS8
namespace Go.Proofs.Ytkgjchmfiohciaa.Den
open Go.RowKit
set_option linter.unusedVariables false
set_option linter.unusedSimpArgs false
variable {P : Program} {τ : Nat → Option Ty} {C : Cx} {s : St} {o : Oper} {E : Eff} {h' : Nat → Option Row}
theorem args1 {α : Type} {a : Array α} {x : α} (h : a.toList = [x]) : a = #[x] := by cases a; simp_all
theorem args2 {α : Type} {a : Array α} {x y : α} (h : a.toList = [x, y]) : a = #[x, y] := by cases a; simp_all
theorem run_builtin {P : Program} {w w' : World} {ρ : Operand → Value} {o : Oper} {b : Builtin} {qs : Array Operand} {ts : Array TypeId} {u : Value} (ho : o.op = .call { callee := .builtin b, args := qs, argTypes := ts })
    (h : (builtin b ts o.type (qs.map fun | .const _ => true | _ => false) (qs.map ρ)).run P w = .ok (.value u) w') : (execOp ρ o).run P w = .ok (.value u) w' := by
  unfold execOp
  rw [ho]
  simp only [resolve, Sem.run_bind, Sem.run_pure, Result.andThen_ok, invoke]
  exact h
theorem does_len (hτ : TauOK P τ) (hsub : ∀ id row, h' id = some row → s.h id = some row) {qs : Array Operand} {ts : Array TypeId} (ho : o.op = .call { callee := .builtin .len, args := qs, argTypes := ts })
    (h : (effS τ s.ev h' o).sem = some E) : Does P C s o E := by
  unfold effS at h
  rw [ho] at h
  simp only [effCall, effLen] at h
  split at h
  · rename_i x t ha ht
    obtain rfl := args1 ha
    obtain rfl := args1 ht
    split at h
    · rename_i by_ k str ht hx
      simp only [Dec.sem, Option.some.injEq] at h
      subst h
      refine Does.pure fun ρ a w I => ?_
      have hv : rel (envOf C ρ s.h w) (.p .str str) (a.eval x) := hx ▸ I.ev x
      rw [rel_str] at hv
      refine ⟨_, run_builtin ho ?_, rel_int.2 rfl⟩
      simp [builtin, hv, Builtin.len_, run_underlying (hτ t _ ht).fits.1, goInt]
    · rename_i e by_ k ht
      split at h
      · rename_i n hn
        simp only [Dec.sem, Option.some.injEq] at h
        subst h
        refine Does.pure fun ρ a w I => ?_
        obtain ⟨A, l, c, hv, rfl⟩ := lenOf_reads I hsub hn (I.ev x)
        refine ⟨_, run_builtin ho ?_, rel_int.2 rfl⟩
        simp [builtin, hv, Builtin.len_, run_underlying (hτ t _ ht).fits.1, goInt]
      · simp [Dec.sem] at h
    · simp [Dec.sem] at h
  · simp [Dec.sem] at h
theorem min_if (n m : Int) : min n m = if m < n then m else n := by rw [Int.min_def]; split <;> split <;> omega
theorem max_if (n m : Int) : max n m = if m > n then m else n := by rw [Int.max_def]; split <;> split <;> omega
theorem does_min {qs : Array Operand} {ts : Array TypeId} (ho : o.op = .call { callee := .builtin .min, args := qs, argTypes := ts })
    (h : (effS τ s.ev h' o).sem = some E) : Does P C s o E := by
  unfold effS at h
  rw [ho] at h
  simp only [effCall, effMM] at h
  split at h
  rotate_left
  · simp [Dec.sem] at h
  rename_i x y ha
  obtain rfl := args2 ha
  split at h
  · rename_i k n k' m hx hy
    split at h
    · rename_i e
      subst e
      simp only [Dec.sem, Option.some.injEq] at h
      subst h
      refine Does.pure fun ρ a w I => ?_
      have hv : rel (envOf C ρ s.h w) (.p (.int k) n) (a.eval x) := hx ▸ I.ev x
      have hu : rel (envOf C ρ s.h w) (.p (.int k) m) (a.eval y) := hy ▸ I.ev y
      rw [rel_int] at hv hu
      refine ⟨.int k (if (m : Int) < n then m else n), run_builtin ho ?_, ?_⟩
      · simp [builtin, hv, hu, run_min_int2]
      · rw [rel_int]
        exact congrArg (Value.int k) (min_if n m).symm
    · simp [Dec.sem] at h
  · simp [Dec.sem] at h
theorem does_max {qs : Array Operand} {ts : Array TypeId} (ho : o.op = .call { callee := .builtin .max, args := qs, argTypes := ts })
    (h : (effS τ s.ev h' o).sem = some E) : Does P C s o E := by
  unfold effS at h
  rw [ho] at h
  simp only [effCall, effMM] at h
  split at h
  rotate_left
  · simp [Dec.sem] at h
  rename_i x y ha
  obtain rfl := args2 ha
  split at h
  · rename_i k n k' m hx hy
    split at h
    · rename_i e
      subst e
      simp only [Dec.sem, Option.some.injEq] at h
      subst h
      refine Does.pure fun ρ a w I => ?_
      have hv : rel (envOf C ρ s.h w) (.p (.int k) n) (a.eval x) := hx ▸ I.ev x
      have hu : rel (envOf C ρ s.h w) (.p (.int k) m) (a.eval y) := hy ▸ I.ev y
      rw [rel_int] at hv hu
      refine ⟨.int k (if (m : Int) > n then m else n), run_builtin ho ?_, ?_⟩
      · simp [builtin, hv, hu, run_max_int2]
      · rw [rel_int]
        exact congrArg (Value.int k) (max_if n m).symm
    · simp [Dec.sem] at h
  · simp [Dec.sem] at h
/-- A part of a slice, as the machine makes it. -/
theorem run_sub {t e : Nat} {ety : TypeInfo} (hu : P.underlying t = some (.slice e)) (hi : P.info? e = some ety) {w : World} {ρ : Operand → Value} {A : Option Addr} {l c : Nat} {x : Operand} {lo hi mx : Option Operand} {L H : Int}
    (ho : o.op = .slice t x lo hi mx) (hx : ρ x = .slice A l c) (hL : match lo with | none => L = 0 | some q => ∃ k, ρ q = .int k L) (hH : match hi with | none => H = l | some q => ∃ k, ρ q = .int k H)
    (hM : match mx with | none => True | some q => hi.isSome = true ∧ ∃ k, ρ q = .int k H) (h0 : 0 ≤ L) (h1 : L ≤ H) (h2 : H ≤ l) (hlc : l ≤ c) :
    ∃ m, (execOp ρ o).run P w = .ok (.value (.slice (if m = L.toNat then A else A.map (·.add (L.toNat * ety.size))) (H.toNat - L.toNat) (m - L.toNat))) w ∧ H.toNat ≤ m ∧ (mx.isSome = true → m = H.toNat) ∧ (mx = none → m = c) := by
  have hb1 : ∀ (k : IntKind) (i : Int) (y : Nat) (code : BoundsCode), 0 ≤ i → i ≤ y → (Instr.sliceBound (.int k i) y code).run P w = .ok i.toNat w := fun k i y code h0 h1 => run_sliceBound w k i y code h0 h1
  have eH : (H.toNat : Int) = H := Int.toNat_of_nonneg (by omega)
  unfold execOp
  rw [ho]
  cases mx with
  | none =>
    refine ⟨c, ?_, by omega, by simp, fun _ => rfl⟩
    cases lo with
    | none =>
      simp only at hL
      subst hL
      cases hi with
      | none =>
        simp only at hH
        subst hH
        simp [hx, Instr.sliceAt, run_underlying hu, Instr.slice, Instr.sliceBounds, sizeOf, typeInfo, hi]
      | some q =>
        obtain ⟨k, hq⟩ := hH
        simp [hx, hq, Instr.sliceAt, run_underlying hu, Instr.slice, Instr.sliceBounds, sizeOf, typeInfo, hi, hb1 k H c _ (by omega) (by omega)]
    | some p =>
      obtain ⟨k', hp⟩ := hL
      cases hi with
      | none =>
        simp only at hH
        subst hH
        simp [hx, hp, Instr.sliceAt, run_underlying hu, Instr.slice, Instr.sliceBounds, sizeOf, typeInfo, hi, hb1 k' L l _ (by omega) (by omega)]
      | some q =>
        obtain ⟨k, hq⟩ := hH
        simp [hx, hp, hq, Instr.sliceAt, run_underlying hu, Instr.slice, Instr.sliceBounds, sizeOf, typeInfo, hi, hb1 k H c _ (by omega) (by omega), hb1 k' L H.toNat _ (by omega) (by omega)]
  | some r =>
    obtain ⟨hs, k2, hr⟩ := hM
    refine ⟨H.toNat, ?_, by omega, by simp, by simp⟩
    cases hi with
    | none => simp at hs
    | some q =>
      obtain ⟨k, hq⟩ := hH
      cases lo with
      | none =>
        simp only at hL
        subst hL
        simp [hx, hq, hr, Instr.sliceAt, run_underlying hu, Instr.slice, Instr.sliceBounds, sizeOf, typeInfo, hi, hb1 k2 H c _ (by omega) (by omega), hb1 k H H.toNat _ (by omega) (by omega)]
      | some p =>
        obtain ⟨k', hp⟩ := hL
        simp [hx, hp, hq, hr, Instr.sliceAt, run_underlying hu, Instr.slice, Instr.sliceBounds, sizeOf, typeInfo, hi, hb1 k2 H c _ (by omega) (by omega), hb1 k H H.toNat _ (by omega) (by omega), hb1 k' L H.toNat _ (by omega) (by omega)]
theorem run_substr {t : Nat} (hu : P.underlying t = some .string) {w : World} {ρ : Operand → Value} {str : ByteArray} {x : Operand} {lo hi : Option Operand} {L H : Int}
    (ho : o.op = .slice t x lo hi none) (hx : ρ x = .string str) (hL : match lo with | none => L = 0 | some q => ∃ k, ρ q = .int k L) (hH : match hi with | none => H = (str.size : Int) | some q => ∃ k, ρ q = .int k H)
    (h0 : 0 ≤ L) (h1 : L ≤ H) (h2 : H ≤ (str.size : Int)) : (execOp ρ o).run P w = .ok (.value (.string (str.extract L.toNat H.toNat))) w := by
  have hb1 : ∀ (k : IntKind) (i : Int) (y : Nat) (code : BoundsCode), 0 ≤ i → i ≤ y → (Instr.sliceBound (.int k i) y code).run P w = .ok i.toNat w := fun k i y code h0 h1 => run_sliceBound w k i y code h0 h1
  have eH : (H.toNat : Int) = H := Int.toNat_of_nonneg (by omega)
  unfold execOp
  rw [ho]
  cases lo with
  | none =>
    simp only at hL
    subst hL
    cases hi with
    | none =>
      simp only at hH
      subst hH
      simp [hx, Instr.sliceAt, run_underlying hu, Instr.slice, Instr.sliceBounds]
    | some q =>
      obtain ⟨k, hq⟩ := hH
      simp [hx, hq, Instr.sliceAt, run_underlying hu, Instr.slice, Instr.sliceBounds, hb1 k H str.size _ (by omega) (by omega)]
  | some p =>
    obtain ⟨k', hp⟩ := hL
    cases hi with
    | none =>
      simp only at hH
      subst hH
      simp [hx, hp, Instr.sliceAt, run_underlying hu, Instr.slice, Instr.sliceBounds, hb1 k' L str.size _ (by omega) (by omega)]
    | some q =>
      obtain ⟨k, hq⟩ := hH
      simp [hx, hp, hq, Instr.sliceAt, run_underlying hu, Instr.slice, Instr.sliceBounds, hb1 k H str.size _ (by omega) (by omega), hb1 k' L H.toNat _ (by omega) (by omega)]
theorem bound_ok {ρ : Nat → Value} {a : Act} {w : World} (I : Inv C ρ s a w) {d n : Int} : ∀ {q : Option Operand}, bound s.ev d q = some n → match q with | none => n = d | some q => ∃ k, a.eval q = .int k n
  | none, h => by simp only [bound, Option.some.injEq] at h; exact h.symm
  | some q, h => by
    simp only [bound] at h
    split at h
    · rename_i k m hq
      simp only [Option.some.injEq] at h
      subst h
      exact ⟨k, rel_int.1 (hq ▸ I.ev q)⟩
    · cases h
theorem RC_sub {w : World} {rd : Nat → Prop} {k : K} {xs : List (T k)} {A : Option Addr} {c m L H : Nat} (h : RC w rd (.slice k) xs [.slice A xs.length c]) (h1 : L ≤ H) (h2 : H ≤ xs.length) (h3 : H ≤ m) :
    RC w rd (.slice k) ((xs.take H).drop L) [.slice (if m = L then A else A.map (·.add (L * k.cells))) (H - L) (m - L)] := by
  obtain ⟨A', cap, vals, he, hc, hl, hA⟩ := h
  simp only [List.cons.injEq, and_true, Value.slice.injEq, true_and] at he
  obtain ⟨rfl, rfl⟩ := he
  have hlen : ((xs.take H).drop L).length = H - L := by rw [List.length_drop, List.length_take]; omega
  have hmm : ∀ (x : T k) c, RC w rd k x c → c.length = k.cells := fun x c hx => RC_len hx
  refine ⟨_, m - L, (vals.take (H * k.cells)).drop (L * k.cells), by rw [hlen], by rw [hlen]; omega, RL_drop hmm _ (RL_take hmm _ hl), fun hne => ?_⟩
  have hvne : vals ≠ [] := by rintro rfl; simp at hne
  obtain ⟨b, off, rfl, hrd, hat⟩ := hA hvne
  have hlt : L < H := by
    rcases Nat.lt_or_ge L H with h | h
    · exact h
    · exfalso
      apply hne
      have h3 : (vals.take (H * k.cells)).length ≤ L * k.cells := by
        rw [List.length_take]
        exact Nat.le_trans (Nat.min_le_left _ _) (Nat.mul_le_mul_right _ h)
      exact List.drop_eq_nil_of_le h3
  rw [if_neg (by omega)]
  refine ⟨b, off + L * k.cells, by simp [addr_add], hrd, fun j u hu => ?_⟩
  rw [List.getElem?_drop, List.getElem?_take] at hu
  split at hu
  · have := hat _ _ hu
    rwa [← Nat.add_assoc] at this
  · cases hu
/-- A frozen row reads as data. -/
theorem frozen_reads {ρ : Nat → Value} {s : St} {a : Act} {w : World} (I : Inv C ρ s a w) {id rv ty : Nat} {k : K} {xs : List (T k)} (h : s.h id = some ⟨rv, false, ty, .list k xs⟩) (hsl : isSl (ρ id)) :
    ∃ A c, ρ id = .slice A xs.length c ∧ RC w (Rd C s.h ρ w) (.slice k) xs [.slice A xs.length c] := by
  obtain ⟨vals, hl, hlen, hn, hs, h7⟩ := row_reads I h
  obtain ⟨A, cap, he, hc, hA⟩ := h7 hsl
  refine ⟨A, cap, he, A, cap, vals, rfl, hc, hl, fun hne => ?_⟩
  cases A with
  | none => exact absurd (hn (by rw [he]; rfl)).1 hne
  | some ad =>
    obtain ⟨b, rfl⟩ := hA ad rfl
    obtain ⟨vals', ho, hl', hf⟩ := I.rows id _ h
    exact ⟨b, 0, rfl, hf rfl b (by rw [he]; rfl), (hs b (by rw [he]; rfl)).1⟩
theorem run_suba {t e len : Nat} {ety : TypeInfo} (hu : P.underlying t = some (.array len e)) (hi : P.info? e = some ety) {w : World} {ρ : Operand → Value} {A : Addr} {x : Operand} {lo hi : Option Operand} {L H : Int}
    (ho : o.op = .slice t x lo hi none) (hx : ρ x = .pointer (some A)) (hL : match lo with | none => L = 0 | some q => ∃ k, ρ q = .int k L) (hH : match hi with | none => H = len | some q => ∃ k, ρ q = .int k H)
    (h0 : 0 ≤ L) (h1 : L ≤ H) (h2 : H ≤ len) :
    (execOp ρ o).run P w = .ok (.value (.slice (some (if len = L.toNat then A else A.add (L.toNat * ety.size))) (H.toNat - L.toNat) (len - L.toNat))) w := by
  have hb1 : ∀ (k : IntKind) (i : Int) (y : Nat) (code : BoundsCode), 0 ≤ i → i ≤ y → (Instr.sliceBound (.int k i) y code).run P w = .ok i.toNat w := fun k i y code h0 h1 => run_sliceBound w k i y code h0 h1
  have eH : (H.toNat : Int) = H := Int.toNat_of_nonneg (by omega)
  unfold execOp
  rw [ho]
  cases lo with
  | none =>
    simp only at hL
    subst hL
    cases hi with
    | none =>
      simp only at hH
      subst hH
      simp [hx, Instr.sliceAt, Instr.sureAddr, run_underlying hu, Instr.sliceBounds, sizeOf, typeInfo, hi]
    | some q =>
      obtain ⟨k, hq⟩ := hH
      simp [hx, hq, Instr.sliceAt, Instr.sureAddr, run_underlying hu, Instr.sliceBounds, sizeOf, typeInfo, hi, hb1 k H len _ (by omega) (by omega)]
  | some p =>
    obtain ⟨k', hp⟩ := hL
    cases hi with
    | none =>
      simp only at hH
      subst hH
      simp [hx, hp, Instr.sliceAt, Instr.sureAddr, run_underlying hu, Instr.sliceBounds, sizeOf, typeInfo, hi, hb1 k' L len _ (by omega) (by omega)]
    | some q =>
      obtain ⟨k, hq⟩ := hH
      simp [hx, hp, hq, Instr.sliceAt, Instr.sureAddr, run_underlying hu, Instr.sliceBounds, sizeOf, typeInfo, hi, hb1 k H len _ (by omega) (by omega), hb1 k' L H.toNat _ (by omega) (by omega)]
theorem does_slice (hτ : TauOK P τ) (hsub : ∀ id row, h' id = some row → s.h id = some row) {t : Nat} {x : Operand} {lo hi mx : Option Operand} (ho : o.op = .slice t x lo hi mx)
    (h : (effS τ s.ev h' o).sem = some E) : Does P C s o E := by
  unfold effS at h
  rw [ho] at h
  simp only at h
  split at h
  · rename_i str hx
    split at h
    · rename_i by_ k H L ht hH hL
      split at h
      · rename_i hm
        cases mx with
        | some q => simp at hm
        | none =>
          simp only [Dec.guard, Dec.sem] at h
          split at h
          · rename_i hb
            obtain ⟨h0, h1, h2⟩ := of_decide_eq_true hb
            simp only [Option.some.injEq] at h
            subst h
            refine Does.pure fun ρ a w I => ?_
            have hv : rel (envOf C ρ s.h w) (.p .str str) (a.eval x) := hx ▸ I.ev x
            rw [rel_str] at hv
            have hL' := bound_ok I hL
            have hH' := bound_ok I hH
            exact ⟨_, run_substr (o := o) (hτ t _ ht).fits.1 ho hv (by cases lo <;> exact hL') (by cases hi <;> exact hH') h0 h1 h2, rel_str.2 rfl⟩
          · simp at h
      · simp [Dec.sem] at h
    · simp [Dec.sem] at h
  · rename_i id ver hx
    split at h
    · rename_i rv wr e k xs len e2 by_ m k' hrow ht
      obtain ⟨hu, ety, hety, hk, _⟩ := (hτ t _ ht).fits
      simp only [K.arr.injEq] at hk
      obtain ⟨_, rfl⟩ := hk
      obtain ⟨ei, ez, hei, _, _, hsz, _⟩ := (hτ _ ety hety).i
      split at h
      · rename_i H L hH hL
        split at h
        · rename_i ev
          obtain ⟨rfl, rfl, hmx⟩ := ev
          cases mx with
          | some q => simp at hmx
          | none =>
          simp only [Dec.guard, Dec.sem] at h
          split at h
          · rename_i hb
            obtain ⟨h0, h1, h2, h3⟩ := of_decide_eq_true hb
            have h4 := hsub _ _ hrow
            simp only [Option.some.injEq] at h
            subst h
            refine Does.pure fun ρ a w I => ?_
            have hv : rel (envOf C ρ s.h w) (.ad id rv 0) (a.eval x) := hx ▸ I.ev x
            obtain ⟨_, row, e1, e2, e3⟩ := hv
            have e1 : s.h id = some row := e1
            rw [h4] at e1
            injection e1 with e1
            subst e1
            obtain ⟨b, e40, e5⟩ := e3 rfl
            have e40 : ρ id = .pointer (some ⟨b, 0, none⟩) := e40
            have e4 : blk (ρ id) = some b := by rw [e40]; rfl
            have hL' := bound_ok I hL
            have hH' := bound_ok I hH
            have hr := run_suba (o := o) hu hei (w := w) (ρ := a.eval) (L := L) (H := H) ho e5 (by cases lo <;> exact hL') (by cases hi <;> exact hH') h0 h1 h2
            refine ⟨_, hr, trivial, _, h4, Nat.le_refl _, fun _ => ⟨ety.k, xs, _, _, rfl, by omega, by omega, rfl, fun hl => ⟨b, e4, ?_⟩⟩⟩
            rw [if_neg (by omega), addr_add, hsz, Nat.zero_add]
          · simp at h
        · simp [Dec.sem] at h
      · simp [Dec.sem] at h
    · simp [Dec.sem] at h
  · rename_i id ver fl hx
    split at h
    · rename_i rv wr e k xs e2 by_ k' hrow ht
      obtain ⟨hu, ety, hety, hk⟩ := (hτ t _ ht).fits
      simp only [K.slice.injEq] at hk
      subst hk
      obtain ⟨ei, ez, hei, _, _, hsz, _⟩ := (hτ _ ety hety).i
      split at h
      · rename_i H L hH hL
        split at h
        · rename_i ev
          obtain ⟨rfl, rfl⟩ := ev
          simp only [Dec.guard, Dec.sem] at h
          split at h
          · rename_i hb
            obtain ⟨h0, h1, h2⟩ := of_decide_eq_true hb
            have h4 := hsub _ _ hrow
            have key : ∀ ρ a w, Inv C ρ s a w → (match mx with | none => True | some q => hi.isSome = true ∧ ∃ k, a.eval q = .int k H) → ∃ A m c, ρ id = .slice A xs.length c ∧ xs.length ≤ c ∧
                (execOp a.eval o).run P w = .ok (.value (.slice (if m = L.toNat then A else A.map (·.add (L.toNat * ety.k.cells))) (H.toNat - L.toNat) (m - L.toNat))) w ∧ H.toNat ≤ m ∧ (mx.isSome = true → m = H.toNat) ∧ (mx = none → m = c ∧ ∀ ad, A = some ad → ∃ b, ad = ⟨b, 0, none⟩) := by
              intro ρ a w I hM
              have hv : rel (envOf C ρ s.h w) (.slw id rv fl) (a.eval x) := hx ▸ I.ev x
              obtain ⟨e0, row, e1, e2, e3⟩ := hv
              have e1 : s.h id = some row := e1
              rw [h4] at e1
              injection e1 with e1
              subst e1
              obtain ⟨_, e5⟩ := e3 rfl
              have e5 : a.eval x = ρ id := e5
              obtain ⟨vals, g3, g4, g5, g6, g7⟩ := row_reads I h4
              obtain ⟨A, cap, g1, g2, gA⟩ := g7 (by rw [← e5]; exact e0.sl)
              rw [g1] at e5
              have hL' := bound_ok I hL
              have hH' := bound_ok I hH
              obtain ⟨m, hr, hm1, hm2⟩ := run_sub (o := o) hu hei (w := w) (ρ := a.eval) (A := A) (l := xs.length) (c := cap) (L := L) (H := H) ho e5 (by cases lo <;> exact hL') (by cases hi <;> exact hH') (by cases mx <;> exact hM) h0 h1 h2 g2
              exact ⟨A, m, cap, g1, g2, by rw [← hsz]; exact hr, hm1, hm2.1, fun h => ⟨hm2.2 h, gA⟩⟩
            cases mx with
            | none =>
              simp only [Dec.sem, Option.some.injEq] at h
              subst h
              refine Does.pure fun ρ a w I => ?_
              obtain ⟨A, m, c, g1, gc, hr, hm, _, hm3⟩ := key ρ a w I trivial
              obtain ⟨hmc, gA⟩ := hm3 rfl
              refine ⟨_, hr, trivial, _, h4, Nat.le_refl _, fun _ => ⟨by show isSl (ρ id); rw [g1]; trivial, ety.k, xs, _, _, rfl, by omega, by omega, rfl, fun hl => ?_, fun hL0 A' n' c' hc' => ?_⟩⟩
              · obtain ⟨vals, g3, g4, g5, g6, g7⟩ := row_reads I h4
                cases A with
                | none => have := (g5 (by rw [g1]; rfl)).2; subst this; simp at h2; omega
                | some ad =>
                  obtain ⟨b, rfl⟩ := gA ad rfl
                  refine ⟨b, by show blk (ρ id) = _; rw [g1]; rfl, ?_⟩
                  rw [if_neg (by omega)]
                  simp [addr_add]
              · have hc' : ρ id = .slice A' n' c' := hc'
                rw [g1] at hc'
                simp only [Value.slice.injEq] at hc'
                obtain ⟨rfl, _, rfl⟩ := hc'
                rw [hL0]
                refine ⟨?_, by omega⟩
                split
                · rfl
                · cases A with
                  | none => rfl
                  | some ad =>
                    obtain ⟨b, rfl⟩ := gA ad rfl
                    simp [addr_add]
            | some q =>
              simp only at h
              cases hM : intOf (s.ev q) with
              | none => simp [hM, Dec.sem] at h
              | some M =>
              cases hi with
              | none => simp [hM, Dec.sem] at h
              | some q' =>
                simp only [hM] at h
                by_cases hfl : fl = true ∧ lo.isNone = true
                · rw [if_pos hfl] at h
                  have hgood := h
                  clear h
                  obtain ⟨hfl, hlo⟩ := hfl
                  cases lo with
                  | some p => simp at hlo
                  | none =>
                    have hh := hgood
                    simp only [Dec.sem] at hh
                    split at hh
                    · rename_i hMH
                      obtain ⟨hMH, hHx⟩ := of_decide_eq_true hMH
                      subst hMH
                      simp only [Option.some.injEq] at hh
                      subst hh
                      refine Does.pure fun ρ a w I => ?_
                      obtain ⟨A, m, c, g1, gc, hr, hm, hm2, _⟩ := key ρ a w I ⟨rfl, rel_intOf hM (I.ev q)⟩
                      have hL0 : L = 0 := by simp only [bound, Option.some.injEq] at hL; exact hL.symm
                      subst hL0
                      have hm3 := hm2 rfl
                      subst hm3
                      have hv : rel (envOf C ρ s.h w) (.slw id rv fl) (a.eval x) := hx ▸ I.ev x
                      obtain ⟨hsf, row, e1, e2, e3⟩ := hv
                      have e1 : s.h id = some row := e1
                      rw [h4] at e1
                      injection e1 with e1
                      subst e1
                      obtain ⟨_, e5⟩ := e3 rfl
                      have e5 : a.eval x = ρ id := e5
                      have hc : xs.length = c := by rw [e5, g1] at hsf; exact hsf hfl
                      have hHn : M.toNat = xs.length := by rw [hHx]; simp
                      have hval : (Value.slice (if M.toNat = (0 : Int).toNat then A else A.map (·.add ((0 : Int).toNat * ety.k.cells))) (M.toNat - (0 : Int).toNat) (M.toNat - (0 : Int).toNat)) = ρ id := by
                        rw [g1, ← hc, hHn]
                        cases A <;> simp [Addr.add]
                      rw [hval] at hr
                      exact ⟨_, hr, by rw [g1, ← hc]; exact fun _ => rfl, _, h4, Nat.le_refl _, fun _ => ⟨trivial, rfl⟩⟩
                    · simp at hh
                · rw [if_neg hfl] at h
                  simp only [Dec.sem] at h
                  split at h
                  rotate_left
                  · simp at h
                  rename_i hMH
                  have hMH := of_decide_eq_true hMH
                  subst hMH
                  simp only [Option.some.injEq] at h
                  subst h
                  intro ρ a w I
                  obtain ⟨A, m, c, g1, gc, hr, hm, hm2, _⟩ := key ρ a w I ⟨rfl, rel_intOf hM (I.ev q)⟩
                  obtain ⟨I', mo⟩ := I.freeze1 h4
                  refine ⟨_, _, w, ρ, hr, .inl rfl, I', ?_⟩
                  have hr' := frozen_reads I' (id := id) (rv := rv) (ty := e) (xs := xs) (upd_same _ _ _) (by rw [g1]; trivial)
                  obtain ⟨A', c', q1, q2⟩ := hr'
                  rw [g1] at q1
                  simp only [Value.slice.injEq, true_and] at q1
                  obtain ⟨rfl, rfl⟩ := q1
                  have hm3 := hm2 rfl
                  subst hm3
                  have hlen : ((xs.take M.toNat).drop L.toNat).length = M.toNat - L.toNat := by rw [List.length_drop, List.length_take]; omega
                  exact ⟨_, by rw [hlen], RC_sub q2 (by omega) (by omega) (Nat.le_refl _)⟩
          · simp at h
        · simp [Dec.sem] at h
      · simp [Dec.sem] at h
    · simp [Dec.sem] at h
  · split at h
    · rename_i e by_ k ht
      obtain ⟨hu, ety, hety, hk⟩ := (hτ t _ ht).fits
      simp only [K.slice.injEq] at hk
      subst hk
      obtain ⟨ei, ez, hei, _, _, hsz, _⟩ := (hτ e ety hety).i
      split at h
      · rename_i xs hxs
        split at h
        · rename_i H L hH hL
          simp only [Dec.guard, Dec.sem] at h
          split at h
          · rename_i hb
            obtain ⟨h0, h1, h2⟩ := of_decide_eq_true hb
            have key : ∀ ρ a w, Inv C ρ s a w → (match mx with | none => True | some q => hi.isSome = true ∧ ∃ k, a.eval q = .int k H) → ∃ A c, (execOp a.eval o).run P w = .ok (.value (.slice A (H.toNat - L.toNat) c)) w ∧
                RC w (Rd C s.h ρ w) (.slice ety.k) ((xs.take H.toNat).drop L.toNat) [.slice A (H.toNat - L.toNat) c] ∧ (mx.isSome = true → c = H.toNat - L.toNat) := by
              intro ρ a w I hM
              have hv := rdSl_pure hxs (I.ev x)
              obtain ⟨A, cap, vals, he, hc, hl, hA⟩ := id hv
              simp only [List.cons.injEq, and_true] at he
              have hL' := bound_ok I hL
              have hH' := bound_ok I hH
              obtain ⟨m, hr, hm1, hm2⟩ := run_sub (o := o) hu hei (w := w) (ρ := a.eval) (A := A) (l := xs.length) (c := cap) (L := L) (H := H) ho he (by cases lo <;> exact hL') (by cases hi <;> exact hH') (by cases mx <;> exact hM) h0 h1 h2 hc
              rw [he] at hv
              rw [hsz] at hr
              exact ⟨_, _, hr, RC_sub hv (by omega) (by omega) hm1, fun hs => by rw [hm2.1 hs]⟩
            cases mx with
            | none =>
              simp only [Dec.sem, Option.some.injEq] at h
              subst h
              refine Does.pure fun ρ a w I => ?_
              obtain ⟨A, c, hr, hrc, _⟩ := key ρ a w I trivial
              exact ⟨_, hr, by show VR _ _ _ _ _; unfold VR; rw [if_neg (by simp [K.agg])]; exact hrc⟩
            | some q =>
              simp only at h
              cases hM : intOf (s.ev q) with
              | none => simp [hM, Dec.sem] at h
              | some M =>
              cases hi with
              | none => simp [hM, Dec.sem] at h
              | some q' =>
                simp only [hM, Dec.sem] at h
                split at h
                · rename_i hMH
                  have hMH := of_decide_eq_true hMH
                  subst hMH
                  simp only [Option.some.injEq] at h
                  subst h
                  refine Does.pure fun ρ a w I => ?_
                  obtain ⟨A, c, hr, hrc, hc⟩ := key ρ a w I ⟨rfl, rel_intOf hM (I.ev q)⟩
                  have hc := hc rfl
                  subst hc
                  have hlen : ((xs.take M.toNat).drop L.toNat).length = M.toNat - L.toNat := by rw [List.length_drop, List.length_take]; omega
                  exact ⟨_, hr, A, by rw [hlen], hrc⟩
                · simp at h
          · simp at h
        · simp [Dec.sem] at h
      · simp [Dec.sem] at h
    · simp [Dec.sem] at h
end Go.Proofs.Ytkgjchmfiohciaa.Den
