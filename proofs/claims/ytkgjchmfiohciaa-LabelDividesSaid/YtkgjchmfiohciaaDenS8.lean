/- Operations on strings and slices that leave memory as it is. -/
import Derived.Test.YtkgjchmfiohciaaDenS7
namespace Go.Proofs.Ytkgjchmfiohciaa.Den
open Go.RowKit
set_option linter.unusedVariables false
set_option linter.unusedSimpArgs false
variable {P : Program} {τ : Nat → Option Ty} {C : Cx} {s : St} {o : Oper} {E : Eff} {h' : Nat → Option Row}
theorem intOf_some {v : AV} {n : Int} (h : intOf v = some n) : ∃ k, v = .p (.int k) n := by
  unfold intOf at h
  split at h
  · rename_i k m
    simp only [Option.some.injEq] at h
    subst h
    exact ⟨k, rfl⟩
  · cases h
theorem rel_intOf {R : RE} {v : AV} {n : Int} {u : Value} (h : intOf v = some n) (hv : rel R v u) : ∃ k, u = .int k n := by
  obtain ⟨k, rfl⟩ := intOf_some h
  exact ⟨k, rel_int.1 hv⟩
theorem does_index (hτ : TauOK P τ) {t : Nat} {x i : Operand} (ho : o.op = .index t x i) (h : (effS τ s.ev h' o).sem = some E) : Does P C s o E := by
  unfold effS at h
  rw [ho] at h
  simp only at h
  split at h
  · rename_i by_ k n str ht hn hx
    simp only [Dec.guard, Dec.sem] at h
    split at h
    · rename_i hb
      simp only [Option.some.injEq] at h
      subst h
      refine Does.pure fun ρ a w I => ?_
      have hv : rel (envOf C ρ s.h w) (.p .str str) (a.eval x) := hx ▸ I.ev x
      rw [rel_str] at hv
      obtain ⟨kk, hi⟩ := rel_intOf hn (I.ev i)
      have hb := of_decide_eq_true hb
      refine ⟨_, ?_, rel_int.2 rfl⟩
      unfold execOp
      rw [ho]
      simp only [hv, hi, Sem.run_bind, run_index_string w t str kk n (hτ t _ ht).fits.1]
      have hb' : 0 ≤ n ∧ n < (ByteArray.size str : Int) := hb
      rw [dif_pos hb']
      have h2 : n.toNat < str.data.size := by have := hb'.2; have h0 := hb'.1; show n.toNat < ByteArray.size str; omega
      have : (str.data.getD n.toNat 0) = str[n.toNat]'(h2) := by unfold Array.getD; rw [dif_pos h2]; rfl
      rw [this]
      rfl
    · simp at h
  · rename_i len e by_ m k n n' k' xs ht hn hx
    split at h
    · rename_i e1
      obtain ⟨rfl, rfl⟩ := e1
      obtain ⟨hu, ety, hety, hk, _⟩ := (hτ t _ ht).fits
      simp only [K.arr.injEq] at hk
      obtain ⟨_, rfl⟩ := hk
      simp only [Dec.guard, Dec.sem] at h
      split at h
      · rename_i hb
        simp only [Option.some.injEq] at h
        subst h
        obtain ⟨hb1, hb2⟩ := of_decide_eq_true hb
        refine Does.pure fun ρ a w I => ?_
        have hv : rel (envOf C ρ s.h w) (.p (.arr n' ety.k) xs) (a.eval x) := hx ▸ I.ev x
        have hv : VR w (Rd C s.h ρ w) (.arr n' ety.k) xs (a.eval x) := hv
        unfold VR at hv
        rw [if_pos (by rfl)] at hv
        obtain ⟨cs, ha, hlen, hl⟩ := hv
        have hlt : n.toNat < xs.length := by omega
        obtain ⟨p, c, q, hpc, hp, hcc⟩ := RL_get (m := ety.k.cells) (fun x c hx => RC_len hx) hl n.toNat (zero ety.k) hlt
        obtain ⟨kk, hi⟩ := rel_intOf hn (I.ev i)
        obtain ⟨ei, ez, hei, _, _, hsz, _⟩ := (hτ e ety hety).i
        obtain ⟨u, hr, hv⟩ := run_part (hτ e ety hety) w (w := w) hpc hp hcc
        refine ⟨u, ?_, hv.1⟩
        have hr : (part e cs (n.toNat * ety.k.cells)).run P w = .ok u w := by simpa using hr
        unfold execOp
        rw [ho]
        simp only [ha, hi, Instr.index, Sem.run_bind, asIntOf, Sem.run_pure, Result.andThen_ok, run_underlying hu]
        simp [hb1, hb2, run_sizeOf hei, hsz, hr]
      · simp at h
    · simp [Dec.sem] at h
  · simp [Dec.sem] at h
theorem elem_of {P : Program} {t e : Nat} (h : P.underlying t = some (.slice e)) : P.elem t = e := by simp [Program.elem, h]
theorem does_indexAddr (hτ : TauOK P τ) (hsub : ∀ id row, h' id = some row → s.h id = some row) {t : Nat} {x i : Operand} (ho : o.op = .indexAddr t x i) (h : (effS τ s.ev h' o).sem = some E) : Does P C s o E := by
  unfold effS at h
  rw [ho] at h
  simp only at h
  split at h
  · rename_i e by_ k n ht hn
    obtain ⟨hu, ety, hety, hk⟩ := (hτ t _ ht).fits
    simp only [K.slice.injEq] at hk
    subst hk
    obtain ⟨ei, ez, hei, _, _, hsz, _⟩ := (hτ e ety hety).i
    have hrun : ∀ (a : Act) (w : World) (A : Addr) (l c : Nat), a.eval x = .slice (some A) l c → (∃ kk, a.eval i = .int kk n) → 0 ≤ n → n < (l : Int) →
        (execOp a.eval o).run P w = .ok (.value (.pointer (some (A.add (n.toNat * ety.k.cells))))) w := by
      intro a w A l c ha ⟨kk, hi⟩ h0 h1
      unfold execOp
      rw [ho]
      simp only [ha, hi, Instr.indexAt, Sem.run_bind, asIntOf, Sem.run_pure, Result.andThen_ok, run_underlying hu]
      simp [h0, h1, run_sizeOf hei, hsz]
    have own : ∀ (id rv : Nat) (wr : Bool) (rt : Nat) (k' : K) (xs : List (T k')), h' id = some ⟨rv, wr, rt, .list k' xs⟩ → k' = ety.k → ∀ ρ a w, Inv C ρ s a w → ∀ (j : Nat) (l : Nat) (off : Nat) (A : Option Addr) (c : Nat), a.eval x = .slice A l c →
        (0 < l → ∃ b, blk (ρ id) = some b ∧ A = some ⟨b, off * k'.cells, none⟩) → 0 ≤ n → n < (l : Int) → off + l ≤ xs.length → ∃ u, (execOp a.eval o).run P w = .ok (.value u) w ∧ rel (envOf C ρ s.h w) (.el id rv (off + n.toNat) 0) u := by
      intro id rv wr rt k' xs hrow hk ρ a w I j l off A c ha hA h0 h1 hof
      obtain ⟨b, hb, rfl⟩ := hA (by omega)
      refine ⟨_, hrun a w _ l c ha (rel_intOf hn (I.ev i)) h0 h1, ?_⟩
      rw [addr_add]
      refine ⟨⟨_, _, rfl⟩, _, hsub _ _ hrow, Nat.le_refl _, fun _ => ⟨k', xs, b, rfl, by omega, hb, ?_⟩⟩
      rw [← hk, Nat.add_mul, Nat.add_zero]
    split at h
    · rename_i id ver fl hx
      split at h
      · rename_i rv wr rt k' xs hrow
        split at h
        · rename_i e1
          obtain ⟨rfl, hk⟩ := e1
          simp only [Dec.guard, Dec.sem] at h
          split at h
          · rename_i hb
            simp only [Option.some.injEq] at h
            subst h
            have hb := of_decide_eq_true hb
            refine Does.pure fun ρ a w I => ?_
            have hv : rel (envOf C ρ s.h w) (.slw id rv fl) (a.eval x) := hx ▸ I.ev x
            obtain ⟨e0, row, e1, e2, e3⟩ := hv
            have h4 := hsub _ _ hrow
            have e1 : s.h id = some row := e1
            rw [h4] at e1
            injection e1 with e1
            subst e1
            obtain ⟨_, e5⟩ := e3 rfl
            obtain ⟨vals, g3, g4, g5, g6, g7⟩ := row_reads I h4
            have e5 : a.eval x = ρ id := e5
            obtain ⟨A, cap, g1, g2, gA⟩ := g7 (by rw [← e5]; exact e0.sl)
            rw [g1] at e5
            have := own id rv wr rt k' xs hrow hk ρ a w I 0 xs.length 0 A cap e5 (fun hl => by
              cases A with
              | none => have := (g5 (by rw [g1]; rfl)).2; subst this; simp at hl
              | some ad =>
                obtain ⟨b, rfl⟩ := gA ad rfl
                exact ⟨b, by rw [g1]; rfl, by simp⟩) hb.1 hb.2 (by omega)
            simpa using this
          · simp at h
        · simp [Dec.sem] at h
      · simp [Dec.sem] at h
    · rename_i id ver off len hx
      split at h
      · rename_i rv wr rt k' xs hrow
        split at h
        · rename_i e1
          obtain ⟨rfl, hk⟩ := e1
          simp only [Dec.guard, Dec.sem] at h
          split at h
          · rename_i hb
            simp only [Option.some.injEq] at h
            subst h
            have hb := of_decide_eq_true hb
            refine Does.pure fun ρ a w I => ?_
            have hv : rel (envOf C ρ s.h w) (.sl id rv off len) (a.eval x) := hx ▸ I.ev x
            obtain ⟨_, row, e1, e2, e3⟩ := hv
            have h4 := hsub _ _ hrow
            have e1 : s.h id = some row := e1
            rw [h4] at e1
            injection e1 with e1
            subst e1
            obtain ⟨_, k2, xs2, A, cap, hb2, hof, hlc, he, hA, _⟩ := e3 rfl
            simp only [RowB.list.injEq] at hb2
            obtain ⟨rfl, hb2⟩ := hb2
            have hb2 := eq_of_heq hb2
            subst hb2
            exact own id rv wr rt k' xs hrow hk ρ a w I 0 len off A cap he hA hb.1 hb.2 hof
          · simp at h
        · simp [Dec.sem] at h
      · simp [Dec.sem] at h
    · split at h
      · rename_i xs hxs
        simp only [Dec.guard, Dec.sem] at h
        split at h
        · rename_i hb
          simp only [Option.some.injEq] at h
          subst h
          have hb := of_decide_eq_true hb
          refine Does.pure fun ρ a w I => ?_
          have hv := rdSl_pure hxs (I.ev x)
          obtain ⟨A, cap, vals, he, hc, hl, hA⟩ := hv
          simp only [List.cons.injEq, and_true] at he
          have hlt : n.toNat < xs.length := by have := hb.1; have := hb.2; omega
          obtain ⟨p, c, q, rfl, hp, hcc⟩ := RL_get (m := ety.k.cells) (fun x c hx => RC_len hx) hl n.toNat (zero ety.k) hlt
          have hpos := (hτ e ety hety).pos
          have hcl := RC_len hcc
          have hne : p ++ c ++ q ≠ [] := by
            intro e
            have := congrArg List.length e
            simp only [List.length_append, List.length_nil] at this
            omega
          obtain ⟨b, off, rfl, hrd, hat⟩ := hA hne
          refine ⟨_, hrun a w _ _ _ he (rel_intOf hn (I.ev i)) hb.1 hb.2, ?_⟩
          rw [addr_add]
          refine ⟨b, _, c, rfl, hcc, fun _ => hrd, ?_⟩
          have := (At_app (At_app hat).1).2
          rwa [hp] at this
        · simp at h
      · simp [Dec.sem] at h
  · rename_i len e by_ m k n ht hn
    obtain ⟨hu, ety, hety, hk, _⟩ := (hτ t _ ht).fits
    simp only [K.arr.injEq] at hk
    obtain ⟨_, rfl⟩ := hk
    obtain ⟨ei, ez, hei, _, _, hsz, _⟩ := (hτ e ety hety).i
    have hrun : ∀ (a : Act) (w : World) (A : Addr), a.eval x = .pointer (some A) → (∃ kk, a.eval i = .int kk n) → 0 ≤ n → n < (len : Int) →
        (execOp a.eval o).run P w = .ok (.value (.pointer (some (A.add (n.toNat * ety.k.cells))))) w := by
      intro a w A ha ⟨kk, hi⟩ h0 h1
      unfold execOp
      rw [ho]
      simp only [ha, hi, Instr.indexAt, Instr.sureAddr, Sem.run_bind, asIntOf, Sem.run_pure, Result.andThen_ok, run_underlying hu]
      simp [h0, h1, run_sizeOf hei, hsz]
    split at h
    · rename_i id ver hx
      split at h
      · rename_i rv wr rt k' xs hrow
        split at h
        · rename_i e1
          obtain ⟨rfl, hk⟩ := e1
          simp only [Dec.guard, Dec.sem] at h
          split at h
          · rename_i hb
            simp only [Option.some.injEq] at h
            subst h
            obtain ⟨hb1, hb2, hb3⟩ := of_decide_eq_true hb
            refine Does.pure fun ρ a w I => ?_
            have hv : rel (envOf C ρ s.h w) (.ad id rv 0) (a.eval x) := hx ▸ I.ev x
            obtain ⟨_, row, e1, e2, e3⟩ := hv
            have h4 := hsub _ _ hrow
            have e1 : s.h id = some row := e1
            rw [h4] at e1
            injection e1 with e1
            subst e1
            obtain ⟨b, e40, e5⟩ := e3 rfl
            have e40 : ρ id = .pointer (some ⟨b, 0, none⟩) := e40
            have e4 : blk (ρ id) = some b := by rw [e40]; rfl
            refine ⟨_, hrun a w _ e5 (rel_intOf hn (I.ev i)) hb1 hb2, ?_⟩
            rw [addr_add]
            refine ⟨⟨_, _, rfl⟩, _, h4, Nat.le_refl _, fun _ => ⟨k', xs, b, rfl, by omega, e4, ?_⟩⟩
            rw [← hk, Nat.add_zero, Nat.zero_add]
          · simp at h
        · simp [Dec.sem] at h
      · simp [Dec.sem] at h
    · rename_i n' k' xs hx
      split at h
      · rename_i e1
        obtain ⟨rfl, rfl⟩ := e1
        simp only [Dec.guard, Dec.sem] at h
        split at h
        · rename_i hb
          simp only [Option.some.injEq] at h
          subst h
          obtain ⟨hb1, hb2⟩ := of_decide_eq_true hb
          refine Does.pure fun ρ a w I => ?_
          have hv : rel (envOf C ρ s.h w) (.fe (.arr n' ety.k) xs) (a.eval x) := hx ▸ I.ev x
          obtain ⟨b, off, cs, ha, ⟨hlen, hl⟩, hrd, hat⟩ := hv
          have hlt : n.toNat < xs.length := by omega
          obtain ⟨p, c, q, rfl, hp, hcc⟩ := RL_get (m := ety.k.cells) (fun x c hx => RC_len hx) hl n.toNat (zero ety.k) hlt
          have hpos := (hτ e ety hety).pos
          have hcl := RC_len hcc
          have hne : p ++ c ++ q ≠ [] := by
            intro e
            have := congrArg List.length e
            simp only [List.length_append, List.length_nil] at this
            omega
          refine ⟨_, hrun a w _ ha (rel_intOf hn (I.ev i)) hb1 hb2, ?_⟩
          rw [addr_add]
          refine ⟨b, _, c, rfl, hcc, fun _ => hrd hne, ?_⟩
          have := (At_app (At_app hat).1).2
          rwa [hp] at this
        · simp at h
      · simp [Dec.sem] at h
    · simp [Dec.sem] at h
  · simp [Dec.sem] at h
theorem toK_str (l : List Int) : strOf l = strOfNums l := rfl
theorem RL_ints {w : World} {rd : Nat → Prop} {k : IntKind} : ∀ {xs : List Int} {l : List Value}, RL (RC w rd (.int k)) xs l → l = xs.map (Value.int k)
  | [], l, h => h
  | x :: xs, l, h => by
    obtain ⟨c, l', rfl, h1, h2⟩ := h
    simp only [RC] at h1
    subst h1
    simp [RL_ints h2]
theorem does_convert_pure (hτ : TauOK P τ) (hsub : ∀ id row, h' id = some row → s.h id = some row) {sT dT : Nat} {x : Operand} (ho : o.op = .convert sT dT x) (hnot : ∀ e by_ k, τ dT ≠ some ⟨.slice e, by_, k⟩) (h : (effS τ s.ev h' o).sem = some E) : Does P C s o E := by
  unfold effS at h
  rw [ho] at h
  simp only at h
  split at h
  · rename_i sty k by_ kk ki n hs hd hx
    simp only [Dec.sem, Option.some.injEq] at h
    subst h
    refine Does.pure fun ρ a w I => ?_
    have hv : rel (envOf C ρ s.h w) (.p (.int ki) n) (a.eval x) := hx ▸ I.ev x
    rw [rel_int] at hv
    refine ⟨_, ?_, rel_int.2 rfl⟩
    have hsu : ∃ d, P.underlying sT = some d := by
      have := (hτ sT _ hs).fits
      cases hd' : sty.d <;> rw [hd'] at this <;> first | exact ⟨_, this.1⟩ | exact this.elim
    obtain ⟨d, hsu⟩ := hsu
    unfold execOp
    rw [ho]
    simp [hv, convert, run_underlying hsu, run_underlying (hτ dT _ hd).fits.1, Conv.intToInt]
  · rename_i sty by_ kk v hs hd hx
    simp only [Dec.sem, Option.some.injEq] at h
    subst h
    refine Does.pure fun ρ a w I => ?_
    have hv : rel (envOf C ρ s.h w) (.p .str v) (a.eval x) := hx ▸ I.ev x
    rw [rel_str] at hv
    refine ⟨_, ?_, rel_str.2 rfl⟩
    have hsu : ∃ d, P.underlying sT = some d := by
      have := (hτ sT _ hs).fits
      cases hd' : sty.d <;> rw [hd'] at this <;> first | exact ⟨_, this.1⟩ | exact this.elim
    obtain ⟨d, hsu⟩ := hsu
    unfold execOp
    rw [ho]
    simp [hv, convert, run_underlying hsu, run_underlying (hτ dT _ hd).fits.1]
  · rename_i e by1 k1 by2 k2 hs hd hnn
    split at h
    · rename_i by3 k3 he
      split at h
      · rename_i l hl
        simp only [Dec.sem, Option.some.injEq] at h
        subst h
        refine Does.pure fun ρ a w I => ?_
        obtain ⟨A, cap, vals, hv, hc, hr, hA⟩ := rdSl_reads I hsub hl (I.ev x)
        have hvals := RL_ints hr
        refine ⟨.string (strOf l), ?_, rel_str.2 rfl⟩
        unfold execOp
        rw [ho]
        cases l with
        | nil =>
          simp only [hv, List.length_nil]
          have : (convert sT dT (.slice A 0 cap)).run P w = .ok (.string ByteArray.empty) w := by
            rw [run_convert_bytes_string w sT dT e A 0 cap (hτ sT _ hs).fits.1 (hτ e _ he).fits.1 (hτ dT _ hd).fits.1]
            cases A <;> simp [Conv.bytesToString, loadCells, loadCellsFrom]
          simp only [Sem.run_bind, this, Result.andThen_ok, Sem.run_pure]
          rfl
        | cons y ys =>
          obtain ⟨b, off, rfl, hat⟩ := hA (by rw [hvals]; simp)
          have := run_convert_bytes_arg (P := P) w sT e (hτ sT _ hs).fits.1 (hτ e _ he).fits.1 b off (y :: ys).length cap (y :: ys) rfl (fun i hi => by
            have := hat i (.int .u8 ((y :: ys).getD i 0)) (by rw [hvals, List.getElem?_map, List.getElem?_eq_getElem hi]; simp [List.getD, List.getElem?_eq_getElem hi])
            exact this) dT (hτ dT _ hd).fits.1
          simp only [hv, Sem.run_bind, this, Result.andThen_ok, Sem.run_pure]
          rfl
      · simp [Dec.sem] at h
    · simp [Dec.sem] at h
  · rename_i e by_ kk v hs hd hx
    exact absurd hd (hnot _ _ _)
  · rename_i hd _
    exact absurd hd (hnot _ _ _)
  · simp [Dec.sem] at h
end Go.Proofs.Ytkgjchmfiohciaa.Den
