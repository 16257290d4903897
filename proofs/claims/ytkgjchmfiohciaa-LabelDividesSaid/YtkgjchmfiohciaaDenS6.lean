/- Operations that leave memory as it is: what each does. -/
import Derived.Test.YtkgjchmfiohciaaDenS5
namespace Go.Proofs.Ytkgjchmfiohciaa.Den
open Go.RowKit
set_option linter.unusedVariables false
set_option linter.unusedSimpArgs false
variable {P : Program} {τ : Nat → Option Ty} {C : Cx} {s : St} {o : Oper} {E : Eff} {h' : Nat → Option Row}
theorem does_move {x : Operand} (ho : o.op = .move x ∨ o.op = .assign x) (h : (effS τ s.ev h' o).sem = some E) : Does P C s o E := by
  have : E = ⟨s.ev x, []⟩ := by
    rcases ho with ho | ho <;> (unfold effS at h; rw [ho] at h; simpa [Dec.sem] using h.symm)
  subst this
  refine Does.pure fun ρ a w I => ⟨a.eval x, ?_, I.ev x⟩
  rcases ho with ho | ho <;> (unfold execOp; rw [ho]; rfl)
theorem does_pick {b x y : Operand} (ho : o.op = .pick b x y) (h : (effS τ s.ev h' o).sem = some E) : Does P C s o E := by
  unfold effS at h
  rw [ho] at h
  simp only at h
  split at h
  · rename_i v hv
    simp only [Dec.sem] at h
    have hrun : ∀ a w ρ, Inv C ρ s a w → (execOp a.eval o).run P w = .ok (.value (if v = true then a.eval x else a.eval y)) w := by
      intro a w ρ I
      have hb : rel (envOf C ρ s.h w) (.p .bool v) (a.eval b) := hv ▸ I.ev b
      rw [rel_bool] at hb
      unfold execOp
      rw [ho]
      simp only [hb, asBool, Sem.run_bind, Sem.run_pure, Result.andThen_ok]
    cases v with
    | true =>
      simp only [Option.some.injEq] at h
      subst h
      exact Does.pure fun ρ a w I => ⟨a.eval x, by rw [hrun a w ρ I]; rfl, I.ev x⟩
    | false =>
      simp only [Option.some.injEq] at h
      subst h
      exact Does.pure fun ρ a w I => ⟨a.eval y, by rw [hrun a w ρ I]; rfl, I.ev y⟩
  · simp [Dec.sem] at h
theorem does_binOp (hτ : TauOK P τ) {op : BinOp} {t t' : Nat} {x y : Operand} (ho : o.op = .binOp op t x y t') (h : (effS τ s.ev h' o).sem = some E) : Does P C s o E := by
  unfold effS at h
  rw [ho] at h
  obtain ⟨h1, h2⟩ := binE_ok (P := P) hτ h
  obtain ⟨v, u⟩ := E
  simp only at h1
  subst h1
  refine Does.pure fun ρ a w I => ?_
  obtain ⟨r, hr, hrel⟩ := h2 _ x y (a.eval x) (a.eval y) w (I.ev x) (I.ev y)
  refine ⟨r, ?_, hrel⟩
  unfold execOp
  rw [ho]
  simp only [Sem.run_bind] at hr ⊢
  rw [hr]
  rfl
theorem does_unOp {op : UnOp} {t : Nat} {x : Operand} (ho : o.op = .unOp op t x) (h : (effS τ s.ev h' o).sem = some E) : Does P C s o E := by
  unfold effS at h
  rw [ho] at h
  cases op with
  | not =>
    simp only at h
    split at h
    · rename_i v hv
      simp only [Dec.sem, Option.some.injEq] at h
      subst h
      refine Does.pure fun ρ a w I => ⟨.bool (!v), ?_, by simp [rel, VR, K.agg, RC]⟩
      have hb : rel (envOf C ρ s.h w) (.p .bool v) (a.eval x) := hv ▸ I.ev x
      rw [rel_bool] at hb
      unfold execOp
      rw [ho]
      simp [hb, Op.unary]
    · simp [Dec.sem] at h
  | neg =>
    simp only at h
    split at h
    · rename_i k v hv
      simp only [Dec.sem, Option.some.injEq] at h
      subst h
      refine Does.pure fun ρ a w I => ⟨.int k (k.wrap (0 - v)), ?_, by simp [rel, VR, K.agg, RC]⟩
      have hb : rel (envOf C ρ s.h w) (.p (.int k) v) (a.eval x) := hv ▸ I.ev x
      rw [rel_int] at hb
      unfold execOp
      rw [ho]
      simp [hb, Op.unary, Op.intArith]
    · simp [Dec.sem] at h
  | xor =>
    simp only at h
    split at h
    · rename_i k v hv
      simp only [Dec.sem, Option.some.injEq] at h
      subst h
      refine Does.pure fun ρ a w I => ⟨.int k (k.wrap (BitVec.ofInt k.bits (allOnes k) ^^^ BitVec.ofInt k.bits v).toNat), ?_, by simp only [rel, VR, K.agg, RC]; simp⟩
      have hb : rel (envOf C ρ s.h w) (.p (.int k) v) (a.eval x) := hv ▸ I.ev x
      rw [rel_int] at hb
      unfold execOp
      rw [ho]
      simp only [hb, Op.unary, Op.intBits]
      rfl
    · simp [Dec.sem] at h
  | _ => simp [Dec.sem] at h
theorem evs_rel0 {ρ : Nat → Value} {a : Act} {w : World} (I : Inv C ρ s a w) : ∀ (l : List Operand), rels (envOf C ρ s.h w) (l.map s.ev) (l.map a.eval)
  | [] => rfl
  | x :: l => ⟨_, _, rfl, I.ev x, evs_rel0 I l⟩
theorem does_nilCheck {x : Operand} (ho : o.op = .nilCheck x) (h : (effS τ s.ev h' o).sem = some E) : Does P C s o E := by
  unfold effS at h
  rw [ho] at h
  simp only at h
  have key : ∀ A : AV, s.ev x = A → (∀ C' ρ (a : Act) w, Inv C' ρ s a w → isPtr (a.eval x)) → some (⟨A, []⟩ : Eff) = some E → Does P C s o E := by
    intro A hA hp h
    simp only [Option.some.injEq] at h
    subst h
    refine Does.pure fun ρ a w I => ?_
    obtain ⟨b, off, hv⟩ := hp C ρ a w I
    refine ⟨a.eval x, ?_, hA ▸ I.ev x⟩
    unfold execOp
    rw [ho]
    simp only [hv]
    rfl
  split at h
  · rename_i id ver off hx
    refine key _ hx (fun C' ρ a w I => ?_) h
    have hv : rel (envOf C' ρ s.h w) (.ad id ver off) (a.eval x) := hx ▸ I.ev x
    exact hv.1
  · rename_i id ver n off hx
    refine key _ hx (fun C' ρ a w I => ?_) h
    have hv : rel (envOf C' ρ s.h w) (.el id ver n off) (a.eval x) := hx ▸ I.ev x
    exact hv.1
  · rename_i k v hx
    refine key _ hx (fun C' ρ a w I => ?_) h
    have hv : rel (envOf C' ρ s.h w) (.fe k v) (a.eval x) := hx ▸ I.ev x
    obtain ⟨b, off, cs, he, _⟩ := hv
    exact ⟨b, off, he⟩
  · simp [Dec.sem] at h
theorem does_makeFunc {f : FuncId} {fs cs : Array Operand} (ho : o.op = .makeFunc (.func f) fs cs) (h : (effS τ s.ev h' o).sem = some E) : Does P C s o E := by
  unfold effS at h
  rw [ho] at h
  simp only at h
  split at h
  · rename_i he
    have he : fs = #[] := by simpa using he
    subst he
    simp only [Dec.sem, Option.some.injEq] at h
    subst h
    refine Does.pure fun ρ a w I => ⟨.func (.func f) #[] (cs.map a.eval), ?_, cs.map a.eval, rfl, by simpa using evs_rel0 I cs.toList⟩
    unfold execOp
    rw [ho]
    simp [Instr.makeFunc]
  · simp [Dec.sem] at h
theorem does_extract {t : Operand} {i : Nat} (ho : o.op = .extract t i) (h : (effS τ s.ev h' o).sem = some E) : Does P C s o E := by
  unfold effS at h
  rw [ho] at h
  simp only at h
  split at h
  · rename_i vs hv
    split at h
    · rename_i v hi
      simp only [Dec.sem, Option.some.injEq] at h
      subst h
      refine Does.pure fun ρ a w I => ?_
      have hb : rel (envOf C ρ s.h w) (.tup vs) (a.eval t) := hv ▸ I.ev t
      obtain ⟨c, hc, hr⟩ := hb
      obtain ⟨u, hu, hrel⟩ := rels_get hr hi
      refine ⟨u, ?_, hrel⟩
      unfold execOp
      rw [ho]
      simp only [hc, Instr.extract]
      have : c[i]? = some u := by rw [← hu]; simp
      simp [this]
    · simp [Dec.sem] at h
  · simp [Dec.sem] at h
theorem TyOK.fieldAt {t : Nat} {fs : List (Nat × Nat)} {by_ : Nat} {k : K} (h : TyOK P τ t ⟨.struct fs, by_, k⟩) {f off ft : Nat} (hf : fs[f]? = some (off, ft)) :
    ∃ fld, P.underlying t = some (.struct (P.fieldsOf t)) ∧ (P.fieldsOf t)[f]? = some fld ∧ fld.offset = off ∧ fld.type = ft ∧ ∃ i, P.info? ft = some i ∧ i.size ≠ 0 := by
  obtain ⟨h1, h2, h3, h4, h5, h6⟩ := h.fits
  rw [← h3, List.getElem?_map] at hf
  cases hfl : (P.fieldsOf t).toList[f]? with
  | none => rw [hfl] at hf; simp at hf
  | some fld =>
    rw [hfl] at hf
    simp only [Option.map_some, Option.some.injEq, Prod.mk.injEq] at hf
    have hm := List.mem_of_getElem? hfl
    have h7 := (h6 fld hm).2
    refine ⟨fld, h1, by simpa using hfl, hf.1, hf.2, ?_⟩
    rw [hf.2] at h7
    cases hi : P.info? ft with
    | none => rw [hi] at h7; simp at h7
    | some i => rw [hi] at h7; exact ⟨i, rfl, by simpa using h7⟩
theorem addr_add (b off n : Nat) : (⟨b, off, none⟩ : Addr).add n = ⟨b, off + n, none⟩ := by
  unfold Addr.add
  split
  · rename_i h; subst h; rfl
  · rfl
theorem does_fieldAddr (hτ : TauOK P τ) {t : Nat} {x : Operand} {f : Nat} (ho : o.op = .fieldAddr t x f) (h : (effS τ s.ev h' o).sem = some E) : Does P C s o E := by
  unfold effS at h
  rw [ho] at h
  simp only at h
  split at h
  · rename_i fs by_ k ht
    split at h
    · rename_i off ft hf
      obtain ⟨fld, g1, g2, g3, g4, i, g5, g6⟩ := (hτ t _ ht).fieldAt hf
      have hrun : ∀ (a : Act) (w : World) (b n : Nat), a.eval x = .pointer (some ⟨b, n, none⟩) → (execOp a.eval o).run P w = .ok (.value (.pointer (some ⟨b, n + off, none⟩))) w := by
        intro a w b n ha
        unfold execOp
        rw [ho]
        simp only [ha, Instr.fieldAt, Sem.run_bind, run_underlying g1, Result.andThen_ok, g2, Instr.sureAddr, Sem.run_pure, fieldPlace, run_sizeOf (w := w) (g4 ▸ g5)]
        simp [g6, g3, addr_add, run_sizeOf (w := w) (g4 ▸ g5)]
      split at h
      · rename_i id ver n hx
        simp only [Dec.sem, Option.some.injEq] at h
        subst h
        refine Does.pure fun ρ a w I => ?_
        have hv : rel (envOf C ρ s.h w) (.ad id ver n) (a.eval x) := hx ▸ I.ev x
        obtain ⟨⟨b, m, hb⟩, row, e1, e2, e3⟩ := hv
        refine ⟨_, hrun a w b m hb, ⟨b, m + off, rfl⟩, row, e1, e2, fun e => ?_⟩
        obtain ⟨b', e4, e5⟩ := e3 e
        rw [hb] at e5
        simp only [Value.pointer.injEq, Option.some.injEq, Addr.mk.injEq, and_true] at e5
        obtain ⟨rfl, rfl⟩ := e5
        exact ⟨b, e4, rfl⟩
      · rename_i id ver i n hx
        simp only [Dec.sem, Option.some.injEq] at h
        subst h
        refine Does.pure fun ρ a w I => ?_
        have hv : rel (envOf C ρ s.h w) (.el id ver i n) (a.eval x) := hx ▸ I.ev x
        obtain ⟨⟨b, m, hb⟩, row, e1, e2, e3⟩ := hv
        refine ⟨_, hrun a w b m hb, ⟨b, m + off, rfl⟩, row, e1, e2, fun e => ?_⟩
        obtain ⟨k', xs, b', e4, e5, e6, e7⟩ := e3 e
        rw [hb] at e7
        simp only [Value.pointer.injEq, Option.some.injEq, Addr.mk.injEq, and_true] at e7
        obtain ⟨rfl, rfl⟩ := e7
        exact ⟨k', xs, b, e4, e5, e6, by rw [Nat.add_assoc]⟩
      · rename_i kk v hx
        split at h
        · rename_i fty hft
          split at h
          · rename_i u hu
            simp only [Dec.sem, Option.some.injEq] at h
            subst h
            refine Does.pure fun ρ a w I => ?_
            have hv : rel (envOf C ρ s.h w) (.fe kk v) (a.eval x) := hx ▸ I.ev x
            obtain ⟨b, m, cs, ha, hc, hrd, hat⟩ := hv
            obtain ⟨p, c, q, rfl, hp, hrc⟩ := RC_proj _ _ _ _ _ _ hc hu
            refine ⟨_, hrun a w b m ha, b, m + off, c, rfl, hrc, fun hne => hrd (by simp [hne]), ?_⟩
            have := (At_app (At_app hat).1).2
            rwa [hp] at this
          · simp [Dec.sem] at h
        · simp [Dec.sem] at h
      · simp [Dec.sem] at h
    · simp [Dec.sem] at h
  · simp [Dec.sem] at h
end Go.Proofs.Ytkgjchmfiohciaa.Den
