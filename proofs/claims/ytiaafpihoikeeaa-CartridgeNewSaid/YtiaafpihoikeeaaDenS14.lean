/- Strings as bytes; all operations but calls. -/
import Derived.Test.YtiaafpihoikeeaaDenS13
namespace Go.Proofs.Ytiaafpihoikeeaa.Den
open Go.RowKit
set_option linter.unusedVariables false
set_option linter.unusedSimpArgs false
variable {P : Program} {τ : Nat → Option Ty} {C : Cx} {s : St} {o : Oper} {E : Eff} {h' : Nat → Option Row}
theorem RL_ints' {w : World} {rd : Nat → Prop} {k : IntKind} : ∀ (xs : List Int), RL (RC w rd (.int k)) xs (xs.map (Value.int k))
  | [] => rfl
  | x :: xs => ⟨[.int k x], _, by simp, rfl, RL_ints' xs⟩
theorem does_bytes {ρ : Nat → Value} {a : Act} {w : World} (I : Inv C ρ s a w) (e : Nat) (str : ByteArray) :
    Inv C ρ s a (Lib.bytesWorld w e str) ∧ rel (envOf C ρ s.h (Lib.bytesWorld w e str)) (.p (.slice (.int .u8)) (bytesOf str)) (.slice (some ⟨w.heap.size, 0, none⟩) str.size (grownCap w str.size 0 e)) := by
  obtain ⟨I', m⟩ := I.grow (w' := Lib.bytesWorld w e str) ⟨rfl, rfl, rfl, by rw [Lib.bytesWorld_size]; omega, fun k hk _ => Lib.bytesWorld_at_old w e str k hk⟩
  refine ⟨I', ?_⟩
  show VR _ _ _ _ _
  unfold VR
  rw [if_neg (by simp [K.agg])]
  have hl : (bytesOf str).length = str.size := by simp [bytesOf]
  refine ⟨some ⟨w.heap.size, 0, none⟩, _, (bytesOf str).map (Value.int .u8), by rw [hl], by rw [hl]; exact grownCap_ge .., RL_ints' _, fun _ => ⟨w.heap.size, 0, rfl, ⟨by rw [Lib.bytesWorld_size]; omega, .inr I.fr.size, fun id r hr _ he => ?_⟩, fun j u hu => ?_⟩⟩
  · have := ((I.rows id r hr).blk_lt he).2
    simp only at this
    omega
  · have hj : j < str.size := by
      have := (List.getElem?_eq_some_iff.1 hu).1
      rw [List.length_map, hl] at this; exact this
    rw [Nat.zero_add, Lib.bytesWorld_cell w e str j hj, ← hu]
    have hj' : j < str.data.toList.length := by simpa using hj
    have hj2 : j < str.data.size := by simpa using hj'
    simp [bytesOf, List.getD, Array.getElem?_eq_getElem hj2]
theorem does_convert (hτ : TauOK P τ) (hsub : ∀ id row, h' id = some row → s.h id = some row) {sT dT : Nat} {x : Operand} (ho : o.op = .convert sT dT x) (h : (effS τ s.ev h' o).sem = some E) : Does P C s o E := by
  by_cases hsl : ∃ e by_ k, τ dT = some ⟨.slice e, by_, k⟩
  rotate_left
  · exact does_convert_pure hτ hsub ho (fun e by_ k hh => hsl ⟨e, by_, k, hh⟩) h
  obtain ⟨e, by_, k, hd⟩ := hsl
  have hdu := (hτ dT _ hd).fits.1
  unfold effS at h
  rw [ho] at h
  simp only [hd] at h
  split at h
  · rename_i heq _; simp at heq
  · rename_i heq _; simp at heq
  · rename_i heq _; simp at heq
  · rename_i sty e' by2 kk v hs heq hx
    simp only [Option.some.injEq, Ty.mk.injEq, TD.slice.injEq] at heq
    obtain ⟨rfl, rfl, rfl⟩ := heq
    split at h
    · rename_i by3 k3 he
      simp only [Dec.sem, Option.some.injEq] at h
      subst h
      have hsu : ∃ d, P.underlying sT = some d := by
        have := (hτ sT _ hs).fits
        cases hd' : sty.d <;> rw [hd'] at this <;> first | exact ⟨_, this.1⟩ | exact this.elim
      obtain ⟨d, hsu⟩ := hsu
      intro ρ a w I
      have hv : rel (envOf C ρ s.h w) (.p .str v) (a.eval x) := hx ▸ I.ev x
      rw [rel_str] at hv
      obtain ⟨I', hr⟩ := does_bytes I e v
      refine ⟨_, _, _, ρ, ?_, .inl rfl, I', hr⟩
      unfold execOp
      rw [ho]
      simp only [hv, Sem.run_bind, Lib.run_convert_string_bytes w sT dT e v hsu hdu (hτ e _ he).fits.1, Result.andThen_ok, Sem.run_pure]
    · simp [Dec.sem] at h
  · rename_i e1 by1 k1 e' by2 kk id ver fl hs heq hx
    simp only [Option.some.injEq, Ty.mk.injEq, TD.slice.injEq] at heq
    obtain ⟨rfl, rfl, rfl⟩ := heq
    split at h
    · rename_i by3 k3 rv ty y ys he hrow
      split at h
      · rename_i hc
        obtain ⟨rfl, rfl⟩ := hc
        simp only [Dec.sem, Option.some.injEq] at h
        subst h
        intro ρ a w I
        have h4 := hsub _ _ hrow
        have hv : rel (envOf C ρ s.h w) (.slw id rv fl) (a.eval x) := hx ▸ I.ev x
        obtain ⟨_, row, e1, e2, e3⟩ := hv
        have e1 : s.h id = some row := e1
        rw [h4] at e1
        injection e1 with e1
        subst e1
        obtain ⟨_, e5⟩ := e3 rfl
        have e5 : a.eval x = ρ id := e5
        obtain ⟨vals, hown, hl, _⟩ := I.rows id _ h4
        rcases hown.2 with ⟨_, hn0⟩ | ⟨g, cap, cur, hρ, hbg, hg, hnc, hcm, hcs, htake⟩
        · simp at hn0
        · have hg : w.heap[g]? = some (.cells cur ty (0, 0)) := hg
          have hlt := (Array.getElem?_eq_some_iff.1 hg).1
          let w' := w.freeze ⟨g, cur.size, none⟩ 1
          have hw' : ∀ j, j ≠ g → w'.heap[j]? = w.heap[j]? := by
            intro j hj
            simp only [w', World.freeze]
            simp [Array.getElem?_modify, Ne.symm hj]
          have hwg : w'.heap[g]? = some (.cells cur ty (cur.size, cur.size + 1)) := by
            simp only [w', World.freeze]
            simp [Array.getElem?_modify, hg]
          have hgr : w.grownBy w' (some g) := ⟨rfl, rfl, rfl, by simp [w', World.freeze], fun j _ hj => hw' j (fun e => hj (by rw [e]))⟩
          obtain ⟨I', m⟩ := Inv.change (C := C) I (id := id) (row' := ⟨rv + 1, false, ty, .list (.int .u8) []⟩) (v' := .slice none 0 0) (w' := w') (some g)
            (fun b hb => by simp only [Option.some.injEq] at hb; subst hb; exact ⟨_, h4, rfl, by rw [hρ]; rfl⟩) hgr
            (fun r hr => by rw [h4] at hr; injection hr with hr; subst hr; exact ⟨Nat.le_succ _, fun h => by simp at h⟩)
            (fun b hb => by simp [blk] at hb)
            (fun m => ⟨[], World.ownsRow_nil _ _ _ _, rfl, fun _ b hb => by simp [blk] at hb⟩)
          refine ⟨_, ρ id, w', _, ?_, .inl rfl, I', ?_⟩
          · unfold execOp
            rw [ho]
            have hsh : w.shape? g = some (ty, cur.size) := by simp [World.shape?, hg]
            have : (convert sT sT (ρ id)).run P w = .ok (ρ id) w' := by
              rw [hρ]
              simp [convert, run_underlying hdu, run_underlying (hτ e _ he).fits.1, markStringish, hsh, w']
            simp only [e5, Sem.run_bind, this, Result.andThen_ok, Sem.run_pure]
          · show VR _ _ _ _ _
            unfold VR
            rw [if_neg (by simp [K.agg])]
            refine ⟨some ⟨g, 0, none⟩, cap, vals, by rw [hρ], hnc, RL_imp (fun x c hx => RC_mono m.rd hx) hl, fun _ => ⟨g, 0, rfl, ⟨by rw [show w'.heap.size = w.heap.size by simp [w', World.freeze]]; exact hlt, .inr hbg, fun i r hr _ hb => ?_⟩, fun j u hu => ?_⟩⟩
            · have hr : upd s.h id _ i = some r := hr
              have hb : blk (upd ρ id (.slice none 0 0) i) = some g := hb
              by_cases e : i = id
              · subst e; rw [upd_same] at hb; simp [blk] at hb
              · rw [upd_other _ _ e] at hr hb
                exact e (I.inj i id r _ g hr h4 hb (by rw [hρ]; rfl))
            · rw [Nat.zero_add, cell_of_row w' g j cur ty _ hwg]
              rw [← htake, List.getElem?_take] at hu
              split at hu
              · simpa using hu
              · cases hu
      · simp [Dec.sem] at h
    · simp [Dec.sem] at h
  · simp [Dec.sem] at h
/-- All operations but calls of functions. -/
theorem effS_does (hτ : TauOK P τ) (hsub : ∀ id row, h' id = some row → s.h id = some row) (hd' : ∀ d, o.dst = some d → h' d = s.h d) (h : (effS τ s.ev h' o).sem = some E) : Does P C s o E := by
  cases ho : o.op with
  | move x => exact does_move (.inl ho) h
  | assign x => exact does_move (.inr ho) h
  | pick b x y => exact does_pick ho h
  | binOp op t x y t' => exact does_binOp hτ ho h
  | unOp op t x => exact does_unOp ho h
  | extract t i => exact does_extract ho h
  | fieldAddr t x f => exact does_fieldAddr hτ ho h
  | field t x f => exact does_field hτ ho h
  | indexAddr t x i => exact does_indexAddr hτ hsub ho h
  | index t x i => exact does_index hτ ho h
  | load t x => exact does_load hτ hsub ho h
  | convert a b x => exact does_convert hτ hsub ho h
  | slice t x lo hi mx => exact does_slice hτ hsub ho h
  | alloc e => exact does_alloc hτ hd' ho h
  | box e x => exact does_box hτ hd' ho h
  | makeSlice t x y => exact does_makeSlice hτ hd' ho h
  | build t ps => exact does_build hτ ho h
  | buildSlice t n ps => exact does_buildSlice hτ hsub hd' ho h
  | store t x y =>
    cases hx : s.ev x with
    | ad id ver off => exact does_store_ad hτ hsub ho hx h
    | el id ver n off => exact does_store_el hτ hsub ho hx h
    | _ => (unfold effS at h; rw [ho] at h; simp only [hx] at h; split at h <;> simp [Dec.sem] at h)
  | call c =>
    obtain ⟨callee, args, ts⟩ := c
    cases callee with
    | builtin b =>
      cases b with
      | len => exact does_len hτ hsub ho h
      | min => exact does_min ho h
      | max => exact does_max ho h
      | append => exact does_append hτ hsub hd' ho h
      | _ => (unfold effS at h; rw [ho] at h; simp [effCall, Dec.sem] at h)
    | _ => (unfold effS at h; rw [ho] at h; simp [Dec.sem] at h)
  | _ => (unfold effS at h; rw [ho] at h; simp [Dec.sem] at h)
end Go.Proofs.Ytiaafpihoikeeaa.Den
