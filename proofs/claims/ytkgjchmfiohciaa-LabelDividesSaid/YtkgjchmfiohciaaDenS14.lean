/- Strings as bytes; all operations but calls. -/
import Derived.Test.YtkgjchmfiohciaaDenS13
import Derived.Laws.IdiomCopy
import Derived.Laws.CopyRow
namespace Go.Proofs.Ytkgjchmfiohciaa.Den
open Go.RowKit
set_option linter.unusedVariables false
set_option linter.unusedSimpArgs false
variable {P : Program} {τ : Nat → Option Ty} {C : Cx} {s : St} {o : Oper} {E : Eff} {h' : Nat → Option Row}
theorem RL_ints' {w : World} {rd : Nat → Prop} {k : IntKind} : ∀ (xs : List Int), RL (RC w rd (.int k)) xs (xs.map (Value.int k))
  | [] => rfl
  | x :: xs => ⟨[.int k x], _, by simp, rfl, RL_ints' xs⟩
theorem does_bytes {ρ : Nat → Value} {a : Act} {w : World} (I : Inv C ρ s a w) (e : Nat) (str : ByteArray) :
    Inv C ρ s a (Lib.bytesWorld w e str) ∧ rel (envOf C ρ s.h (Lib.bytesWorld w e str)) (.p (.slice (.int .u8)) (bytesOf str)) (.slice (some ⟨w.heap.size, 0, none⟩) str.size (grownCap w str.size 0 e)) := by
  obtain ⟨I', m⟩ := I.grow (w' := Lib.bytesWorld w e str) ⟨rfl, rfl, rfl, by rw [Lib.bytesWorld_size]; omega, fun k hk _ => Lib.bytesWorld_at_old w e str k hk⟩
  refine ⟨I', ?_⟩
  show VR _ _ _ _ _
  unfold VR
  rw [if_neg (by simp [K.agg])]
  have hl : (bytesOf str).length = str.size := by simp [bytesOf]
  refine ⟨some ⟨w.heap.size, 0, none⟩, _, (bytesOf str).map (Value.int .u8), by rw [hl], by rw [hl]; exact grownCap_ge .., RL_ints' _, fun _ => ⟨w.heap.size, 0, rfl, ⟨by rw [Lib.bytesWorld_size]; omega, (.inr (.inl I.fr.size)), fun id r hr _ he => ?_⟩, fun j u hu => ?_⟩⟩
  · have := ((I.rows id r hr).blk_lt he).2
    simp only at this
    omega
  · have hj : j < str.size := by
      have := (List.getElem?_eq_some_iff.1 hu).1
      rw [List.length_map, hl] at this; exact this
    rw [Nat.zero_add, Lib.bytesWorld_cell w e str j hj, ← hu]
    have hj' : j < str.data.toList.length := by simpa using hj
    have hj2 : j < str.data.size := by simpa using hj'
    simp [bytesOf, List.getD, Array.getElem?_eq_getElem hj2]
theorem does_convert (hτ : TauOK P τ) (hsub : ∀ id row, h' id = some row → s.h id = some row) {sT dT : Nat} {x : Operand} (ho : o.op = .convert sT dT x) (h : (effS τ s.ev h' o).sem = some E) : Does P C s o E := by
  by_cases hsl : ∃ e by_ k, τ dT = some ⟨.slice e, by_, k⟩
  rotate_left
  · exact does_convert_pure hτ hsub ho (fun e by_ k hh => hsl ⟨e, by_, k, hh⟩) h
  obtain ⟨e, by_, k, hd⟩ := hsl
  have hdu := (hτ dT _ hd).fits.1
  unfold effS at h
  rw [ho] at h
  simp only [hd] at h
  split at h
  · rename_i heq _; simp at heq
  · rename_i heq _; simp at heq
  · rename_i heq _; simp at heq
  · rename_i sty e' by2 kk v hs heq hx
    simp only [Option.some.injEq, Ty.mk.injEq, TD.slice.injEq] at heq
    obtain ⟨rfl, rfl, rfl⟩ := heq
    split at h
    · rename_i by3 k3 he
      simp only [Dec.sem, Option.some.injEq] at h
      subst h
      have hsu : ∃ d, P.underlying sT = some d := by
        have := (hτ sT _ hs).fits
        cases hd' : sty.d <;> rw [hd'] at this <;> first | exact ⟨_, this.1⟩ | exact this.elim
      obtain ⟨d, hsu⟩ := hsu
      intro ρ a w I
      have hv : rel (envOf C ρ s.h w) (.p .str v) (a.eval x) := hx ▸ I.ev x
      rw [rel_str] at hv
      obtain ⟨I', hr⟩ := does_bytes I e v
      refine ⟨_, _, _, ρ, ?_, .inl rfl, I', hr⟩
      unfold execOp
      rw [ho]
      simp only [hv, Sem.run_bind, Lib.run_convert_string_bytes w sT dT e v hsu hdu (hτ e _ he).fits.1, Result.andThen_ok, Sem.run_pure]
    · simp [Dec.sem] at h
  · rename_i e1 by1 k1 e' by2 kk id ver fl hs heq hx
    simp only [Option.some.injEq, Ty.mk.injEq, TD.slice.injEq] at heq
    obtain ⟨rfl, rfl, rfl⟩ := heq
    split at h
    · rename_i by3 k3 rv ty y ys he hrow
      split at h
      · rename_i hc
        obtain ⟨rfl, rfl⟩ := hc
        simp only [Dec.sem, Option.some.injEq] at h
        subst h
        intro ρ a w I
        have h4 := hsub _ _ hrow
        have hv : rel (envOf C ρ s.h w) (.slw id rv fl) (a.eval x) := hx ▸ I.ev x
        obtain ⟨e0, row, e1, e2, e3⟩ := hv
        have e1 : s.h id = some row := e1
        rw [h4] at e1
        injection e1 with e1
        subst e1
        obtain ⟨_, e5⟩ := e3 rfl
        have e5 : a.eval x = ρ id := e5
        obtain ⟨vals, hown, hl, _⟩ := I.rows id _ h4
        have hown0 : World.holds w C.own ty (K.int .u8).cells (ρ id) (y :: ys).length vals := hown
        have hbg' : ∀ b, blk (ρ id) = some b → C.own b := fun b hb => (hown0.own_of hb).1
        have hown := hown0.ownsRow (by rw [← e5]; exact e0.sl)
        rcases hown.2 with ⟨_, hn0⟩ | ⟨g, cap, cur, hρ, hbg, hg, hnc, hcm, hcs, htake⟩
        · simp at hn0
        · have hg : w.heap[g]? = some (.cells cur ty (0, 0)) := hg
          have hlt := (Array.getElem?_eq_some_iff.1 hg).1
          let w' := w.freeze ⟨g, cur.size, none⟩ 1
          have hw' : ∀ j, j ≠ g → w'.heap[j]? = w.heap[j]? := by
            intro j hj
            simp only [w', World.freeze]
            simp [Array.getElem?_modify, Ne.symm hj]
          have hwg : w'.heap[g]? = some (.cells cur ty (cur.size, cur.size + 1)) := by
            simp only [w', World.freeze]
            simp [Array.getElem?_modify, hg]
          have hgr : w.grownBy w' (some g) := ⟨rfl, rfl, rfl, by simp [w', World.freeze], fun j _ hj => hw' j (fun e => hj (by rw [e]))⟩
          obtain ⟨I', m⟩ := Inv.change (C := C) I (id := id) (row' := ⟨rv + 1, false, ty, .list (.int .u8) []⟩) (v' := .slice none 0 0) (w' := w') (some g)
            (fun b hb => by simp only [Option.some.injEq] at hb; subst hb; exact ⟨_, h4, rfl, by rw [hρ]; rfl⟩) hgr
            (fun r hr => by rw [h4] at hr; injection hr with hr; subst hr; exact ⟨Nat.le_succ _, fun h => by simp at h⟩)
            (fun b hb => by simp [blk] at hb)
            (fun m => ⟨[], ⟨by simp, .inl ⟨rfl, rfl⟩⟩, rfl, fun _ b hb => by simp [blk] at hb⟩)
          refine ⟨_, ρ id, w', _, ?_, .inl rfl, I', ?_⟩
          · unfold execOp
            rw [ho]
            have hsh : w.shape? g = some (ty, cur.size) := by simp [World.shape?, hg]
            have : (convert sT sT (ρ id)).run P w = .ok (ρ id) w' := by
              rw [hρ]
              simp [convert, run_underlying hdu, run_underlying (hτ e _ he).fits.1, markStringish, hsh, w']
            simp only [e5, Sem.run_bind, this, Result.andThen_ok, Sem.run_pure]
          · show VR _ _ _ _ _
            unfold VR
            rw [if_neg (by simp [K.agg])]
            refine ⟨some ⟨g, 0, none⟩, cap, vals, by rw [hρ], hnc, RL_imp (fun x c hx => RC_mono m.rd hx) hl, fun _ => ⟨g, 0, rfl, ⟨by rw [show w'.heap.size = w.heap.size by simp [w', World.freeze]]; exact hlt, .inr (hbg' g (by rw [hρ]; rfl)), fun i r hr _ hb => ?_⟩, fun j u hu => ?_⟩⟩
            · have hr : upd s.h id _ i = some r := hr
              have hb : blk (upd ρ id (.slice none 0 0) i) = some g := hb
              by_cases e : i = id
              · subst e; rw [upd_same] at hb; simp [blk] at hb
              · rw [upd_other _ _ e] at hr hb
                exact e (I.inj i id r _ g hr h4 hb (by rw [hρ]; rfl))
            · rw [Nat.zero_add, cell_of_row w' g j cur ty _ hwg]
              rw [← htake, List.getElem?_take] at hu
              split at hu
              · simpa using hu
              · cases hu
      · simp [Dec.sem] at h
    · simp [Dec.sem] at h
  · simp [Dec.sem] at h
theorem does_slap (hτ : TauOK P τ) {t : Nat} {x : Operand} (ho : o.op = .sliceToArrayPointer t x) (h : (effS τ s.ev h' o).sem = some E) : Does P C s o E := by
  unfold effS at h
  rw [ho] at h
  simp only at h
  split at h
  · rename_i n e by_ n' k ht
    obtain ⟨hu, ety, hety, hk, _⟩ := (hτ t _ ht).fits
    simp only [K.arr.injEq] at hk
    obtain ⟨_, rfl⟩ := hk
    split at h
    · rename_i xs hxs
      split at h
      · rename_i hc
        obtain ⟨rfl, hn⟩ := hc
        simp only [Dec.guard, Dec.sem] at h
        split at h
        · rename_i hb
          have hb := of_decide_eq_true hb
          simp only [Option.some.injEq] at h
          subst h
          refine Does.pure fun ρ a w I => ?_
          obtain ⟨A, cap, vals, he, hcp, hl, hA⟩ := rdSl_pure hxs (I.ev x)
          simp only [List.cons.injEq, and_true] at he
          have hpos := (hτ e ety hety).pos
          have hvl : vals.length = xs.length * ety.k.cells := RL_len (fun x c hx => RC_len hx) hl
          have hne : vals ≠ [] := by
            intro e
            rw [e] at hvl
            have : 0 < xs.length * ety.k.cells := Nat.mul_pos (by omega) hpos
            simp at hvl
            omega
          obtain ⟨b, off, rfl, hrd, hat⟩ := hA hne
          refine ⟨.pointer (some ⟨b, off, none⟩), ?_, b, off, vals.take (n' * ety.k.cells), rfl, ⟨by rw [List.length_take]; omega, RL_take (fun x c hx => RC_len hx) n' hl⟩, fun _ => hrd, fun j u hu => ?_⟩
          · unfold execOp
            rw [ho]
            simp only [he, Instr.arrayAt, Sem.run_bind, run_underlying hu, Result.andThen_ok]
            rw [if_neg (by omega)]
            rfl
          · rw [List.getElem?_take] at hu
            split at hu
            · exact hat j u hu
            · cases hu
        · simp at h
      · simp [Dec.sem] at h
    · simp [Dec.sem] at h
  · simp [Dec.sem] at h
theorem run_copy_empty (w : World) {dT sT ty elem : TypeId} {i : TypeInfo} {d a : Option Addr} {dLen dCap sLen sCap : Nat} (hu : P.underlying dT = some (.slice elem)) (hi : P.info? elem = some i) (h1 : i.size = 1) (hn : min sLen dLen = 0) :
    (Builtin.copy_ #[dT, sT] ty #[.slice d dLen dCap, .slice a sLen sCap]).run P w = .ok (goInt 0) w := run_copy_none w dT sT ty elem d a dLen dCap sLen sCap hu (by rw [hi]; simp [h1]) hn
theorem cpy_length {α : Type} (xs ys : List α) (off len : Nat) (h : off + len ≤ xs.length) : (cpy xs ys off len).length = xs.length := by
  unfold cpy
  simp only [List.length_append, List.length_take, List.length_drop]
  omega
/-- Elements are copied into a row of the call's own. -/
theorem copy_ok {ρ : Nat → Value} {a : Act} {w : World} (I : Inv C ρ s a w) {dT sT ty elem : TypeId} {i : TypeInfo} (hu : P.underlying dT = some (.slice elem)) (hi : P.info? elem = some i) {k : K} (hk : k.cells = 1) (his : i.size = k.cells)
    {id rv rt : Nat} {xs ys : List (T k)} (h4 : s.h id = some ⟨rv, true, rt, .list k xs⟩) {off len c : Nat} {A : Option Addr} (hof : off + len ≤ xs.length)
    (hA : 0 < len → ∃ b, blk (ρ id) = some b ∧ A = some ⟨b, off * k.cells, none⟩) {u : Value} (hys : SlR w (Rd C s.h ρ w) k ys u) :
    ∃ w', (Builtin.copy_ #[dT, sT] ty #[.slice A len c, u]).run P w = .ok (.int .i64 (min (ys.length : Int) (len : Int))) w' ∧ Inv C ρ ⟨s.t, upd s.h id (some ⟨rv, true, rt, .list k (cpy xs ys off len)⟩)⟩ a w' := by
  obtain ⟨B, cap, vals, rfl, hyc, hl, hB⟩ := hys
  obtain ⟨olds, hown, hlo, _⟩ := I.rows id _ h4
  have hown0 : World.holds w C.own rt k.cells (ρ id) xs.length olds := hown
  have hvl : vals.length = ys.length := by rw [RL_len (m := 1) (fun x c hx => by rw [RC_len hx, hk]) hl]; omega
  have same : min ys.length len = 0 → cpy xs ys off len = xs := by
    intro h0
    unfold cpy
    rw [h0]
    simp
  by_cases h0 : min ys.length len = 0
  · refine ⟨w, ?_, ?_⟩
    · rw [run_copy_empty (P := P) w hu hi (by rw [his, hk]) h0, show min (ys.length : Int) (len : Int) = 0 by omega]
      rfl
    · rw [same h0]
      have hc := (Inv.change (C := C) I (id := id) (row' := ⟨rv, true, rt, .list k xs⟩) (v' := ρ id) (w' := w) none (by simp) (grownBy_refl w none)
        (fun r hr => by rw [h4] at hr; injection hr with hr; subst hr; exact ⟨Nat.le_refl _, fun _ => ⟨RowB.like_refl _, rfl⟩⟩)
        (fun b hb => .inl ⟨_, h4, hb, fun h => h⟩) (fun m => (I.rows id _ h4).mono m (fun _ _ => rfl))).1
      rw [upd_id] at hc
      exact hc
  · obtain ⟨b, hb, rfl⟩ := hA (by omega)
    have hne : vals ≠ [] := by rintro rfl; simp at hvl; omega
    obtain ⟨b2, o2, rfl, hat⟩ := hB hne
    rcases hown0.2 with ⟨he, hn⟩ | ⟨g, cp, cur, he, hog, hg, hnc, hcm, hcs, htk⟩
    · rw [he] at hb; simp [blk] at hb
    have hgb : g = b := by
      rcases he with he | ⟨he, _⟩
      · rw [he] at hb; simpa [blk] using hb
      · rw [he] at hb; simpa [blk] using hb
    subst hgb
    have hsl : (vals.take (min ys.length len)).length = min ys.length len := by rw [List.length_take, hvl]; omega
    have hol : olds.length = xs.length := by rw [hown0.1, hk]; omega
    have hcl : cur.toList.length = cur.size := by simp
    have hcz : cur.size = cp := by rw [hcs, hk]; omega
    have hr := run_copy_row (P := P) w dT sT ty elem g (off * k.cells) len c ⟨b2, o2, none⟩ ys.length cap cur rt (vals.take (min ys.length len)) hu (by rw [hi]; simp [his, hk]) hg (by rw [hsl])
      (fun j v hv => by
        rw [addr_add]
        rw [List.getElem?_take] at hv
        split at hv
        · exact hat j v hv
        · cases hv) (by rw [hsl, hk, hcz]; omega) (fun v hv => RL_one (fun x c hx => RC_one hx) hl v (List.mem_of_mem_take hv))
    have hseg : olds = olds.take off ++ ([] ++ (olds.drop off).take (min ys.length len) ++ []) ++ olds.drop (off + min ys.length len) := by
      simp only [List.nil_append, List.append_nil]
      rw [← List.drop_drop, List.append_assoc, List.take_append_drop, List.take_append_drop]
    have htk' : cur.toList.take xs.length = olds := by rw [← htk, hk, Nat.mul_one]
    obtain ⟨t1, t2, t3⟩ := own_set (N := xs.length) (o := off * k.cells) (c' := vals.take (min ys.length len)) (htk'.trans hseg) (by rw [hcl, hcz]; exact hnc) (by rw [hk, Nat.mul_one, List.length_take, hol]; simp only [List.length_nil]; omega) (by rw [hsl, List.length_take, List.length_drop, hol]; omega)
    refine ⟨w.setRow g (cur.toList.take (off * k.cells) ++ vals.take (min ys.length len) ++ cur.toList.drop (off * k.cells + (vals.take (min ys.length len)).length)).toArray, ?_, ?_⟩
    · rw [hr, hsl, show goInt ((min ys.length len : Nat) : Int) = .int .i64 (min (ys.length : Int) (len : Int)) by show Value.int .i64 _ = _; congr 1; omega]
    have hch := Inv.change (C := C) I (id := id) (row' := ⟨rv, true, rt, .list k (cpy xs ys off len)⟩) (v' := ρ id) (w' := w.setRow g (cur.toList.take (off * k.cells) ++ vals.take (min ys.length len) ++ cur.toList.drop (off * k.cells + (vals.take (min ys.length len)).length)).toArray) (some g)
      (fun b' hb' => by simp only [Option.some.injEq] at hb'; subst hb'; exact ⟨_, h4, rfl, hb⟩) (grownBy_setRow w g _)
      (fun r hr => by
        rw [h4] at hr
        injection hr with hr
        subst hr
        exact ⟨Nat.le_refl _, fun _ => ⟨⟨rfl, (cpy_length xs ys off len hof).symm⟩, rfl⟩⟩)
      (fun b hb => .inl ⟨_, h4, hb, fun h => h⟩)
      (fun m => by
        refine ⟨olds.take off ++ (vals.take (min ys.length len) ++ olds.drop (off + min ys.length len)), ⟨?_, .inr ⟨g, cp, _, ?_, hog, setRow_heap w g cur _ rt _ hg, ?_, hcm, ?_, ?_⟩⟩, ?_, fun h => by cases h⟩
        · rw [cpy_length xs ys off len hof, hk]
          simp only [List.length_append, hsl, List.length_take, List.length_drop, hol]
          omega
        · rw [cpy_length xs ys off len hof]; exact he
        · rw [cpy_length xs ys off len hof]; exact hnc
        · rw [List.size_toArray, t2, hcl]; exact hcs
        · rw [cpy_length xs ys off len hof, hk, Nat.mul_one]
          rw [hk, Nat.mul_one] at t1
          simpa using t1
        · show RL _ (xs.take off ++ (ys.take (min ys.length len) ++ xs.drop (off + min ys.length len))) _
          have q1 := RL_take (m := k.cells) (fun x c hx => RC_len hx) off (RL_imp (fun x c hx => RC_mono m.rd hx) hlo)
          have q2 := RL_take (m := k.cells) (fun x c hx => RC_len hx) (min ys.length len) (RL_imp (fun x c hx => RC_mono m.rd hx) hl)
          have q3 := RL_drop (m := k.cells) (fun x c hx => RC_len hx) (off + min ys.length len) (RL_imp (fun x c hx => RC_mono m.rd hx) hlo)
          have p1 : olds.take (off * k.cells) = olds.take off := by rw [hk, Nat.mul_one]
          have p2 : vals.take (min ys.length len * k.cells) = vals.take (min ys.length len) := by rw [hk, Nat.mul_one]
          have p3 : olds.drop ((off + min ys.length len) * k.cells) = olds.drop (off + min ys.length len) := by rw [hk, Nat.mul_one]
          rw [p1] at q1
          rw [p2] at q2
          rw [p3] at q3
          exact RL_append q1 (RL_append q2 q3))
    rw [upd_id] at hch
    exact hch.1
theorem does_copy (hτ : TauOK P τ) (hsub : ∀ id row, h' id = some row → s.h id = some row) {qs : Array Operand} {ts : Array TypeId} (ho : o.op = .call { callee := .builtin .copy, args := qs, argTypes := ts })
    (h : (effS τ s.ev h' o).sem = some E) : Does P C s o E := by
  unfold effS at h
  rw [ho] at h
  simp only [effCall, effCopy] at h
  split at h
  rotate_left
  · simp [Dec.sem] at h
  rename_i q x t t' hq ht
  obtain rfl := args2 hq
  obtain rfl := args2 ht
  split at h
  rotate_left
  · simp [Dec.sem] at h
  rename_i e by_ k e' by2 k2 hty hty'
  obtain ⟨hu, ety, hety, hk⟩ := (hτ t _ hty).fits
  simp only [K.slice.injEq] at hk
  subst hk
  obtain ⟨i, z, hi, hz, hzc, hsz, hby⟩ := (hτ e ety hety).i
  split at h
  rotate_left
  · simp [Dec.sem] at h
  rename_i hc
  obtain ⟨rfl, hk1⟩ := hc
  split at h
  rotate_left
  · simp [Dec.sem] at h
  rename_i ys hys
  have run : ∀ (a : Act) (w w' : World) (u : Value), (Builtin.copy_ #[t, t'] o.type #[a.eval q, a.eval x]).run P w = .ok u w' → (execOp a.eval o).run P w = .ok (.value u) w' := by
    intro a w w' u hr
    refine run_builtin ho ?_
    simp only [builtin, List.map_toArray, List.map_cons, List.map_nil, Sem.run_bind, hr, Result.andThen_ok, Sem.run_pure]
  split at h
  · rename_i id ver fl hq
    split at h
    rotate_left
    · simp [Dec.sem] at h
    rename_i rv rt k' xs hrow
    split at h
    rotate_left
    · simp [Dec.sem] at h
    rename_i hc
    obtain ⟨rfl, rfl⟩ := hc
    simp only [Dec.sem, Option.some.injEq, castS_rfl] at h
    subst h
    intro ρ a w I
    have h4 := hsub _ _ hrow
    have hv : rel (envOf C ρ s.h w) (.slw id rv fl) (a.eval q) := hq ▸ I.ev q
    obtain ⟨e0, row, e1, e2, e3⟩ := hv
    have e1 : s.h id = some row := e1
    rw [h4] at e1
    injection e1 with e1
    subst e1
    obtain ⟨_, e5⟩ := e3 rfl
    have e5 : a.eval q = ρ id := e5
    obtain ⟨vals, g3, g4, g5, g6, g7⟩ := row_reads I h4
    obtain ⟨A, cap, g1, g2, gA⟩ := g7 (by rw [← e5]; exact e0.sl)
    obtain ⟨w', hr, I'⟩ := copy_ok (P := P) I (sT := t') (ty := o.type) hu hi hk1 hsz h4 (off := 0) (len := xs.length) (c := cap) (A := A) (by omega) (fun hl => by
      cases A with
      | none => have := (g5 (by rw [g1]; rfl)).2; subst this; simp at hl
      | some ad =>
        obtain ⟨b, rfl⟩ := gA ad rfl
        exact ⟨b, by rw [g1]; rfl, by simp⟩) (rdSl_reads I hsub hys (I.ev x))
    exact ⟨_, _, w', ρ, run a w w' _ (by rw [e5, g1]; exact hr), .inl rfl, I', rel_int.2 rfl⟩
  · rename_i id ver off len hq
    split at h
    rotate_left
    · simp [Dec.sem] at h
    rename_i rv rt k' xs hrow
    split at h
    rotate_left
    · simp [Dec.sem] at h
    rename_i hc
    obtain ⟨rfl, rfl⟩ := hc
    simp only [Dec.sem, Option.some.injEq, castS_rfl] at h
    subst h
    intro ρ a w I
    have h4 := hsub _ _ hrow
    have hv : rel (envOf C ρ s.h w) (.sl id rv off len) (a.eval q) := hq ▸ I.ev q
    obtain ⟨e0, row, e1, e2, e3⟩ := hv
    have e1 : s.h id = some row := e1
    rw [h4] at e1
    injection e1 with e1
    subst e1
    obtain ⟨_, k3, xs2, A, c, hb2, hof, hlc, hA, hAb, _⟩ := e3 rfl
    simp only [RowB.list.injEq] at hb2
    obtain ⟨rfl, hb2⟩ := hb2
    have hb2 := eq_of_heq hb2
    subst hb2
    obtain ⟨w', hr, I'⟩ := copy_ok (P := P) I (sT := t') (ty := o.type) hu hi hk1 hsz h4 (off := off) (len := len) (c := c) (A := A) hof hAb (rdSl_reads I hsub hys (I.ev x))
    exact ⟨_, _, w', ρ, run a w w' _ (by rw [hA]; exact hr), .inl rfl, I', rel_int.2 rfl⟩
  · simp [Dec.sem] at h
/-- All operations but calls of functions. -/
theorem effS_does (hτ : TauOK P τ) (hsub : ∀ id row, h' id = some row → s.h id = some row) (hd' : ∀ d, o.dst = some d → h' d = s.h d) (h : (effS τ s.ev h' o).sem = some E) : Does P C s o E := by
  cases ho : o.op with
  | move x => exact does_move (.inl ho) h
  | assign x => exact does_move (.inr ho) h
  | pick b x y => exact does_pick ho h
  | binOp op t x y t' => exact does_binOp hτ ho h
  | unOp op t x => exact does_unOp ho h
  | extract t i => exact does_extract ho h
  | fieldAddr t x f => exact does_fieldAddr hτ ho h
  | field t x f => exact does_field hτ ho h
  | indexAddr t x i => exact does_indexAddr hτ hsub ho h
  | index t x i => exact does_index hτ ho h
  | load t x => exact does_load hτ hsub ho h
  | convert a b x => exact does_convert hτ hsub ho h
  | slice t x lo hi mx => exact does_slice hτ hsub ho h
  | alloc e => exact does_alloc hτ hd' ho h
  | box e x => exact does_box hτ hd' ho h
  | makeSlice t x y => exact does_makeSlice hτ hd' ho h
  | build t ps => exact does_build hτ hsub ho h
  | sliceToArrayPointer t x => exact does_slap hτ ho h
  | nilCheck x => exact does_nilCheck ho h
  | makeFunc f fs cs =>
    cases f with
    | func f => exact does_makeFunc ho h
    | _ => (unfold effS at h; rw [ho] at h; simp [Dec.sem] at h)
  | buildSlice t n ps => exact does_buildSlice hτ hsub hd' ho h
  | store t x y =>
    cases hx : s.ev x with
    | ad id ver off => exact does_store_ad hτ hsub ho hx h
    | el id ver n off => exact does_store_el hτ hsub ho hx h
    | _ => (unfold effS at h; rw [ho] at h; simp only [hx] at h; split at h <;> simp [Dec.sem] at h)
  | call c =>
    obtain ⟨callee, args, ts⟩ := c
    cases callee with
    | builtin b =>
      cases b with
      | len => exact does_len hτ hsub ho h
      | min => exact does_min ho h
      | max => exact does_max ho h
      | append => exact does_append hτ hsub hd' ho h
      | copy => exact does_copy hτ hsub ho h
      | _ => (unfold effS at h; rw [ho] at h; simp [effCall, Dec.sem] at h)
    | _ => (unfold effS at h; rw [ho] at h; simp [Dec.sem] at h)
  | _ => (unfold effS at h; rw [ho] at h; simp [Dec.sem] at h)
end Go.Proofs.Ytkgjchmfiohciaa.Den
