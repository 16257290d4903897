/- Operations that make memory, and write it. -/
import Derived.Test.YtkgjchmfiohciaaDenS9
namespace Go.Proofs.Ytkgjchmfiohciaa.Den
open Go.RowKit
set_option linter.unusedVariables false
set_option linter.unusedSimpArgs false
variable {P : Program} {τ : Nat → Option Ty} {C : Cx} {s : St} {o : Oper} {E : Eff} {h' : Nat → Option Row}
/-- A row is made: a new block. -/
theorem Inv.make {ρ : Nat → Value} {a : Act} {w : World} (I : Inv C ρ s a w) {d : Nat} {row' : Row} {v' : Value} {w' : World} (hg : w.grownBy w' none) (hv : row'.ver = nver s.h d)
    (hblk : ∀ b, blk v' = some b → w.heap.size ≤ b)
    (hrow : Mono (envOf C ρ s.h w) (envOf C (upd ρ d v') (upd s.h d (some row')) w') → RowOK C (envOf C (upd ρ d v') (upd s.h d (some row')) w') v' row') :
    Inv C (upd ρ d v') ⟨s.t, upd s.h d (some row')⟩ a w' ∧ Mono (envOf C ρ s.h w) (envOf C (upd ρ d v') (upd s.h d (some row')) w') :=
  I.change (id := d) none (by simp) hg (fun r hr => by have := nver_lt s.h d r hr; exact ⟨by omega, fun h => by omega⟩) (fun b hb => .inr (hblk b hb)) hrow
theorem does_cells {ρ : Nat → Value} {a : Act} {w : World} (I : Inv C ρ s a w) {d e : Nat} {cs : List AV} {vals : Array Value} (hc : rels (envOf C ρ s.h w) cs vals.toList) :
    Inv C (upd ρ d (.pointer (some ⟨w.heap.size, 0, none⟩))) ⟨s.t, upd s.h d (some ⟨nver s.h d, true, e, .cells cs⟩)⟩ a (w.alloc (.cells vals e)) ∧
    rel (envOf C (upd ρ d (.pointer (some ⟨w.heap.size, 0, none⟩))) (upd s.h d (some ⟨nver s.h d, true, e, .cells cs⟩)) (w.alloc (.cells vals e))) (.ad d (nver s.h d) 0) (.pointer (some ⟨w.heap.size, 0, none⟩)) := by
  obtain ⟨I', m⟩ := I.make (d := d) (row' := ⟨nver s.h d, true, e, .cells cs⟩) (v' := .pointer (some ⟨w.heap.size, 0, none⟩)) (w' := w.alloc (.cells vals e)) (World.grownBy_alloc w _ none) rfl
    (fun b hb => by simp only [blk, Option.some.injEq] at hb; omega)
    (fun m => ⟨w.heap.size, vals, rfl, .inl I.fr.size, heap_alloc_new w _, rels_mono m hc⟩)
  refine ⟨I', ⟨_, _, rfl⟩, _, upd_same _ _ _, Nat.le_refl _, fun _ => ⟨w.heap.size, ?_, rfl⟩⟩
  show upd ρ d _ d = _
  rw [upd_same]
theorem does_arr {ρ : Nat → Value} {a : Act} {w : World} (I : Inv C ρ s a w) {d e n : Nat} {k : K} {xs : List (T k)} {vals : Array Value} (hn : n ≤ 65536) (hpos : 0 < k.cells) (hc : RC w (Rd C s.h ρ w) (.arr n k) xs vals.toList) :
    Inv C (upd ρ d (.pointer (some ⟨w.heap.size, 0, none⟩))) ⟨s.t, upd s.h d (some ⟨nver s.h d, true, e, .list k xs⟩)⟩ a (w.alloc (.cells vals e)) ∧
    rel (envOf C (upd ρ d (.pointer (some ⟨w.heap.size, 0, none⟩))) (upd s.h d (some ⟨nver s.h d, true, e, .list k xs⟩)) (w.alloc (.cells vals e))) (.ad d (nver s.h d) 0) (.pointer (some ⟨w.heap.size, 0, none⟩)) := by
  have hlen := RC_len hc
  obtain ⟨hl, hr⟩ := hc
  have hsz : vals.size = n * k.cells := by simpa [K.cells] using hlen
  obtain ⟨I', m⟩ := I.make (d := d) (row' := ⟨nver s.h d, true, e, .list k xs⟩) (v' := .pointer (some ⟨w.heap.size, 0, none⟩)) (w' := w.alloc (.cells vals e)) (World.grownBy_alloc w _ none) rfl
    (fun b hb => by simp only [blk, Option.some.injEq] at hb; omega)
    (fun m => ⟨vals.toList, ⟨by rw [hl]; simpa using hsz, .inr ⟨w.heap.size, n, vals, .inr ⟨rfl, hl⟩, .inl I.fr.size, heap_alloc_new w _, by omega, Nat.le_trans hn (by decide), hsz, by rw [hl, ← hsz]; exact List.take_of_length_le (by simp)⟩⟩, RL_imp (fun x c hx => RC_mono m.rd hx) hr, fun h => by cases h⟩)
  refine ⟨I', ⟨_, _, rfl⟩, _, upd_same _ _ _, Nat.le_refl _, fun _ => ⟨w.heap.size, ?_, rfl⟩⟩
  show upd ρ d _ d = _
  rw [upd_same]
theorem does_alloc (hτ : TauOK P τ) (hd' : ∀ d, o.dst = some d → h' d = s.h d) {e : Nat} (ho : o.op = .alloc e) (h : (effS τ s.ev h' o).sem = some E) : Does P C s o E := by
  unfold effS at h
  rw [ho] at h
  simp only at h
  split at h
  · rename_i n et by_ n' k d ht hd
    split at h
    · rename_i hc
      obtain ⟨rfl, hn⟩ := hc
      have hty := hτ e _ ht
      obtain ⟨i, z, hi, hz, hzc, hsz, _⟩ := hty.i
      obtain ⟨hu, ety, hety, hk, _⟩ := hty.fits
      simp only [K.arr.injEq] at hk
      obtain ⟨_, rfl⟩ := hk
      have hnv : nver h' d = nver s.h d := by simp [nver, hd' d hd]
      simp only [Dec.sem, Option.some.injEq] at h
      subst h
      rw [hnv]
      intro ρ a w I
      have hc := does_arr I (d := d) (e := e) (n := n') (k := ety.k) (xs := zero (.arr n' ety.k)) (vals := z.cells) hn (hτ _ _ hety).pos (by rw [hzc]; exact RC_zero _ _ _)
      refine ⟨_, .pointer (some ⟨w.heap.size, 0, none⟩), _, _, ?_, .inl rfl, hc⟩
      unfold execOp
      rw [ho]
      simp [Instr.alloc, newVar, newRow, zeroValue, typeInfo, hi, hz]
    · simp [Dec.sem] at h
  · rename_i ty d _ ht hd
    obtain ⟨i, z, hi, hz, hzc, hsz, _⟩ := (hτ e ty ht).i
    have hn : nver h' d = nver s.h d := by simp [nver, hd' d hd]
    simp only [Dec.sem, Option.some.injEq] at h
    subst h
    rw [hn]
    intro ρ a w I
    have hc := does_cells I (d := d) (e := e) (cs := flatZ ty.k) (vals := z.cells) (by rw [hzc]; exact flatZ_ok _)
    refine ⟨_, .pointer (some ⟨w.heap.size, 0, none⟩), _, _, ?_, .inl rfl, hc⟩
    unfold execOp
    rw [ho]
    simp [Instr.alloc, newVar, newRow, zeroValue, typeInfo, hi, hz]
  · simp [Dec.sem] at h
theorem does_box (hτ : TauOK P τ) (hd' : ∀ d, o.dst = some d → h' d = s.h d) {e : Nat} {x : Operand} (ho : o.op = .box e x) (h : (effS τ s.ev h' o).sem = some E) : Does P C s o E := by
  unfold effS at h
  rw [ho] at h
  simp only at h
  split at h
  · rename_i n et by_ n' k d ht hd
    split at h
    · rename_i m k' xs hx
      split at h
      · rename_i hc
        obtain ⟨rfl, rfl, hn⟩ := hc
        have hty := hτ e _ ht
        obtain ⟨hu, ety, hety, hk, _⟩ := hty.fits
        simp only [K.arr.injEq] at hk
        obtain ⟨_, rfl⟩ := hk
        have hnv : nver h' d = nver s.h d := by simp [nver, hd' d hd]
        simp only [Dec.sem, Option.some.injEq] at h
        subst h
        rw [hnv]
        intro ρ a w I
        have hv : VR w (Rd C s.h ρ w) (.arr m ety.k) xs (a.eval x) := by
          have := I.ev x
          rw [hx] at this
          exact this
        obtain ⟨hrc, _⟩ := VR_cells hv
        have hc := does_arr I (d := d) (e := e) (vals := (a.eval x).cells) hn (hτ _ _ hety).pos hrc
        refine ⟨_, .pointer (some ⟨w.heap.size, 0, none⟩), _, _, ?_, .inl rfl, hc⟩
        unfold execOp
        rw [ho]
        simp [Instr.box, newVar, newRow]
      · simp [Dec.sem] at h
    · simp [Dec.sem] at h
  · rename_i ty d _ ht hd
    have hpos := (hτ e ty ht).pos
    have hn : nver h' d = nver s.h d := by simp [nver, hd' d hd]
    split at h
    · rename_i hl
      simp only [Dec.sem, Option.some.injEq] at h
      subst h
      rw [hn]
      intro ρ a w I
      have hc := does_cells I (d := d) (e := e) (cs := cellsOf (s.ev x)) (vals := (a.eval x).cells) (cellsOf_ok (I.ev x) (by omega))
      refine ⟨_, .pointer (some ⟨w.heap.size, 0, none⟩), _, _, ?_, .inl rfl, hc⟩
      unfold execOp
      rw [ho]
      simp [Instr.box, newVar, newRow]
    · simp [Dec.sem] at h
  · simp [Dec.sem] at h
theorem one_ok {R : RE} : ∀ {v : AV} {u : Value}, v.one = true → rel R v u → u.oneCell' = true := by
  intro v u h hr
  cases v with
  | p k x =>
    have hk : k.agg = false := by simpa [AV.one] using h
    have := (VR_cells hr)
    exact RC_one (k := k) (x := x) (by have h1 := this.1; rw [this.2.2 hk] at h1; exact h1) u (by simp)
  | pc k x => obtain ⟨A, rfl, _⟩ := hr; rfl
  | nilsl => simp only [rel] at hr; subst hr; rfl
  | slw id ver fl => exact (cells_sl hr.1.sl).2
  | sl id ver off len => exact (cells_sl hr.1).2
  | sa id ver off len => exact (cells_sl hr.1).2
  | rw id ver => simp [AV.one] at h
  | ad id ver off => exact (cells_ptr hr.1).2
  | el id ver i off => exact (cells_ptr hr.1).2
  | fe k x => obtain ⟨b, off, cs, rfl, _⟩ := hr; rfl
  | fn f caps => obtain ⟨c, rfl, _⟩ := hr; rfl
  | agg cs => simp [AV.one] at h
  | tup cs => simp [AV.one] at h
  | u => simp [AV.one] at h
theorem ones_ok {R : RE} : ∀ {vs : List AV} {l : List Value}, vs.all AV.one = true → rels R vs l → ∀ u ∈ l, u.oneCell' = true
  | [], l, h, hr => by simp only [rels] at hr; subst hr; simp
  | v :: vs, l, h, hr => by
    obtain ⟨u, l', rfl, h1, h2⟩ := hr
    simp only [List.all_cons, Bool.and_eq_true] at h
    intro x hx
    rcases List.mem_cons.1 hx with rfl | hx
    · exact one_ok h.1 h1
    · exact ones_ok h.2 h2 x hx
theorem run_storeVar {P : Program} {w : World} {t : Nat} {i : TypeInfo} {g off ty : Nat} {cur : Array Value} {u : Value} (hi : P.info? t = some i) (hs : u.cells.size = i.size) (hg : w.heap[g]? = some (.cells cur ty (0, 0))) (hl : off + u.cells.size ≤ cur.size) (h1 : ∀ v ∈ u.cells.toList, v.oneCell' = true) :
    (storeVar t ⟨g, off, none⟩ u).run P w = .ok () (w.setRow g (cur.toList.take off ++ u.cells.toList ++ cur.toList.drop (off + u.cells.size)).toArray) := by
  have := run_storeCells_at P g off ty u.cells.toList 0 cur w hg (by simpa using hl) h1
  unfold storeVar
  simp only [Sem.run_bind, run_sizeOf hi, Result.andThen_ok, hs]
  simpa [hs] using this
theorem grownBy_setRow (w : World) (g : Nat) (cs : Array Value) : w.grownBy (w.setRow g cs) (some g) :=
  ⟨rfl, rfl, rfl, by simp, fun k _ hk => setRow_other w g k _ (fun e => hk (by simp [e]))⟩
theorem upd_id (ρ : Nat → Value) (id : Nat) : upd ρ id (ρ id) = ρ := funext fun i => by
  by_cases e : i = id
  · subst e; exact upd_same _ _ _
  · exact upd_other _ _ e
theorem rels_putAt {R : RE} {cs vs : List AV} {l m : List Value} {off : Nat} (h : rels R cs l) (hv : rels R vs m) : rels R (putAt cs off vs) (l.take off ++ m ++ l.drop (off + m.length)) := by
  unfold putAt
  rw [rels_len hv]
  exact rels_append (rels_append (rels_take _ h) hv) (rels_drop _ h)
theorem does_store_ad (hτ : TauOK P τ) (hsub : ∀ id row, h' id = some row → s.h id = some row) {t : Nat} {x y : Operand} (ho : o.op = .store t x y) {id ver off : Nat} (hx : s.ev x = .ad id ver off) (h : (effS τ s.ev h' o).sem = some E) : Does P C s o E := by
  unfold effS at h
  rw [ho] at h
  simp only at h
  split at h
  · rename_i ty ht
    have hpos := (hτ t ty ht).pos
    obtain ⟨i, z, hi, hz, hzc, hsz, _⟩ := (hτ t ty ht).i
    rw [hx] at h
    simp only at h
    split at h
    · rename_i rv rt cs hrow
      split at h
      · rename_i hc
        obtain ⟨rfl, hl, hle, hone⟩ := hc
        simp only [Dec.sem, Option.some.injEq] at h
        subst h
        intro ρ a w I
        have h4 := hsub _ _ hrow
        have hv : rel (envOf C ρ s.h w) (.ad id rv off) (a.eval x) := hx ▸ I.ev x
        obtain ⟨_, row, e1, e2, e3⟩ := hv
        have e1 : s.h id = some row := e1
        rw [h4] at e1
        injection e1 with e1
        subst e1
        obtain ⟨b, e40, e5⟩ := e3 rfl
        have e40 : ρ id = .pointer (some ⟨b, 0, none⟩) := e40
        have e4 : blk (ρ id) = some b := by rw [e40]; rfl
        obtain ⟨b', c, g1, g2, g3, g4⟩ := I.rows id _ h4
        have e4 : blk (ρ id) = some b := e4
        rw [g1] at e4
        simp only [blk, Option.some.injEq] at e4
        subst e4
        have hcells := cellsOf_ok (I.ev y) (by omega : 0 < (cellsOf (s.ev y)).length)
        have hcl := rels_len hcells
        have hsz' : (a.eval y).cells.size = i.size := by rw [hsz, ← hl, ← hcl]; simp
        have hlen := rels_len g4
        have hlen' : c.size = cs.length := by simpa using hlen
        have hst := run_storeVar (P := P) (w := w) (t := t) (off := off) (u := a.eval y) hi hsz' g3 (by rw [hsz', hsz]; omega) (ones_ok hone hcells)
        have hch := Inv.change (C := C) I (id := id) (row' := ⟨rv, true, rt, .cells (putAt cs off (cellsOf (s.ev y)))⟩) (v' := ρ id) (w' := w.setRow b' (c.toList.take off ++ (a.eval y).cells.toList ++ c.toList.drop (off + (a.eval y).cells.size)).toArray) (some b')
          (fun b hb => by simp only [Option.some.injEq] at hb; subst hb; exact ⟨_, h4, rfl, by rw [g1]; rfl⟩) (grownBy_setRow w b' _)
          (fun r hr => by
            rw [h4] at hr
            injection hr with hr
            subst hr
            refine ⟨Nat.le_refl _, fun _ => ⟨?_, rfl⟩⟩
            simp only [RowB.like, putAt, List.length_append, List.length_take, List.length_drop]
            omega)
          (fun b hb => .inl ⟨_, h4, hb, fun h => h⟩)
          (fun m => by
            refine ⟨b', _, g1, g2, setRow_heap w b' c _ rt _ g3, ?_⟩
            have := rels_putAt (off := off) (rels_mono m g4) (rels_mono m hcells)
            simpa using this)
        rw [upd_id] at hch
        refine ⟨_, undef, _, ρ, ?_, .inr ⟨rfl, rfl⟩, hch.1, trivial⟩
        unfold execOp
        rw [ho]
        simp only [e5, Instr.storeAt, Instr.sureAddr, Sem.run_bind, Sem.run_pure, Result.andThen_ok, hst]
      · simp [Dec.sem] at h
    · rename_i rv rt k xs hrow
      split at h
      · rename_i _ n k' n' k2 ys hk hy
        split at h
        · rename_i hc
          obtain ⟨rfl, rfl, rfl, rfl⟩ := hc
          simp only [Dec.guard, Dec.sem] at h
          split at h
          · rename_i hg
            have hlen : xs.length = n' := by have := of_decide_eq_true hg; omega
            simp only [Option.some.injEq] at h
            subst h
            intro ρ a w I
            have h4 := hsub _ _ hrow
            have hv : rel (envOf C ρ s.h w) (.ad id rv 0) (a.eval x) := hx ▸ I.ev x
            obtain ⟨_, row, e1, e2, e3⟩ := hv
            have e1 : s.h id = some row := e1
            rw [h4] at e1
            injection e1 with e1
            subst e1
            obtain ⟨b, e40, e5⟩ := e3 rfl
            have e40 : ρ id = .pointer (some ⟨b, 0, none⟩) := e40
            have hvy : VR w (Rd C s.h ρ w) (.arr n' k') ys (a.eval y) := by
              have := I.ev y
              rw [hy] at this
              exact this
            obtain ⟨hrc, _⟩ := VR_cells hvy
            have hcl := RC_len hrc
            obtain ⟨hl2, hr2⟩ := hrc
            obtain ⟨vals, ho2, hl, hf⟩ := I.rows id _ h4
            rcases ho2.2 with ⟨he, _⟩ | ⟨g, cap, cur, he, hown, hg2, hnc, hcm, hcs, ht2⟩
            · rw [e40] at he; cases he
            rcases he with he | ⟨he, hcap⟩
            · rw [e40] at he; cases he
            rw [e40] at he
            simp only [Value.pointer.injEq, Option.some.injEq, Addr.mk.injEq, and_true] at he
            subst he
            have hcap : xs.length = cap := hcap
            have hsz' : (a.eval y).cells.size = i.size := by rw [hsz, hk]; simpa using hcl
            have hcur : cur.size = (a.eval y).cells.size := by rw [hsz', hsz, hk, hcs, ← hcap, hlen]; rfl
            have hst := run_storeVar (P := P) (w := w) (t := t) (off := 0) (u := a.eval y) hi hsz' hg2 (by omega) (fun v hv => RC_one (k := .arr n' k') ⟨hl2, hr2⟩ v hv)
            have hnew : (cur.toList.take 0 ++ (a.eval y).cells.toList ++ cur.toList.drop (0 + (a.eval y).cells.size)).toArray = (a.eval y).cells := by
              rw [List.drop_of_length_le (by simp [hcur])]
              simp
            rw [hnew] at hst
            have hch := Inv.change (C := C) I (id := id) (row' := ⟨rv, true, rt, .list k' ys⟩) (v' := ρ id) (w' := w.setRow b (a.eval y).cells) (some b)
              (fun b' hb => by simp only [Option.some.injEq] at hb; subst hb; exact ⟨_, h4, rfl, by rw [e40]; rfl⟩) (grownBy_setRow w b _)
              (fun r hr => by
                rw [h4] at hr
                injection hr with hr
                subst hr
                exact ⟨Nat.le_refl _, fun _ => ⟨⟨rfl, by rw [hlen]; exact hl2.symm⟩, rfl⟩⟩)
              (fun b hb => .inl ⟨_, h4, hb, fun h => h⟩)
              (fun m => by
                refine ⟨(a.eval y).cells.toList, ⟨by rw [hl2]; simpa [K.cells] using hcl, .inr ⟨b, cap, (a.eval y).cells, .inr ⟨e40, by rw [← hcap, hlen]; exact hl2⟩, hown, setRow_heap w b cur _ rt _ hg2, by rw [hl2, ← hcap, hlen]; exact Nat.le_refl _, hcm, by rw [← hcur]; exact hcs, ?_⟩⟩, RL_imp (fun x c hx => RC_mono m.rd hx) hr2, fun h => by cases h⟩
                rw [List.take_of_length_le]
                rw [hcl, hl2]
                exact Nat.le_refl _)
            rw [upd_id] at hch
            refine ⟨_, undef, _, ρ, ?_, .inr ⟨rfl, rfl⟩, hch.1, trivial⟩
            unfold execOp
            rw [ho]
            simp only [e5, Instr.storeAt, Instr.sureAddr, Sem.run_bind, Sem.run_pure, Result.andThen_ok, hst]
          · simp at h
        · simp [Dec.sem] at h
      · simp [Dec.sem] at h
    · simp [Dec.sem] at h
  · simp [Dec.sem] at h
end Go.Proofs.Ytkgjchmfiohciaa.Den
