/- make, literals. -/
import Derived.Test.YtkgjchmfiohciaaDenS12
import Derived.Great.BuildSlice
namespace Go.Proofs.Ytkgjchmfiohciaa.Den
open Go.RowKit
set_option linter.unusedVariables false
set_option linter.unusedSimpArgs false
variable {P : Program} {τ : Nat → Option Ty} {C : Cx} {s : St} {o : Oper} {E : Eff} {h' : Nat → Option Row}
theorem flat_rep (l : List Value) : ∀ (c j : Nat), j < c * l.length → (List.replicate c l).flatten[j]? = l[j % l.length]?
  | 0, j, h => by simp at h
  | c + 1, j, h => by
    rw [List.replicate_succ, List.flatten_cons]
    by_cases hj : j < l.length
    · rw [List.getElem?_append_left hj, Nat.mod_eq_of_lt hj]
    · have hj : l.length ≤ j := by omega
      rw [List.getElem?_append_right hj, flat_rep l c (j - l.length) (by rw [Nat.add_mul] at h; omega), Nat.mod_eq_sub_mod hj]
theorem made_flat (z : Array Value) (c : Nat) : (madeCells z (c * z.size)).toList = (List.replicate c z.toList).flatten := by
  apply List.ext_getElem?
  intro j
  rcases Nat.lt_or_ge j (c * z.size) with h | h
  · have hs : 0 < z.size := by
      rcases Nat.eq_zero_or_pos z.size with e | e
      · rw [e] at h; simp at h
      · exact e
    have hm := Nat.mod_lt j hs
    rw [flat_rep z.toList c j (by simpa using h)]
    simp [madeCells, h, hm]
  · rw [List.getElem?_eq_none (by simp [size_madeCells]; exact h), List.getElem?_eq_none (by simp; exact h)]
theorem flat_take (l : List Value) (n c : Nat) (h : n ≤ c) : ((List.replicate c l).flatten).take (n * l.length) = (List.replicate n l).flatten := by
  obtain ⟨d, rfl⟩ : ∃ d, c = n + d := ⟨c - n, by omega⟩
  rw [← List.replicate_append_replicate, List.flatten_append, List.take_left' (by simp)]
theorem tn_max {m : Int} (h : m ≤ 9223372036854775807) : m.toNat ≤ maxLen := by simp only [maxLen]; omega
theorem does_makeSlice (hτ : TauOK P τ) (hd' : ∀ d, o.dst = some d → h' d = s.h d) {t : Nat} {x y : Operand} (ho : o.op = .makeSlice t x y) (h : (effS τ s.ev h' o).sem = some E) : Does P C s o E := by
  unfold effS at h
  rw [ho] at h
  simp only at h
  split at h
  rotate_left
  · simp [Dec.sem] at h
  rename_i e by_ k n m d ht hx hy hd
  obtain ⟨hu, ety, hety, hk⟩ := (hτ t _ ht).fits
  simp only [K.slice.injEq] at hk
  subst hk
  obtain ⟨i, z, hi, hz, hzc, hsz, hby⟩ := (hτ e ety hety).i
  have hn : nver h' d = nver s.h d := by simp [nver, hd' d hd]
  rw [hn] at h
  rw [hety] at h
  simp only [Dec.guard, Dec.sem] at h
  split at h
  rotate_left
  · simp at h
  rename_i hb
  obtain ⟨h0, h1, h2, h3⟩ := of_decide_eq_true hb
  simp only [Option.some.injEq] at h
  subst h
  intro ρ a w I
  have hv : rel (envOf C ρ s.h w) (.p (.int .i64) n) (a.eval x) := hx ▸ I.ev x
  have hv' : rel (envOf C ρ s.h w) (.p (.int .i64) m) (a.eval y) := hy ▸ I.ev y
  rw [rel_int] at hv hv'
  have hr := run_make (P := P) w t e i z hu hi hz .i64 .i64 n m h0 h1 (by rw [hby]; exact h2) h3
  have hzl : z.cells.size = i.size := by rw [hsz, ← RC_len (RC_zero w (fun _ => False) ety.k), ← hzc]; simp
  have hown : (w.alloc (.cells (madeCells z.cells ((m : Int).toNat * i.size)) e)).ownsRow C.w0.heap.size e ety.k.cells (.slice (some ⟨w.heap.size, 0, none⟩) (n : Int).toNat (m : Int).toNat) (List.replicate (n : Int).toNat (zero ety.k)).length (List.replicate (n : Int).toNat (zcells ety.k)).flatten := by
    have hzlen : (zcells ety.k).length = ety.k.cells := RC_len (RC_zero w (fun _ => False) ety.k)
    have hmn : (n : Int).toNat ≤ (m : Int).toNat := Int.toNat_le_toNat h1
    refine ⟨by simp [hzlen], .inr ⟨w.heap.size, (m : Int).toNat, _, by simp, I.fr.size, heap_alloc_new w _, by simpa using hmn, ?_, by rw [size_madeCells, hsz], ?_⟩⟩
    · exact tn_max h3
    · rw [← hzl, made_flat, hzc, List.length_replicate, ← hzlen]
      exact flat_take _ _ _ hmn
  obtain ⟨I', mo⟩ := I.make (d := d) (row' := ⟨nver s.h d, true, e, .list ety.k (List.replicate (n : Int).toNat (zero ety.k))⟩) (v' := .slice (some ⟨w.heap.size, 0, none⟩) (n : Int).toNat (m : Int).toNat) (w' := w.alloc (.cells (madeCells z.cells ((m : Int).toNat * i.size)) e)) (World.grownBy_alloc w _ none) rfl
    (fun b hb => by simp only [blk, Option.some.injEq] at hb; omega)
    (fun m => ⟨_, World.ownsRow.holds (fun b hb => .inl hb) hown, RL_replicate (RC_zero _ _ _) _, fun h => by cases h⟩)
  have hsame : sameOp x y = true → (n : Int).toNat = (m : Int).toNat := by
    intro hs
    have hxy : x = y := by
      unfold sameOp at hs
      split at hs
      · rename_i a b
        rw [Nat.eq_of_beq_eq_true hs]
      · cases hs
    subst hxy
    rw [hx] at hy
    injection hy with _ hy
    rw [hy]
  refine ⟨_, .slice (some ⟨w.heap.size, 0, none⟩) (n : Int).toNat (m : Int).toNat, _, _, ?_, .inl rfl, I', hsame, _, upd_same _ _ _, Nat.le_refl _, fun _ => ⟨trivial, ?_⟩⟩
  · unfold execOp
    rw [ho]
    simp only [hv, hv', Sem.run_bind, hr, Result.andThen_ok, Sem.run_pure]
  · show _ = upd ρ d _ d; rw [upd_same]
theorem fill_list (off : Nat) : ∀ (l : List Value) (k : Nat) (cells : Array Value), off + k + l.length ≤ cells.size →
    ((l.zipIdx k).foldl (fun cs p => cs.setIfInBounds (off + p.2) p.1) cells).toList = cells.toList.take (off + k) ++ l ++ cells.toList.drop (off + k + l.length)
  | [], k, cells, h => by simp
  | v :: l, k, cells, h => by
    rw [List.zipIdx_cons, List.foldl_cons, fill_list off l (k + 1) _ (by simp at h ⊢; omega)]
    have := list_seg_step cells.toList (off + k) v l (by simp at h ⊢; omega)
    simpa [Array.toList_setIfInBounds, Nat.add_assoc] using this
theorem fill_one {v : Value} {cells : Array Value} {off : Nat} (h : off + v.cells.size ≤ cells.size) :
    (v.cells.zipIdx.foldl (fun cs (c, j) => cs.setIfInBounds (off + j) c) cells) = (cells.toList.take off ++ v.cells.toList ++ cells.toList.drop (off + v.cells.size)).toArray := by
  have := fill_list off v.cells.toList 0 cells (by simpa using h)
  apply Array.ext'
  rw [← Array.foldl_toList, Array.toList_zipIdx]
  simpa using this
/-- Literals: their parts laid one after another. -/
theorem fill_step {place : Nat → Option (Nat × Nat)} {cells : Array Value} {i : Nat} {v : Value} {rest : List (Nat × Value)} {off size : Nat} (hp : place i = some (off, size)) (hs : v.cells.size = size) (hl : off + size ≤ cells.size) :
    Instr.fill place cells ((i, v) :: rest) = Instr.fill place (cells.toList.take off ++ v.cells.toList ++ cells.toList.drop (off + v.cells.size)).toArray rest := by
  simp only [Instr.fill, hp]
  rw [if_neg (by simp [hs]; omega), fill_one (by omega)]
theorem mapM_get {α β : Type} {f : α → Option β} : ∀ {l : List α} {m : List β}, l.mapM f = some m → ∀ {i : Nat} {x : α}, l[i]? = some x → ∃ y, m[i]? = some y ∧ f x = some y
  | [], m, h, i, x, hi => by simp at hi
  | a :: l, m, h, i, x, hi => by
    simp only [List.mapM_cons, Option.bind_eq_bind, Option.pure_def] at h
    cases ha : f a with
    | none => simp [ha] at h
    | some b =>
      cases hl : l.mapM f with
      | none => simp [ha, hl] at h
      | some m' =>
        simp [ha, hl] at h
        subst h
        cases i with
        | zero => simp at hi; subst hi; exact ⟨b, by simp, ha⟩
        | succ i =>
          simp at hi
          obtain ⟨y, h1, h2⟩ := mapM_get hl hi
          exact ⟨y, by simpa using h1, h2⟩
theorem mapM_some_of {α β : Type} {f : α → Option β} : ∀ {l : List α}, (∀ x ∈ l, ∃ y, f x = some y) → ∃ m, l.mapM f = some m
  | [], _ => ⟨[], rfl⟩
  | a :: l, h => by
    obtain ⟨b, hb⟩ := h a (by simp)
    obtain ⟨m, hm⟩ := mapM_some_of (l := l) fun x hx => h x (List.mem_cons_of_mem _ hx)
    exact ⟨b :: m, by simp [List.mapM_cons, hb, hm]⟩
theorem built_ok (hτ : TauOK P τ) {ρ : Nat → Value} {a : Act} {w : World} (I : Inv C ρ s a w) {flds : List Field} {places : List (Nat × Nat)} (hpl : flds.mapM (fun f => (P.info? f.type).map fun i => (f.offset, i.size)) = some places) :
    ∀ (ps : List (Nat × Operand)) (cs cs' : List AV) (vals : List Value), buildL τ s.ev (flds.map fun f => (f.offset, f.type)) ps cs = some cs' → rels (envOf C ρ s.h w) cs vals →
    ∃ vals', Instr.fill (places.toArray[·]?) vals.toArray (ps.map fun p => (p.1, a.eval p.2)) = some vals' ∧ rels (envOf C ρ s.h w) cs' vals'.toList
  | [], cs, cs', vals, h, hr => by
    simp only [buildL, Option.some.injEq] at h
    subst h
    exact ⟨vals.toArray, by simp [Instr.fill], by simpa using hr⟩
  | p :: ps, cs, cs', vals, h, hr => by
    simp only [buildL] at h
    split at h
    · rename_i q hq
      split at h
      · rename_i fty hft
        split at h
        · rename_i hc
          rw [List.getElem?_map] at hq
          cases hfl : flds[p.1]? with
          | none => rw [hfl] at hq; simp at hq
          | some fld =>
            rw [hfl] at hq
            simp only [Option.map_some, Option.some.injEq] at hq
            subst hq
            simp only at hft h hc
            obtain ⟨i, z, hi, hz, _, hsz, _⟩ := (hτ _ _ hft).i
            have hpos := (hτ _ _ hft).pos
            have hp : (places.toArray[p.1]? : Option (Nat × Nat)) = some (fld.offset, i.size) := by
              obtain ⟨x, hx1, hx2⟩ := mapM_get hpl hfl
              rw [hi] at hx2
              simp only [Option.map_some, Option.some.injEq] at hx2
              subst hx2
              simpa using hx1
            have hcells := cellsOf_ok (I.ev p.2) (by omega : 0 < (cellsOf (s.ev p.2)).length)
            have hlc := rels_len hcells
            have hlr := rels_len hr
            have hsz2 : (a.eval p.2).cells.size = i.size := by rw [hsz, ← hc.1, ← hlc]; simp
            obtain ⟨vals', h1, h2⟩ := built_ok hτ I hpl ps _ cs' _ h (rels_putAt (off := fld.offset) hr hcells)
            refine ⟨vals', ?_, h2⟩
            rw [List.map_cons, fill_step hp hsz2 (by simp only [List.size_toArray]; omega)]
            exact h1
        · cases h
      · cases h
    · cases h
theorem set_ok {ρ : Nat → Value} {a : Act} {w : World} (I : Inv C ρ s a w) (hsub : ∀ id row, h' id = some row → s.h id = some row) {k : K} {size : Nat} (hsz : size = k.cells) : ∀ (ps : List (Nat × Operand)) (xs xs' : List (T k)) (vals : List Value), setL s.ev h' k ps xs = some xs' → RL (RC w (Rd C s.h ρ w) k) xs vals →
    ∃ vals', Instr.fill (fun i => some (i * size, size)) vals.toArray (ps.map fun p => (p.1, a.eval p.2)) = some vals' ∧ RL (RC w (Rd C s.h ρ w) k) xs' vals'.toList ∧ xs'.length = xs.length
  | [], xs, xs', vals, h, hr => by
    simp only [setL, Option.some.injEq] at h
    subst h
    exact ⟨vals.toArray, by simp [Instr.fill], by simpa using hr, rfl⟩
  | p :: ps, xs, xs', vals, h, hr => by
    simp only [setL] at h
    split at h
    · rename_i x hx
      split at h
      · rename_i hlt
        split at hx
        · rename_i hfz
          have hu := toK_frozen I hsub hfz hx (I.ev p.2)
          have hul := RC_len hu
          have hcs : (a.eval p.2).cells.size = size := by rw [hsz, ← hul]; simp
          obtain ⟨pp, c, q, e, hp, hc⟩ := RL_get (m := k.cells) (fun x c hx => RC_len hx) hr p.1 (zero k) hlt
          have hset := RL_set (m := k.cells) (fun x c hx => RC_len hx) (y := x) hr e hp hlt (RC_len hc) hu
          have hcl := RC_len hc
          have hvl : vals.length = xs.length * k.cells := RL_len (fun x c hx => RC_len hx) hr
          have hpart : vals.take (p.1 * size) ++ (a.eval p.2).cells.toList ++ vals.drop (p.1 * size + (a.eval p.2).cells.size) = pp ++ (a.eval p.2).cells.toList ++ q := by
            rw [hcs, hsz, ← hp, e]
            rw [show pp ++ c ++ q = pp ++ (c ++ q) by simp, List.take_left' rfl, ← List.append_assoc, List.drop_left' (by simp [hcl])]
          obtain ⟨vals', h1, h2, h3⟩ := set_ok I hsub hsz ps (xs.set p.1 x) xs' _ h hset
          refine ⟨vals', ?_, h2, by rw [h3, List.length_set]⟩
          have hle : (p.1 + 1) * k.cells ≤ xs.length * k.cells := Nat.mul_le_mul_right _ hlt
          rw [List.map_cons, fill_step (off := p.1 * size) (size := size) rfl hcs (by simp only [List.size_toArray]; rw [hvl, hsz]; rw [Nat.add_mul] at hle; omega)]
          rw [← hpart] at h1
          exact h1
        · cases hx
      · cases h
    · cases h
theorem does_build (hτ : TauOK P τ) (hsub : ∀ id row, h' id = some row → s.h id = some row) {t : Nat} {ps : Array (Nat × Operand)} (ho : o.op = .build t ps) (h : (effS τ s.ev h' o).sem = some E) : Does P C s o E := by
  unfold effS at h
  rw [ho] at h
  simp only at h
  split at h
  rotate_left
  · rename_i n e by_ n' k ht
    obtain ⟨hu, ety, hety, hk, _⟩ := (hτ t _ ht).fits
    simp only [K.arr.injEq] at hk
    obtain ⟨_, rfl⟩ := hk
    obtain ⟨i, z, hi, hz, hzc, hsz, hby⟩ := (hτ t _ ht).i
    obtain ⟨ei, ez, hei, hez, hezc, hesz, _⟩ := (hτ e ety hety).i
    split at h
    rotate_left
    · simp [Dec.sem] at h
    rename_i xs hxs
    split at hxs
    rotate_left
    · cases hxs
    rename_i hc
    obtain ⟨rfl, _⟩ := hc
    simp only [Dec.sem, Option.some.injEq] at h
    subst h
    refine Does.pure fun ρ a w I => ?_
    obtain ⟨vals', h1, h2, h3⟩ := set_ok I hsub hesz ps.toList _ xs _ hxs (RL_replicate (RC_zero _ _ _) n')
    rw [List.length_replicate] at h3
    have hb : P.built t ((ps.map fun (i, x) => (i, a.eval x)).toList) = some vals' := by
      unfold Program.built
      simp only [hi, hu, hz, hei]
      have : z.cells = ((List.replicate n' (zcells ety.k)).flatten).toArray := by
        apply Array.ext'
        rw [hzc]; rfl
      rw [this]
      simpa using h1
    refine ⟨.agg vals', ?_, ?_⟩
    · unfold execOp
      rw [ho]
      simp only [Sem.run_bind, run_build w t _ vals' hb, Result.andThen_ok, Sem.run_pure]
    · show VR _ _ _ _ _
      unfold VR
      rw [if_pos (by rfl)]
      exact ⟨_, rfl, h3, h2⟩
  · simp [Dec.sem] at h
  rename_i fs by_ k ht
  obtain ⟨h1, h2, h3, h4, h5, h6⟩ := (hτ t _ ht).fits
  obtain ⟨i, z, hi, hz, hzc, hsz, hby⟩ := (hτ t _ ht).i
  split at h
  rotate_left
  · simp [Dec.sem] at h
  rename_i cs hcs
  split at h
  rotate_left
  · simp [Dec.sem] at h
  simp only [Dec.sem, Option.some.injEq] at h
  subst h
  obtain ⟨places, hpl⟩ : ∃ places, (P.fieldsOf t).toList.mapM (fun f => (P.info? f.type).map fun i => (f.offset, i.size)) = some places := by
    refine mapM_some_of fun f hf => ?_
    have := (h6 f hf).2
    cases hif : P.info? f.type with
    | none => rw [hif] at this; simp at this
    | some i => exact ⟨_, rfl⟩
  refine Does.pure fun ρ a w I => ?_
  rw [← h3] at hcs
  obtain ⟨vals', e1, e2⟩ := built_ok hτ I hpl ps.toList _ cs z.cells.toList hcs (by rw [hzc]; exact flatZ_ok _)
  have hb : P.built t ((ps.map fun (i, x) => (i, a.eval x)).toList) = some vals' := by
    unfold Program.built
    simp only [hi, h1, hz, hpl]
    simpa using e1
  refine ⟨.agg vals', ?_, by simpa using pack_ok h2 e2⟩
  unfold execOp
  rw [ho]
  simp only [Sem.run_bind, run_build w t _ vals' hb, Result.andThen_ok, Sem.run_pure]
theorem does_buildSlice (hτ : TauOK P τ) (hsub : ∀ id row, h' id = some row → s.h id = some row) (hd' : ∀ d, o.dst = some d → h' d = s.h d) {t n : Nat} {ps : Array (Nat × Operand)} (ho : o.op = .buildSlice t n ps) (h : (effS τ s.ev h' o).sem = some E) : Does P C s o E := by
  unfold effS at h
  rw [ho] at h
  simp only at h
  split at h
  rotate_left
  · simp [Dec.sem] at h
  rename_i e by_ k d ht hd
  obtain ⟨hu, ety, hety, hk⟩ := (hτ t _ ht).fits
  simp only [K.slice.injEq] at hk
  subst hk
  have hpos := (hτ e ety hety).pos
  obtain ⟨i, z, hi, hz, hzc, hsz, hby⟩ := (hτ e ety hety).i
  have hn : nver h' d = nver s.h d := by simp [nver, hd' d hd]
  rw [hn] at h
  split at h
  rotate_left
  · simp [Dec.sem] at h
  rename_i xs hxs
  split at hxs
  rotate_left
  · cases hxs
  rename_i hsmall
  simp only [Dec.sem, Option.some.injEq] at h
  subst h
  intro ρ a w I
  have hzl : z.cells.size = i.size := by rw [hsz, ← RC_len (RC_zero w (fun _ => False) ety.k), ← hzc]; simp
  have hmade : madeCells z.cells (n * i.size) = ((List.replicate n (zcells ety.k)).flatten).toArray := by
    apply Array.ext'
    rw [← hzl, made_flat, hzc]
  obtain ⟨vals', h1, h2, h3⟩ := set_ok I hsub hsz ps.toList _ xs _ hxs (RL_replicate (RC_zero _ _ _) n)
  rw [List.length_replicate] at h3
  have hvl : vals'.size = n * i.size := by
    have := RL_len (m := ety.k.cells) (fun x c hx => RC_len hx) h2
    rw [h3] at this
    rw [hsz]; simpa using this
  have hrun : (Instr.buildSlice t n (ps.map fun (i, x) => (i, a.eval x))).run P w = .ok (.slice (some ⟨w.heap.size, 0, none⟩) n n) (w.alloc (.cells vals' e)) := by
    have hfill : Instr.fill (fun j => some (j * i.size, i.size)) (madeCells z.cells (n * i.size)) ((ps.map fun (i, x) => (i, a.eval x)).toList) = some vals' := by
      rw [hmade]; simpa using h1
    by_cases h0 : n * i.size = 0
    · have hn0 : n = 0 := by
        rcases Nat.mul_eq_zero.1 h0 with h | h
        · exact h
        · omega
      subst hn0
      have hm0 : madeCells z.cells (0 * i.size) = #[] := by simp [madeCells]
      rw [hm0] at hfill
      simp only [Instr.buildSlice, Sem.run_bind, run_underlying hu, Result.andThen_ok, run_sizeOf hi, Nat.zero_mul]
      have hfill' : Instr.fill (fun j => some (j * i.size, i.size)) #[] (List.map (fun x => (x.fst, a.eval x.snd)) ps.toList) = some vals' := by simpa using hfill
      simp [hfill', newRow, Array.range_zero']
    · exact run_buildSlice w t e n _ vals' i z hu hi hz (by rw [hsz]; show ¬ n * ety.k.cells > 2 ^ 24; omega) h0 hfill
  have hown : (w.alloc (.cells vals' e)).ownsRow C.w0.heap.size e ety.k.cells (.slice (some ⟨w.heap.size, 0, none⟩) n n) xs.length vals'.toList := by
    rw [h3, ← hsz]
    refine World.ownsRow_lit w vals' n I.fr.size ?_ hvl
    have : n ≤ n * ety.k.cells := Nat.le_mul_of_pos_right n hpos
    simp only [maxLen]; omega
  obtain ⟨I', mo⟩ := I.make (d := d) (row' := ⟨nver s.h d, true, e, .list ety.k xs⟩) (v' := .slice (some ⟨w.heap.size, 0, none⟩) n n) (w' := w.alloc (.cells vals' e)) (World.grownBy_alloc w _ none) rfl
    (fun b hb => by simp only [blk, Option.some.injEq] at hb; omega)
    (fun m => ⟨_, World.ownsRow.holds (fun b hb => .inl hb) hown, RL_imp (fun x c hx => RC_mono m.rd hx) h2, fun h => by cases h⟩)
  refine ⟨_, .slice (some ⟨w.heap.size, 0, none⟩) n n, _, _, ?_, .inl rfl, I', fun _ => rfl, _, upd_same _ _ _, Nat.le_refl _, fun _ => ⟨trivial, ?_⟩⟩
  · unfold execOp
    rw [ho]
    simp only [Sem.run_bind, hrun, Result.andThen_ok, Sem.run_pure]
  · show _ = upd ρ d _ d; rw [upd_same]
end Go.Proofs.Ytkgjchmfiohciaa.Den
