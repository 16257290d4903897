/- append. -/
import Derived.Test.YtkgjchmfiohciaaDenS11b
namespace Go.Proofs.Ytkgjchmfiohciaa.Den
open Go.RowKit
set_option linter.unusedVariables false
set_option linter.unusedSimpArgs false
variable {P : Program} {τ : Nat → Option Ty} {C : Cx} {s : St} {o : Oper} {E : Eff} {h' : Nat → Option Row}
theorem ownBlock_blk {A : Option Addr} {n c : Nat} : (Value.slice A n c).ownBlock = blk (.slice A n c) := by cases A <;> rfl
/-- Appending something to a row of the call's own: in place, or in a new block. -/
theorem run_append2 (w : World) (base : Nat) (t ty e : TypeId) (i : TypeInfo) (z : Value) (ht : P.underlying t = some (.slice e)) (hi : P.info? e = some i) (hz : i.zero = some z)
    (hzs : z.cells.size = i.size) (v : Value) (n : Nat) (xs : List Value) (hown : w.ownsRow base e i.size v n xs)
    (a : Addr) (m c : Nat) (news : List Value) (hl : news.length = m * i.size) (hnews : ∀ j u, news[j]? = some u → w.cell? (a.add j) = some u) (h1 : ∀ u ∈ news, u.oneCell' = true)
    (hm : 0 < m) (h63 : n + m ≤ maxLen) (hbytes : (n + m) * i.bytes ≤ 140737488355328) (hbase : base ≤ w.heap.size) :
    ∃ v' w', (Builtin.append_ #[t, t] ty #[v, .slice (some a) m c]).run P w = .ok v' w' ∧ w'.ownsRow base e i.size v' (n + m) (xs ++ news) ∧ w.grownBy w' v.ownBlock ∧
      (∀ b, blk v' = some b → blk v = some b ∨ w.heap.size ≤ b) := by
  have hsmall : n + m ≤ 9223372036854775807 := by simp only [maxLen] at h63; omega
  have hlen : (xs ++ news).length = (n + m) * i.size := by rw [List.length_append, hown.1, hl, Nat.add_mul]
  have grown : ∀ (old : Nat), old < n + m → ∀ (row : Option Nat),
      (w.drew.alloc (.cells (xs.toArray ++ news.toArray ++ Builtin.zeroCells z.cells (grownCap w (n + m) old e - (n + m))) e)).ownsRow base e i.size
        (.slice (some ⟨w.heap.size, 0, none⟩) (n + m) (grownCap w (n + m) old e)) (n + m) (xs ++ news) ∧
      w.grownBy (w.drew.alloc (.cells (xs.toArray ++ news.toArray ++ Builtin.zeroCells z.cells (grownCap w (n + m) old e - (n + m))) e)) row := by
    intro old ho row
    have hge := grownCap_ge w (n + m) old e
    have hcm : grownCap w (n + m) old e ≤ maxLen := grownCap_le_maxLen w (n + m) old e h63
    refine ⟨⟨hlen, .inr ⟨w.heap.size, _, _, rfl, hbase, Go.heap_alloc_new w.drew _, hge, hcm, ?_, ?_⟩⟩, ⟨rfl, rfl, rfl, by simp, fun k hk _ => Go.heap_alloc_old w.drew _ hk⟩⟩
    · simp only [Array.size_append, List.size_toArray, size_zeroCells, hzs, hown.1, hl, ← Nat.add_mul]
      congr 1
      omega
    · simp only [Array.toList_append, List.append_assoc]
      rw [← List.append_assoc, ← hlen]
      exact List.take_left
  rcases hown.2 with ⟨rfl, rfl⟩ | ⟨g, cap, cur, rfl, hbg, hg, hnc, hcm, hcs, htake⟩
  · have hx : xs = [] := List.eq_nil_of_length_eq_zero (by simpa using hown.1)
    subst hx
    have hr := run_append_nil (P := P) w t ty e i z ht hi hz a m c news hl hnews hm (by omega) (by have hb := hbytes; simp only [Nat.zero_add] at hb; omega)
    have hgr := grown 0 (by omega) (Value.ownBlock (.slice none 0 0))
    simp only [Nat.zero_add, List.nil_append, Array.empty_append] at hgr ⊢
    exact ⟨_, _, hr, hgr.1, hgr.2, fun b hb => by simp only [blk, Option.some.injEq] at hb; exact .inr (by omega)⟩
  · by_cases hroom : n + m ≤ cap
    · have hfit : n * i.size + news.length ≤ cur.size := by rw [hl, hcs, ← Nat.add_mul]; exact Nat.mul_le_mul_right _ hroom
      have hr := run_append_room (P := P) w t ty e i ht hi g n cap cur hg a m c news hl hnews h1 hroom hfit
      refine ⟨_, _, hr, ⟨hlen, .inr ⟨g, cap, _, rfl, hbg, setRow_heap w g cur _ e _ hg, hroom, hcm, ?_, ?_⟩⟩, ⟨rfl, rfl, rfl, by simp, fun k _ hk => setRow_other w g k _ (fun e => hk (by simp [Value.ownBlock, e]))⟩, fun b hb => .inl hb⟩
      · simp only [List.size_toArray, List.length_append, List.length_take, List.length_drop, Array.length_toList]
        omega
      · rw [htake, ← hlen]
        exact List.take_left
    · have holds : ∀ j u, xs[j]? = some u → w.cell? ((⟨g, 0, none⟩ : Addr).add j) = some u := hown.cells (g := g) rfl
      have hr := run_append_grow (P := P) w t ty e i z ht hi hz ⟨g, 0, none⟩ n cap xs hown.1 holds a m c news hl hnews (by omega) (by omega) (growslice_fits (by omega) hbytes)
      have hgr := grown cap (by omega) (Value.ownBlock (.slice (some ⟨g, 0, none⟩) n cap))
      exact ⟨_, _, hr, hgr.1, hgr.2, fun b hb => by simp only [blk, Option.some.injEq] at hb; exact .inr (by omega)⟩
theorem run_append_empty (w : World) {t ty e : TypeId} {i : TypeInfo} (ht : P.underlying t = some (.slice e)) (hi : P.info? e = some i) {A B : Option Addr} {n c d : Nat} (hnc : n ≤ c) :
    (Builtin.append_ #[t, t] ty #[.slice A n c, .slice B 0 d]).run P w = .ok (.slice A n c) w := by
  cases A <;> cases B <;> simp [Builtin.append_, run_underlying ht, sizeOf, typeInfo, hi, Builtin.lenOf, Builtin.firstCells, loadCells, loadCellsFrom, hnc, storeCells]
theorem does_append (hτ : TauOK P τ) (hsub : ∀ id row, h' id = some row → s.h id = some row) (hd' : ∀ d, o.dst = some d → h' d = s.h d) {qs : Array Operand} {ts : Array TypeId} (ho : o.op = .call { callee := .builtin .append, args := qs, argTypes := ts })
    (h : (effS τ s.ev h' o).sem = some E) : Does P C s o E := by
  unfold effS at h
  rw [ho] at h
  simp only [effCall, effAppend] at h
  split at h
  rotate_left
  · simp [Dec.sem] at h
  rename_i q x t t' hq ht
  obtain rfl := args2 hq
  obtain rfl := args2 ht
  split at h
  rotate_left
  · exact does_append_str hτ hsub ho h
  rename_i e
  subst e
  split at h
  rotate_left
  · simp [Dec.sem] at h
  rename_i e by_ k hty
  obtain ⟨hu, ety', hety', hk⟩ := (hτ t' _ hty).fits
  split at h
  rotate_left
  · simp [Dec.sem] at h
  rename_i ety ys hety hys
  rw [hety] at hety'
  injection hety' with hety'
  subst hety'
  simp only [K.slice.injEq] at hk
  subst hk
  have hpos := (hτ e ety hety).pos
  obtain ⟨i, z, hi, hz, hzc, hsz, hby⟩ := (hτ e ety hety).i
  have hzs : z.cells.size = i.size := by
    rw [hsz, ← RC_len (RC_zero C.w0 (fun _ => False) ety.k), ← hzc]; simp
  split at h
  rotate_left
  · simp [Dec.sem] at h
  rename_i hbpos
  have small : ∀ n : Nat, n * ety.bytes ≤ 140737488355328 → n ≤ maxLen := by
    intro n hn
    have : n ≤ n * ety.bytes := Nat.le_mul_of_pos_right n hbpos
    simp only [maxLen]
    omega
  -- what is appended
  have hadd : ∀ ρ a w, Inv C ρ s a w → ∃ A cap vals, a.eval x = .slice A ys.length cap ∧ RL (RC w (Rd C s.h ρ w) ety.k) ys vals ∧ vals.length = ys.length * i.size ∧ (∀ u ∈ vals, u.oneCell' = true) ∧
      (0 < ys.length → ∃ ad, A = some ad ∧ ∀ j u, vals[j]? = some u → w.cell? (ad.add j) = some u) := by
    intro ρ a w I
    obtain ⟨A, cap, vals, hv, hc, hl, hA⟩ := rdSl_reads I hsub hys (I.ev x)
    have hlen : vals.length = ys.length * i.size := by rw [hsz]; exact RL_len (fun x c hx => RC_len hx) hl
    refine ⟨A, cap, vals, hv, hl, hlen, RL_one (fun x c hx => RC_one hx) hl, fun hp => ?_⟩
    have hne : vals ≠ [] := by
      intro e
      rw [e] at hlen
      have : 0 < ys.length * i.size := Nat.mul_pos hp (by omega)
      simp at hlen
      omega
    obtain ⟨b, off, rfl, hat⟩ := hA hne
    exact ⟨_, rfl, fun j u hu => by rw [addr_add]; exact hat j u hu⟩
  have run : ∀ (a : Act) (w w' : World) (u : Value), (Builtin.append_ #[t', t'] o.type #[a.eval q, a.eval x]).run P w = .ok u w' → (execOp a.eval o).run P w = .ok (.value u) w' := by
    intro a w w' u hr
    refine run_builtin ho ?_
    simp only [builtin, List.map_toArray, List.map_cons, List.map_nil, Sem.run_bind, hr, Result.andThen_ok, Sem.run_pure]
  split at h
  · -- onto a slice whose capacity is its length
    rename_i k' xs hq
    split at h
    rotate_left
    · simp [Dec.sem] at h
    rename_i e'
    subst e'
    simp only [Dec.guard, Dec.sem, castS_rfl] at h
    split at h
    rotate_left
    · simp at h
    rename_i hb
    have hb := of_decide_eq_true hb
    simp only [Option.some.injEq] at h
    subst h
    intro ρ a w I
    have hv : rel (envOf C ρ s.h w) (.pc ety.k xs) (a.eval q) := hq ▸ I.ev q
    obtain ⟨A, he, hrc⟩ := hv
    obtain ⟨B, cap, vals, hx, hl, hlen, h1, hB⟩ := hadd ρ a w I
    rcases Nat.eq_zero_or_pos ys.length with h0 | hp
    · have : ys = [] := List.eq_nil_of_length_eq_zero h0
      subst this
      refine ⟨_, a.eval q, w, ρ, run a w w _ ?_, .inl rfl, I, ?_⟩
      · rw [he, hx]
        exact run_append_empty w hu hi (Nat.le_refl _)
      · show VR _ _ _ _ _
        unfold VR
        rw [if_neg (by simp [K.agg]), List.append_nil]
        exact hrc
    · obtain ⟨ad, rfl, hnews⟩ := hB hp
      obtain ⟨A', cap', vals', q1, q2, q3, q4⟩ := hrc
      rw [he] at q1
      simp only [List.cons.injEq, and_true, Value.slice.injEq, true_and] at q1
      obtain ⟨rfl, rfl⟩ := q1
      have hlen' : vals'.length = xs.length * i.size := by rw [hsz]; exact RL_len (fun x c hx => RC_len hx) q3
      -- the new block reads as both
      have key : ∀ (w' : World) (g : Nat) (c : Nat), w.grownBy w' none → w.heap.size ≤ g → g < w'.heap.size → xs.length + ys.length ≤ c → At w' g 0 (vals' ++ vals) → Inv C ρ s a w' ∧ rel (envOf C ρ s.h w') (.p (.slice ety.k) (xs ++ ys)) (.slice (some ⟨g, 0, none⟩) (xs.length + ys.length) c) := by
        intro w' g c hg h2 h3 hcc hat
        obtain ⟨I', m⟩ := I.grow hg
        refine ⟨I', ?_⟩
        show VR _ _ _ _ _
        unfold VR
        rw [if_neg (by simp [K.agg])]
        refine ⟨_, c, vals' ++ vals, by rw [List.length_append], by rw [List.length_append]; exact hcc, RL_append (RL_imp (fun x c hx => RC_mono m.rd hx) q3) (RL_imp (fun x c hx => RC_mono m.rd hx) hl), fun _ => ⟨g, 0, rfl, ⟨h3, .inr (.inl (Nat.le_trans I.fr.size h2)), fun id r hr hw he => ?_⟩, hat⟩⟩
        have := ((I.rows id r hr).blk_lt he).2
        simp only at this
        omega
      cases A with
      | none =>
        have hxs : xs = [] := by
          by_cases e : vals' = []
          · rw [e] at hlen'
            have h0 : xs.length * i.size = 0 := hlen'.symm
            rcases Nat.mul_eq_zero.1 h0 with h | h
            · exact List.eq_nil_of_length_eq_zero h
            · omega
          · obtain ⟨b, off, h, _⟩ := q4 e
            simp at h
        subst hxs
        have hv' : vals' = [] := q3
        subst hv'
        have hr := run_append_nil (P := P) w t' o.type e i z hu hi hz ad ys.length cap vals hlen hnews hp (by
          have := small _ hb; simp only [maxLen] at this; simp at this; omega) (by rw [hby]; simp at hb; omega)
        obtain ⟨I', hr2⟩ := key (w.drew.alloc (.cells (vals.toArray ++ Builtin.zeroCells z.cells (grownCap w ys.length 0 e - ys.length)) e)) w.heap.size (grownCap w ys.length 0 e) (by exact ⟨rfl, rfl, rfl, by simp, fun k hk _ => Go.heap_alloc_old w.drew _ hk⟩) (Nat.le_refl _) (by simp) (by simpa using grownCap_ge w ys.length 0 e) (by
          intro j u hu'
          have hc := Go.heap_alloc_new w.drew (.cells (vals.toArray ++ Builtin.zeroCells z.cells (grownCap w ys.length 0 e - ys.length)) e)
          rw [World.size_drew] at hc
          rw [Nat.zero_add, cell_of_row _ _ _ _ _ _ hc]
          simp only [List.nil_append] at hu'
          have hj := (List.getElem?_eq_some_iff.1 hu').1
          rw [Array.getElem?_append_left (by simpa using hj)]
          simpa using hu')
        refine ⟨_, _, _, ρ, run a w _ _ ?_, .inl rfl, I', by simpa [hupd] using hr2⟩
        rw [he, hx]
        exact hr
      | some b0 =>
        have holds : ∀ j u, vals'[j]? = some u → w.cell? (b0.add j) = some u := by
          intro j u hj
          obtain ⟨b, off, e1, _, hat⟩ := q4 (by rintro rfl; simp at hj)
          injection e1 with e1
          rw [e1, addr_add]
          exact hat j u hj
        have hr := run_append_grow (P := P) w t' o.type e i z hu hi hz b0 xs.length xs.length vals' hlen' holds ad ys.length cap vals hlen hnews (by omega) (by
          have := small _ hb; simp only [maxLen] at this; omega) (growslice_fits (by omega) (by rw [hby]; exact hb))
        obtain ⟨I', hr2⟩ := key (w.drew.alloc (.cells (vals'.toArray ++ vals.toArray ++ Builtin.zeroCells z.cells (grownCap w (xs.length + ys.length) xs.length e - (xs.length + ys.length))) e)) w.heap.size (grownCap w (xs.length + ys.length) xs.length e) (by exact ⟨rfl, rfl, rfl, by simp, fun k hk _ => Go.heap_alloc_old w.drew _ hk⟩) (Nat.le_refl _) (by simp) (grownCap_ge w (xs.length + ys.length) xs.length e) (by
          intro j u hu'
          have hc := Go.heap_alloc_new w.drew (.cells (vals'.toArray ++ vals.toArray ++ Builtin.zeroCells z.cells (grownCap w (xs.length + ys.length) xs.length e - (xs.length + ys.length))) e)
          rw [World.size_drew] at hc
          rw [Nat.zero_add, cell_of_row _ _ _ _ _ _ hc]
          have hj := (List.getElem?_eq_some_iff.1 hu').1
          rw [Array.getElem?_append_left (by simpa using hj)]
          simpa using hu')
        refine ⟨_, _, _, ρ, run a w _ _ ?_, .inl rfl, I', hr2⟩
        rw [he, hx]
        exact hr
  · -- onto nothing
    rename_i hq
    split at h
    rotate_left
    · simp [Dec.sem] at h
    rename_i d hd
    have hn : nver h' d = nver s.h d := by simp [nver, hd' d hd]
    rw [hn] at h
    simp only [Dec.guard, Dec.sem] at h
    split at h
    rotate_left
    · simp at h
    rename_i hb
    have hb := of_decide_eq_true hb
    simp only [Option.some.injEq] at h
    subst h
    intro ρ a w I
    have hv : rel (envOf C ρ s.h w) .nilsl (a.eval q) := hq ▸ I.ev q
    have hv : a.eval q = .slice none 0 0 := hv
    obtain ⟨B, cap, vals, hx, hl, hlen, h1, hB⟩ := hadd ρ a w I
    have fin : ∀ (v' : Value) (w' : World), w'.ownsRow C.w0.heap.size e ety.k.cells v' ys.length vals → w.grownBy w' none → (∀ b, blk v' = some b → w.heap.size ≤ b) →
        Inv C (upd ρ d v') ⟨s.t, upd s.h d (some ⟨nver s.h d, true, e, .list ety.k ys⟩)⟩ a w' ∧ rel (envOf C (upd ρ d v') (upd s.h d (some ⟨nver s.h d, true, e, .list ety.k ys⟩)) w') (.slw d (nver s.h d) false) v' := by
      intro v' w' hown hg hblk
      obtain ⟨I', m⟩ := I.make (d := d) (row' := ⟨nver s.h d, true, e, .list ety.k ys⟩) (v' := v') (w' := w') hg rfl hblk
        (fun m => ⟨vals, World.ownsRow.holds (fun b hb => .inl hb) hown, RL_imp (fun x c hx => RC_mono m.rd hx) hl, fun h => by cases h⟩)
      refine ⟨I', ?_, _, upd_same _ _ _, Nat.le_refl _, fun _ => ⟨trivial, ?_⟩⟩
      · rcases hown.2 with ⟨he, _⟩ | ⟨g, cap, cur, he, _⟩ <;> (rw [he]; exact fun h => by cases h)
      · show v' = upd ρ d v' d; rw [upd_same]
    rcases Nat.eq_zero_or_pos ys.length with h0 | hp
    · have : ys = [] := List.eq_nil_of_length_eq_zero h0
      subst this
      have hv0 : vals = [] := hl
      subst hv0
      obtain ⟨I', hr⟩ := fin (.slice none 0 0) w (World.ownsRow_nil _ _ _ _) (grownBy_refl w none) (fun b hb => by simp [blk] at hb)
      refine ⟨_, _, w, _, run a w w _ ?_, .inl rfl, I', hr⟩
      rw [hv, hx]
      exact run_append_empty w hu hi (Nat.le_refl _)
    · obtain ⟨ad, rfl, hnews⟩ := hB hp
      obtain ⟨v', w', hr, hown, hg, hbl⟩ := run_append2 w C.w0.heap.size t' o.type e i z hu hi hz hzs (.slice none 0 0) 0 [] (World.ownsRow_nil _ _ _ _) ad ys.length cap vals hlen hnews h1 hp (by simpa using small _ hb) (by rw [hby]; simpa using hb) I.fr.size
      obtain ⟨I', hrel⟩ := fin v' w' (by simpa [hsz] using hown) hg (fun b hb => by
        rcases hbl b hb with h | h
        · simp [blk] at h
        · exact h)
      refine ⟨_, v', w', _, run a w w' _ ?_, .inl rfl, I', hrel⟩
      rw [hv, hx]
      exact hr
  · -- onto a row of the call's own
    rename_i id ver fl hq
    split at h
    rotate_left
    · simp [Dec.sem] at h
    rename_i rv rt k' xs hrow
    split at h
    rotate_left
    · simp [Dec.sem] at h
    rename_i e'
    obtain ⟨rfl, rfl, rfl⟩ := e'
    simp only [Dec.guard, Dec.sem, castS_rfl] at h
    split at h
    rotate_left
    · simp at h
    rename_i hb
    have hb := of_decide_eq_true hb
    simp only [Option.some.injEq] at h
    subst h
    intro ρ a w I
    have h4 := hsub _ _ hrow
    have hv : rel (envOf C ρ s.h w) (.slw id rv fl) (a.eval q) := hq ▸ I.ev q
    obtain ⟨e0, row, e1, e2, e3⟩ := hv
    have e1 : s.h id = some row := e1
    rw [h4] at e1
    injection e1 with e1
    subst e1
    obtain ⟨_, e5⟩ := e3 rfl
    have e5 : a.eval q = ρ id := e5
    obtain ⟨B, cap, vals, hx, hl, hlen, h1, hB⟩ := hadd ρ a w I
    obtain ⟨olds, hown, hlo, _⟩ := I.rows id _ h4
    have hown0 : World.holds w C.own rt ety.k.cells (ρ id) xs.length olds := hown
    have hown : w.ownsRow 0 rt ety.k.cells (ρ id) xs.length olds := hown0.ownsRow (by rw [← e5]; exact e0.sl)
    have fin : ∀ (v' : Value) (w' : World), w'.ownsRow 0 rt ety.k.cells v' (xs.length + ys.length) (olds ++ vals) → w.grownBy w' (blk (ρ id)) → (∀ b, blk v' = some b → blk (ρ id) = some b ∨ w.heap.size ≤ b) →
        Inv C (upd ρ id v') ⟨s.t, upd s.h id (some ⟨rv + 1, true, rt, .list ety.k (xs ++ ys)⟩)⟩ a w' ∧ rel (envOf C (upd ρ id v') (upd s.h id (some ⟨rv + 1, true, rt, .list ety.k (xs ++ ys)⟩)) w') (.slw id (rv + 1) false) v' := by
      intro v' w' hown' hg hblk
      obtain ⟨I', m⟩ := Inv.change (C := C) I (id := id) (row' := ⟨rv + 1, true, rt, .list ety.k (xs ++ ys)⟩) (v' := v') (w' := w') (blk (ρ id))
        (fun b hb => ⟨_, h4, rfl, hb⟩) hg
        (fun r hr => by rw [h4] at hr; injection hr with hr; subst hr; exact ⟨Nat.le_succ _, fun h => by simp at h⟩)
        (fun b hb => by
          rcases hblk b hb with h | h
          · exact .inl ⟨_, h4, h, fun h => h⟩
          · exact .inr h)
        (fun m => ⟨olds ++ vals, by rw [List.length_append]; exact World.ownsRow.holds' hown' (fun b hb => by rcases hblk b hb with h | h; exact (hown0.own_of h).1; exact .inl (Nat.le_trans I.fr.size h)), RL_append (RL_imp (fun x c hx => RC_mono m.rd hx) hlo) (RL_imp (fun x c hx => RC_mono m.rd hx) hl), fun h => by cases h⟩)
      refine ⟨I', ?_, _, upd_same _ _ _, Nat.le_refl _, fun _ => ⟨trivial, ?_⟩⟩
      · rcases hown'.2 with ⟨he, _⟩ | ⟨g, cap, cur, he, _⟩ <;> (rw [he]; exact fun h => by cases h)
      · show v' = upd ρ id v' id; rw [upd_same]
    have hsl : ∃ A c, ρ id = .slice A xs.length c ∧ xs.length ≤ c := by
      rcases hown.2 with ⟨he, hn⟩ | ⟨g, cap, cur, he, _, _, hnc, _⟩
      · exact ⟨none, 0, by rw [he, hn], by omega⟩
      · exact ⟨_, cap, he, hnc⟩
    obtain ⟨A, c, hA, hAc⟩ := hsl
    rcases Nat.eq_zero_or_pos ys.length with h0 | hp
    · have : ys = [] := List.eq_nil_of_length_eq_zero h0
      subst this
      have hv0 : vals = [] := hl
      subst hv0
      obtain ⟨I', hr⟩ := fin (ρ id) w (by simpa using hown) (grownBy_refl w _) (fun b hb => .inl hb)
      refine ⟨_, _, w, _, run a w w _ ?_, .inl rfl, I', hr⟩
      rw [e5, hx, hA]
      exact run_append_empty w hu hi hAc
    · obtain ⟨ad, rfl, hnews⟩ := hB hp
      obtain ⟨v', w', hr, hown', hg, hbl⟩ := run_append2 w 0 t' o.type rt i z hu hi hz hzs (ρ id) xs.length olds (by rw [hsz]; exact hown) ad ys.length cap vals hlen hnews h1 hp (small _ hb) (by rw [hby]; exact hb) (Nat.zero_le _)
      have hob : (ρ id).ownBlock = blk (ρ id) := by rw [hA]; exact ownBlock_blk
      obtain ⟨I', hrel⟩ := fin v' w' (by rw [← hsz]; exact hown') (by rw [← hob]; exact hg) hbl
      refine ⟨_, v', w', _, run a w w' _ ?_, .inl rfl, I', hrel⟩
      rw [e5, hx]
      exact hr
  · -- onto the beginning of a row of the call's own
    rename_i id ver len hq
    split at h
    rotate_left
    · simp [Dec.sem] at h
    rename_i rv rt k' xs hrow
    split at h
    rotate_left
    · simp [Dec.sem] at h
    rename_i e'
    obtain ⟨rfl, rfl, rfl⟩ := e'
    simp only [Dec.guard, Dec.sem, castS_rfl] at h
    split at h
    rotate_left
    · simp at h
    rename_i hb
    have hb := of_decide_eq_true hb
    simp only [Option.some.injEq] at h
    subst h
    intro ρ a w I
    have h4 := hsub _ _ hrow
    have hv : rel (envOf C ρ s.h w) (.sl id rv 0 len) (a.eval q) := hq ▸ I.ev q
    obtain ⟨e0, row, e1, e2, e3⟩ := hv
    have e1 : s.h id = some row := e1
    rw [h4] at e1
    injection e1 with e1
    subst e1
    obtain ⟨hslρ, k2, xs2, A, c, hb2, hof, hlc, hA, _, hz0⟩ := e3 rfl
    simp only [RowB.list.injEq] at hb2
    obtain ⟨rfl, hb2⟩ := hb2
    have hb2 := eq_of_heq hb2
    subst hb2
    have hz1 := hz0 rfl
    have hslρ : isSl (ρ id) := hslρ
    obtain ⟨B, cap, vals, hx, hl, hlen, h1, hB⟩ := hadd ρ a w I
    obtain ⟨olds, hown, hlo, _⟩ := I.rows id _ h4
    have hown0 : World.holds w C.own rt ety.k.cells (ρ id) xs.length olds := hown
    have hlt : len ≤ xs.length := by omega
    have htl : (xs.take len).length = len := by rw [List.length_take]; omega
    have hown : w.ownsRow 0 rt ety.k.cells (.slice A len c) len (olds.take (len * ety.k.cells)) ∧ (∀ b, blk (.slice A len c) = some b → blk (ρ id) = some b) := by
      rcases hown0.2 with ⟨he, hn⟩ | ⟨g, cp, cur, he, hog, hg, hnc, hcm, hcs, htk⟩
      · obtain ⟨rfl, rfl⟩ := hz1 none 0 0 (by show ρ id = _; rw [he])
        have : len = 0 := by omega
        subst this
        exact ⟨⟨by simp, .inl ⟨rfl, rfl⟩⟩, fun b hb => by simp [blk] at hb⟩
      · have hAc : A = some ⟨g, 0, none⟩ ∧ c = cp ∧ blk (ρ id) = some g := by
          rcases he with he | ⟨he, hcp⟩
          · obtain ⟨rfl, rfl⟩ := hz1 _ _ _ he
            exact ⟨rfl, rfl, by rw [he]; rfl⟩
          · rw [he] at hslρ; exact hslρ.elim
        obtain ⟨rfl, rfl, hbk⟩ := hAc
        refine ⟨⟨?_, .inr ⟨g, c, cur, rfl, Nat.zero_le _, hg, by omega, hcm, hcs, ?_⟩⟩, fun b hb => by simp only [blk, Option.some.injEq] at hb; rw [← hb]; exact hbk⟩
        · rw [List.length_take, hown0.1]
          exact Nat.min_eq_left (Nat.mul_le_mul_right _ hlt)
        · rw [← htk, List.take_take, Nat.min_eq_left (Nat.mul_le_mul_right _ hlt)]
    obtain ⟨hown, hbk⟩ := hown
    have hlo' : RL (RC w (Rd C s.h ρ w) ety.k) (xs.take len) (olds.take (len * ety.k.cells)) := RL_take (fun x c hx => RC_len hx) len hlo
    have fin : ∀ (v' : Value) (w' : World), w'.ownsRow 0 rt ety.k.cells v' (len + ys.length) (olds.take (len * ety.k.cells) ++ vals) → w.grownBy w' (blk (.slice A len c)) → (∀ b, blk v' = some b → blk (.slice A len c) = some b ∨ w.heap.size ≤ b) →
        Inv C (upd ρ id v') ⟨s.t, upd s.h id (some ⟨rv + 1, true, rt, .list ety.k (xs.take len ++ ys)⟩)⟩ a w' ∧ rel (envOf C (upd ρ id v') (upd s.h id (some ⟨rv + 1, true, rt, .list ety.k (xs.take len ++ ys)⟩)) w') (.slw id (rv + 1) false) v' := by
      intro v' w' hown' hg hblk
      obtain ⟨I', m⟩ := Inv.change (C := C) I (id := id) (row' := ⟨rv + 1, true, rt, .list ety.k (xs.take len ++ ys)⟩) (v' := v') (w' := w') (blk (.slice A len c))
        (fun b hb => ⟨_, h4, rfl, hbk b hb⟩) hg
        (fun r hr => by rw [h4] at hr; injection hr with hr; subst hr; exact ⟨Nat.le_succ _, fun h => by simp at h⟩)
        (fun b hb => by
          rcases hblk b hb with h | h
          · exact .inl ⟨_, h4, hbk b h, fun h => h⟩
          · exact .inr h)
        (fun m => ⟨olds.take (len * ety.k.cells) ++ vals, by rw [List.length_append, htl]; exact World.ownsRow.holds' hown' (fun b hb => by rcases hblk b hb with h | h; exact (hown0.own_of (hbk b h)).1; exact .inl (Nat.le_trans I.fr.size h)), RL_append (RL_imp (fun x c hx => RC_mono m.rd hx) hlo') (RL_imp (fun x c hx => RC_mono m.rd hx) hl), fun h => by cases h⟩)
      refine ⟨I', ?_, _, upd_same _ _ _, Nat.le_refl _, fun _ => ⟨trivial, ?_⟩⟩
      · rcases hown'.2 with ⟨he, _⟩ | ⟨g, cap, cur, he, _⟩ <;> (rw [he]; exact fun h => by cases h)
      · show v' = upd ρ id v' id; rw [upd_same]
    rcases Nat.eq_zero_or_pos ys.length with h0 | hp
    · have : ys = [] := List.eq_nil_of_length_eq_zero h0
      subst this
      have hv0 : vals = [] := hl
      subst hv0
      obtain ⟨I', hr⟩ := fin (.slice A len c) w (by simpa using hown) (grownBy_refl w _) (fun b hb => .inl hb)
      refine ⟨_, _, w, _, run a w w _ ?_, .inl rfl, I', hr⟩
      rw [hA, hx]
      exact run_append_empty w hu hi hlc
    · obtain ⟨ad, rfl, hnews⟩ := hB hp
      obtain ⟨v', w', hr, hown', hg, hbl⟩ := run_append2 w 0 t' o.type rt i z hu hi hz hzs (.slice A len c) len _ (by rw [hsz]; exact hown) ad ys.length cap vals hlen hnews h1 hp (small _ hb) (by rw [hby]; exact hb) (Nat.zero_le _)
      obtain ⟨I', hrel⟩ := fin v' w' (by have h := hown'; rw [hsz] at h; exact h) (by rw [← ownBlock_blk]; exact hg) hbl
      refine ⟨_, v', w', _, run a w w' _ ?_, .inl rfl, I', hrel⟩
      rw [hA, hx]
      exact hr
  · simp [Dec.sem] at h
end Go.Proofs.Ytkgjchmfiohciaa.Den
