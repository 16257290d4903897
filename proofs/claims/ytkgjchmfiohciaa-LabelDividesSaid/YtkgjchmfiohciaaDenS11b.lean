/- Appending the bytes of a string. -/
import Derived.Test.YtkgjchmfiohciaaDenS11
namespace Go.Proofs.Ytkgjchmfiohciaa.Den
open Go.RowKit
set_option linter.unusedVariables false
set_option linter.unusedSimpArgs false
variable {P : Program} {τ : Nat → Option Ty} {C : Cx} {s : St} {o : Oper} {E : Eff} {h' : Nat → Option Row}
/-- The cells of a string. -/
def strCells (y : ByteArray) : List Value := y.data.toList.map fun b => .int .u8 b.toNat
theorem strCells_len (y : ByteArray) : (strCells y).length = y.size := by unfold strCells; rw [List.length_map]; exact Array.length_toList
theorem run_firstCells_str (w : World) (y : ByteArray) : (Builtin.firstCells 1 y.size (.string y)).run P w = .ok (strCells y).toArray w := by
  have : (y.extract 0 y.size).data = y.data := by
    have : y.extract 0 y.size = y := by
      apply ByteArray.ext
      simp [ByteArray.data_extract]
    rw [this]
  simp [Builtin.firstCells, this, strCells]
  exact Array.ext' (by simp)
theorem run_append2s (w : World) (base : Nat) (t t' ty e : TypeId) (i : TypeInfo) (z : Value) (ht : P.underlying t = some (.slice e)) (ht' : P.underlying t' = some .string) (hi : P.info? e = some i) (hz : i.zero = some z) (hs1 : i.size = 1)
    (hzs : z.cells.size = i.size) (v : Value) (n : Nat) (xs : List Value) (hown : w.ownsRow base e i.size v n xs)
    (y : ByteArray) (hm : 0 < y.size) (h63 : n + y.size ≤ maxLen) (hbytes : (n + y.size) * i.bytes ≤ 140737488355328) (hbase : base ≤ w.heap.size) :
    ∃ v' w', (Builtin.append_ #[t, t'] ty #[v, .string y]).run P w = .ok v' w' ∧ w'.ownsRow base e i.size v' (n + y.size) (xs ++ strCells y) ∧ w.grownBy w' v.ownBlock ∧
      (∀ b, blk v' = some b → blk v = some b ∨ w.heap.size ≤ b) := by
  have hl := strCells_len y
  have h1 : ∀ u ∈ strCells y, u.oneCell' = true := by
    intro u hu
    unfold strCells at hu
    obtain ⟨b, _, rfl⟩ := List.mem_map.1 hu
    rfl
  have hf : ∀ w : World, (Builtin.firstCells 1 y.size (.string y)).run P w = .ok (strCells y).toArray w := fun w => run_firstCells_str w y
  have hsmall : n + y.size ≤ 9223372036854775807 := by simp only [maxLen] at h63; omega
  have hlen : (xs ++ strCells y).length = (n + y.size) * i.size := by rw [List.length_append, hown.1, hl, Nat.add_mul, hs1]; omega
  have grown : ∀ (old : Nat), old < n + y.size → ∀ (row : Option Nat),
      (w.drew.alloc (.cells (xs.toArray ++ (strCells y).toArray ++ Builtin.zeroCells z.cells (grownCap w (n + y.size) old e - (n + y.size))) e)).ownsRow base e i.size
        (.slice (some ⟨w.heap.size, 0, none⟩) (n + y.size) (grownCap w (n + y.size) old e)) (n + y.size) (xs ++ strCells y) ∧
      w.grownBy (w.drew.alloc (.cells (xs.toArray ++ (strCells y).toArray ++ Builtin.zeroCells z.cells (grownCap w (n + y.size) old e - (n + y.size))) e)) row := by
    intro old ho row
    have hge := grownCap_ge w (n + y.size) old e
    have hcm : grownCap w (n + y.size) old e ≤ maxLen := grownCap_le_maxLen w (n + y.size) old e h63
    refine ⟨⟨hlen, .inr ⟨w.heap.size, _, _, rfl, hbase, Go.heap_alloc_new w.drew _, hge, hcm, ?_, ?_⟩⟩, ⟨rfl, rfl, rfl, by simp, fun k hk _ => Go.heap_alloc_old w.drew _ hk⟩⟩
    · simp only [Array.size_append, List.size_toArray, size_zeroCells, hzs, hown.1, hl, hs1, Nat.mul_one]
      omega
    · simp only [Array.toList_append, List.append_assoc]
      rw [← List.append_assoc, ← hlen]
      exact List.take_left
  rcases hown.2 with ⟨rfl, rfl⟩ | ⟨g, cap, cur, rfl, hbg, hg, hnc, hcm, hcs, htake⟩
  · have hx : xs = [] := List.eq_nil_of_length_eq_zero (by simpa using hown.1)
    subst hx
    have hn : y.size ≠ 0 := by omega
    have h63' : ¬ (9223372036854775807 < (y.size : Int)) := by omega
    have h48' : ¬ (281474976710656 < Builtin.nextslicecap y.size 0 * i.bytes) := by rw [nextslicecap_zero hm]; simp only [Nat.zero_add] at hbytes; omega
    have hr : (Builtin.append_ #[t, t'] ty #[.slice none 0 0, .string y]).run P w = .ok (.slice (some ⟨w.heap.size, 0, none⟩) y.size (grownCap w y.size 0 e)) (w.drew.alloc (.cells ((strCells y).toArray ++ Builtin.zeroCells z.cells (grownCap w y.size 0 e - y.size)) e)) := by
      simp [Builtin.append_, run_underlying ht, run_underlying ht', sizeOf, typeInfo, zeroValue, hi, hz, Builtin.lenOf, hn, h63', h48', Question.forced, run_firstCells_none, hs1, hf, newRow, grownCap]
    have hgr := grown 0 (by omega) (Value.ownBlock (.slice none 0 0))
    simp only [Nat.zero_add, List.nil_append, Array.empty_append] at hgr ⊢
    exact ⟨_, _, hr, hgr.1, hgr.2, fun b hb => by simp only [blk, Option.some.injEq] at hb; exact .inr (by omega)⟩
  · by_cases hroom : n + y.size ≤ cap
    · have hfit : n * i.size + (strCells y).length ≤ cur.size := by rw [hl, hcs, hs1]; omega
      have hst := run_storeCells_at P g (n * i.size) e (strCells y) 0 cur w hg (by simpa using hfit) h1
      simp only [Nat.add_zero] at hst
      have hr : (Builtin.append_ #[t, t'] ty #[.slice (some ⟨g, 0, none⟩) n cap, .string y]).run P w = .ok (.slice (some ⟨g, 0, none⟩) (n + y.size) cap) (w.setRow g (cur.toList.take (n * i.size) ++ strCells y ++ cur.toList.drop (n * i.size + (strCells y).length)).toArray) := by
        rw [hs1] at hst ⊢
        simp [Builtin.append_, run_underlying ht, run_underlying ht', sizeOf, typeInfo, hi, Builtin.lenOf, hroom, hs1, hf, Addr.add_lit]
        simp at hst
        rw [hst]
        rfl
      refine ⟨_, _, hr, ⟨hlen, .inr ⟨g, cap, _, rfl, hbg, setRow_heap w g cur _ e _ hg, hroom, hcm, ?_, ?_⟩⟩, ⟨rfl, rfl, rfl, by simp, fun k _ hk => setRow_other w g k _ (fun e => hk (by simp [Value.ownBlock, e]))⟩, fun b hb => .inl hb⟩
      · simp only [List.size_toArray, List.length_append, List.length_take, List.length_drop, Array.length_toList]
        omega
      · rw [htake, ← hlen]
        exact List.take_left
    · have holds : ∀ j u, xs[j]? = some u → w.cell? ((⟨g, 0, none⟩ : Addr).add j) = some u := hown.cells (g := g) rfl
      have hfo := run_firstCells_some (P := P) w.drew i.size n ⟨g, 0, none⟩ n cap xs hown.1 (by simpa using holds)
      have hn : ¬ (n + y.size ≤ cap) := hroom
      have h63' : ¬ (9223372036854775807 < ((n : Int) + (y.size : Int))) := by omega
      have h48' : ¬ (281474976710656 < Builtin.nextslicecap (n + y.size) cap * i.bytes) := by have := growslice_fits (old := cap) (by omega : cap < n + y.size) hbytes; omega
      have hr : (Builtin.append_ #[t, t'] ty #[.slice (some ⟨g, 0, none⟩) n cap, .string y]).run P w = .ok (.slice (some ⟨w.heap.size, 0, none⟩) (n + y.size) (grownCap w (n + y.size) cap e)) (w.drew.alloc (.cells (xs.toArray ++ (strCells y).toArray ++ Builtin.zeroCells z.cells (grownCap w (n + y.size) cap e - (n + y.size))) e)) := by
        rw [hs1] at hfo
        simp [Builtin.append_, run_underlying ht, run_underlying ht', sizeOf, typeInfo, zeroValue, hi, hz, Builtin.lenOf, hn, h63', h48', Question.forced, hs1, hf, hfo, newRow, grownCap]
        congr 2
        apply Array.ext'
        simp [List.append_assoc]
      have hgr := grown cap (by omega) (Value.ownBlock (.slice (some ⟨g, 0, none⟩) n cap))
      exact ⟨_, _, hr, hgr.1, hgr.2, fun b hb => by simp only [blk, Option.some.injEq] at hb; exact .inr (by omega)⟩
theorem run_append_empty_str (w : World) {t t' ty e : TypeId} {i : TypeInfo} (ht : P.underlying t = some (.slice e)) (ht' : P.underlying t' = some .string) (hi : P.info? e = some i) (hs1 : i.size = 1) {A : Option Addr} {n c : Nat} (hnc : n ≤ c) {y : ByteArray} (hy : y.size = 0) :
    (Builtin.append_ #[t, t'] ty #[.slice A n c, .string y]).run P w = .ok (.slice A n c) w := by
  have hf := run_firstCells_str (P := P) w y
  have h0 : strCells y = [] := List.eq_nil_of_length_eq_zero (by rw [strCells_len]; exact hy)
  rw [hy, h0] at hf
  cases A <;> simp [Builtin.append_, run_underlying ht, run_underlying ht', sizeOf, typeInfo, hi, Builtin.lenOf, hs1, hy, hnc, hf, storeCells]
theorem RL_str {w : World} {rd : Nat → Prop} (y : ByteArray) : RL (RC w rd (.int .u8)) (bytesOf y) (strCells y) := by
  unfold bytesOf strCells
  generalize y.data.toList = l
  induction l with
  | nil => rfl
  | cons b l ih => exact ⟨[.int .u8 b.toNat], _, rfl, rfl, ih⟩
theorem does_append_str (hτ : TauOK P τ) (hsub : ∀ id row, h' id = some row → s.h id = some row) {q x : Operand} {t t' : Nat} (ho : o.op = .call { callee := .builtin .append, args := #[q, x], argTypes := #[t, t'] })
    (h : (effAppendStr τ h' s.ev q x t t').sem = some E) : Does P C s o E := by
  unfold effAppendStr at h
  split at h
  rotate_left
  · simp [Dec.sem] at h
  rename_i e by_ by2 by3 id ver fl y hty hty' hq hx
  obtain ⟨hu, ety', hety', hk⟩ := (hτ t _ hty).fits
  have hu' : P.underlying t' = some .string := (hτ t' _ hty').fits.1
  split at h
  rotate_left
  · simp [Dec.sem] at h
  rename_i ety rv rt k' xs hety hrow
  rw [hety] at hety'
  injection hety' with hety'
  subst hety'
  simp only [K.slice.injEq] at hk
  have hpos := (hτ e ety hety).pos
  obtain ⟨i, z, hi, hz, hzc, hsz, hby⟩ := (hτ e ety hety).i
  have hs1 : i.size = 1 := by rw [hsz, ← hk]; rfl
  have hzs : z.cells.size = i.size := by
    rw [hsz, ← RC_len (RC_zero C.w0 (fun _ => False) ety.k), ← hzc]; simp
  split at h
  rotate_left
  · simp [Dec.sem] at h
  rename_i e'
  obtain ⟨rfl, rfl, rfl, hbpos⟩ := e'
  simp only [Dec.guard, Dec.sem, castS_rfl] at h
  split at h
  rotate_left
  · simp at h
  rename_i hb
  have hb := of_decide_eq_true hb
  simp only [Option.some.injEq] at h
  subst h
  intro ρ a w I
  have h4 := hsub _ _ hrow
  have hv : rel (envOf C ρ s.h w) (.slw id rv fl) (a.eval q) := hq ▸ I.ev q
  have hvx : rel (envOf C ρ s.h w) (.p .str y) (a.eval x) := hx ▸ I.ev x
  have hvx : a.eval x = .string y := by
    have hvx : VR _ _ .str y (a.eval x) := hvx
    unfold VR at hvx
    rw [if_neg (by simp [K.agg])] at hvx
    simpa [RC] using hvx
  obtain ⟨e0, row, e1, e2, e3⟩ := hv
  have e1 : s.h id = some row := e1
  rw [h4] at e1
  injection e1 with e1
  subst e1
  obtain ⟨_, e5⟩ := e3 rfl
  have e5 : a.eval q = ρ id := e5
  obtain ⟨olds, hown, hlo, _⟩ := I.rows id _ h4
  have hown0 : World.holds w C.own rt (K.cells (.int .u8)) (ρ id) xs.length olds := hown
  have hown : w.ownsRow 0 rt (K.cells (.int .u8)) (ρ id) xs.length olds := hown0.ownsRow (by rw [← e5]; exact e0.sl)
  have hbl : (bytesOf y).length = y.size := by unfold bytesOf; rw [List.length_map]; exact Array.length_toList
  have run : ∀ (a : Act) (w w' : World) (u : Value), (Builtin.append_ #[t, t'] o.type #[a.eval q, a.eval x]).run P w = .ok u w' → (execOp a.eval o).run P w = .ok (.value u) w' := by
    intro a w w' u hr
    refine run_builtin ho ?_
    simp only [builtin, List.map_toArray, List.map_cons, List.map_nil, Sem.run_bind, hr, Result.andThen_ok, Sem.run_pure]
  have fin : ∀ (v' : Value) (w' : World), w'.ownsRow 0 rt (K.cells (.int .u8)) v' (xs.length + (bytesOf y).length) (olds ++ strCells y) → w.grownBy w' (blk (ρ id)) → (∀ b, blk v' = some b → blk (ρ id) = some b ∨ w.heap.size ≤ b) →
      Inv C (upd ρ id v') ⟨s.t, upd s.h id (some ⟨rv + 1, true, rt, .list (.int .u8) (xs ++ bytesOf y)⟩)⟩ a w' ∧ rel (envOf C (upd ρ id v') (upd s.h id (some ⟨rv + 1, true, rt, .list (.int .u8) (xs ++ bytesOf y)⟩)) w') (.slw id (rv + 1) false) v' := by
    intro v' w' hown' hg hblk
    obtain ⟨I', m⟩ := Inv.change (C := C) I (id := id) (row' := ⟨rv + 1, true, rt, .list (.int .u8) (xs ++ bytesOf y)⟩) (v' := v') (w' := w') (blk (ρ id))
      (fun b hb => ⟨_, h4, rfl, hb⟩) hg
      (fun r hr => by rw [h4] at hr; injection hr with hr; subst hr; exact ⟨Nat.le_succ _, fun h => by simp at h⟩)
      (fun b hb => by
        rcases hblk b hb with h | h
        · exact .inl ⟨_, h4, h, fun h => h⟩
        · exact .inr h)
      (fun m => ⟨olds ++ strCells y, by rw [List.length_append]; exact World.ownsRow.holds' hown' (fun b hb => by rcases hblk b hb with h | h; exact (hown0.own_of h).1; exact .inl (Nat.le_trans I.fr.size h)), RL_append (RL_imp (fun x c hx => RC_mono m.rd hx) hlo) (RL_str y), fun h => by cases h⟩)
    refine ⟨I', ?_, _, upd_same _ _ _, Nat.le_refl _, fun _ => ⟨trivial, ?_⟩⟩
    · rcases hown'.2 with ⟨he, _⟩ | ⟨g, cap, cur, he, _⟩ <;> (rw [he]; exact fun h => by cases h)
    · show v' = upd ρ id v' id; rw [upd_same]
  have hsl : ∃ A c, ρ id = .slice A xs.length c ∧ xs.length ≤ c := by
    rcases hown.2 with ⟨he, hn⟩ | ⟨g, cap, cur, he, _, _, hnc, _⟩
    · exact ⟨none, 0, by rw [he, hn], by omega⟩
    · exact ⟨_, cap, he, hnc⟩
  obtain ⟨A, c, hA, hAc⟩ := hsl
  rcases Nat.eq_zero_or_pos y.size with h0 | hp
  · have hb0 : bytesOf y = [] := List.eq_nil_of_length_eq_zero (by rw [hbl]; exact h0)
    have hs0 : strCells y = [] := List.eq_nil_of_length_eq_zero (by rw [strCells_len]; exact h0)
    obtain ⟨I', hr⟩ := fin (ρ id) w (by rw [hb0, hs0]; simpa using hown) (grownBy_refl w _) (fun b hb => .inl hb)
    refine ⟨_, _, w, _, run a w w _ ?_, .inl rfl, I', hr⟩
    rw [e5, hvx, hA]
    exact run_append_empty_str w hu hu' hi hs1 hAc h0
  · have h63 : xs.length + y.size ≤ maxLen := by
      rw [← hbl]
      have : xs.length + (bytesOf y).length ≤ (xs.length + (bytesOf y).length) * ety.bytes := Nat.le_mul_of_pos_right _ hbpos
      simp only [maxLen]
      omega
    obtain ⟨v', w', hr, hown', hg, hbl2⟩ := run_append2s w 0 t t' o.type rt i z hu hu' hi hz hs1 hzs (ρ id) xs.length olds (by rw [hs1]; exact hown) y hp h63 (by rw [hby, ← hbl]; exact hb) (Nat.zero_le _)
    have hob : (ρ id).ownBlock = blk (ρ id) := by rw [hA]; cases A <;> rfl
    obtain ⟨I', hrel⟩ := fin v' w' (by rw [hbl]; rw [hs1] at hown'; exact hown') (by rw [← hob]; exact hg) hbl2
    refine ⟨_, v', w', _, run a w w' _ ?_, .inl rfl, I', hrel⟩
    rw [e5, hvx]
    exact hr
end Go.Proofs.Ytkgjchmfiohciaa.Den
