/- Homes behind homes: append of a slice of homes. -/
import Derived.Test.YtlpibfafpljedaaGreatDoorHomNew
namespace Go.Proofs.YtlpibfafpljedaaGreatDoor
open Go.RowKit
set_option linter.unusedVariables false

theorem EntsAt.take {w : World} {a : Option Addr} {n cap k : Nat} {l : List Ent} (h : EntsAt w (.slice a n cap) l) (hk : k ≤ n) : EntsAt w (.slice a k cap) (l.take k) := by
  obtain ⟨a', c', e, hc, hm, h⟩ := h
  simp only [Value.slice.injEq] at e
  obtain ⟨rfl, rfl, rfl⟩ := e
  have hl : (l.take k).length = k := by rw [List.length_take]; omega
  unfold EntsAt
  rw [hl]
  refine ⟨a, cap, rfl, by omega, hm, ?_⟩
  rcases h with h | ⟨b, off, e, hb, hcell⟩
  · left; omega
  · right
    refine ⟨b, off, e, hb, fun i hi => ?_⟩
    have e : (l.take k).getD i (0, 0, 0) = l.getD i (0, 0, 0) := by simp [hi]
    rw [e]; exact hcell i (by omega)
theorem EntsAt.dropAt {w : World} {b off n cap k : Nat} {l : List Ent} (h : EntsAt w (.slice (some ⟨b, off, none⟩) n cap) l) (hk : k ≤ n) : EntsAt w (.slice (some ⟨b, off + k * 3, none⟩) (n - k) (cap - k)) (l.drop k) := by
  obtain ⟨a', c', e, hc, hm, h⟩ := h
  simp only [Value.slice.injEq] at e
  obtain ⟨rfl, rfl, rfl⟩ := e
  have hl : (l.drop k).length = l.length - k := by rw [List.length_drop]
  unfold EntsAt
  rw [hl]
  refine ⟨_, cap - k, rfl, by omega, by omega, ?_⟩
  rcases h with h | ⟨b', off', e, hb, hcell⟩
  · left; omega
  · simp only [Option.some.injEq, Addr.mk.injEq] at e
    obtain ⟨rfl, rfl, _⟩ := e
    right
    refine ⟨b, off + k * 3, rfl, hb, fun i hi => ?_⟩
    have e : (l.drop k).getD i (0, 0, 0) = l.getD (k + i) (0, 0, 0) := by simp
    rw [e]
    obtain ⟨h0, h1, h2⟩ := hcell (k + i) (by omega)
    have ea : off + k * 3 + i * 3 = off + (k + i) * 3 := by omega
    rw [ea]; exact ⟨h0, h1, h2⟩
theorem EntsAt.dropIf {w : World} {b off n cap k : Nat} {l : List Ent} (h : EntsAt w (.slice (some ⟨b, off, none⟩) n cap) l) (hk : k ≤ n) : EntsAt w (.slice (if cap = k then some ⟨b, off, none⟩ else some ⟨b, off + k * 3, none⟩) (n - k) (cap - k)) (l.drop k) := by
  by_cases hck : cap = k
  · rw [if_pos hck]
    obtain ⟨a', c', e, hc, hm, _⟩ := h
    simp only [Value.slice.injEq] at e
    obtain ⟨_, rfl, rfl⟩ := e
    have hl : (l.drop k).length = l.length - k := by rw [List.length_drop]
    unfold EntsAt
    rw [hl]
    exact ⟨_, cap - k, rfl, by omega, by omega, .inl (by omega)⟩
  · rw [if_neg hck]; exact h.dropAt hk
theorem entsAt_nil {W : World} {a : Option Addr} {n c : Nat} {l : List Ent} (hl : l.length = 0) (hn : n = 0) (hc : c = 0) : EntsAt W (.slice a n c) l := by
  subst hn
  subst hc
  exact ⟨a, 0, by rw [hl], by omega, Nat.zero_le _, .inl hl⟩
def homVal (l : List Ent) (q : Nat) : Value := if q % 3 = 0 then .int .i64 (l.getD (q / 3) (0, 0, 0)).1 else if q % 3 = 1 then .int .i64 (l.getD (q / 3) (0, 0, 0)).2.1 else .int .i64 (l.getD (q / 3) (0, 0, 0)).2.2
def homCells (l : List Ent) : List Value := (List.range (l.length * 3)).map (homVal l)
theorem homCells_len (l : List Ent) : (homCells l).length = l.length * 3 := by simp [homCells]
theorem homCells_get {l : List Ent} {q : Nat} (h : q < l.length * 3) : (homCells l)[q]? = some (homVal l q) := by
  unfold homCells
  rw [List.getElem?_map, List.getElem?_range h]; rfl
theorem HomNew.more {w : World} {lo : Nat} {v' : Value} {l l2 : List Ent} {xs : List Value} (hl : xs.length = l.length * 3)
    (hx : ∀ i, i < l.length → xs.getD (i * 3) undef = .int .i64 (l.getD i (0, 0, 0)).1 ∧ xs.getD (i * 3 + 1) undef = .int .i64 (l.getD i (0, 0, 0)).2.1 ∧ xs.getD (i * 3 + 2) undef = .int .i64 (l.getD i (0, 0, 0)).2.2)
    (h : w.ownsRow lo 36 3 v' (l.length + l2.length) (xs ++ homCells l2)) : HomNew w lo v' (l ++ l2) := by
  refine ⟨_, by rw [List.length_append]; exact h, fun i hi => ?_⟩
  rw [List.length_append] at hi
  by_cases hil : i < l.length
  · obtain ⟨e0, e1, e2⟩ := hx i hil
    have q : (l ++ l2).getD i (0, 0, 0) = l.getD i (0, 0, 0) := by simp only [List.getD_eq_getElem?_getD]; rw [List.getElem?_append_left hil]
    have r : ∀ j, j < xs.length → (xs ++ homCells l2).getD j undef = xs.getD j undef := fun j hj => by simp only [List.getD_eq_getElem?_getD]; rw [List.getElem?_append_left hj]
    rw [q, r _ (by omega), r _ (by omega), r _ (by omega)]
    exact ⟨e0, e1, e2⟩
  · obtain ⟨m, hm⟩ : ∃ m, i = l.length + m := ⟨i - l.length, by omega⟩
    subst hm
    have q : (l ++ l2).getD (l.length + m) (0, 0, 0) = l2.getD m (0, 0, 0) := by simp only [List.getD_eq_getElem?_getD]; rw [List.getElem?_append_right (by omega), Nat.add_sub_cancel_left]
    have r : ∀ j, j < 3 → (xs ++ homCells l2).getD ((l.length + m) * 3 + j) undef = homVal l2 (m * 3 + j) := fun j hj => by
      simp only [List.getD_eq_getElem?_getD]
      rw [List.getElem?_append_right (by omega), show (l.length + m) * 3 + j - xs.length = m * 3 + j by omega, homCells_get (by omega)]; rfl
    rw [q]
    have r0 := r 0 (by omega)
    rw [Nat.add_zero] at r0
    rw [r0, r 1 (by omega), r 2 (by omega)]
    unfold homVal
    refine ⟨?_, ?_, ?_⟩
    · rw [if_pos (by omega), show (m * 3 + 0) / 3 = m by omega]
    · rw [if_neg (by omega), if_pos (by omega), show (m * 3 + 1) / 3 = m by omega]
    · rw [if_neg (by omega), if_neg (by omega), show (m * 3 + 2) / 3 = m by omega]
theorem setE_getD {xs : List Value} {k i : Nat} {u : Value} (hk : k < xs.length) : (xs.set k u).getD i undef = if i = k then u else xs.getD i undef := by
  by_cases h : i = k
  · subst h; simp [hk]
  · rw [if_neg h]; simp [Ne.symm h]
theorem HomNew.set {w : World} {lo n g cap k : Nat} {l : List Ent} (h : HomNew w lo (.slice (some ⟨g, 0, none⟩) n cap) l) (hn : l.length = n) (hk : k < n) (x : Int) :
    HomNew (w.setCell ⟨g, k * 3 + 2, none⟩ (.int .i64 x)) lo (.slice (some ⟨g, 0, none⟩) n cap) (l.set k ((l.getD k (0, 0, 0)).1, (l.getD k (0, 0, 0)).2.1, x)) := by
  obtain ⟨xs, h1, h2⟩ := h
  subst hn
  have hxl := h1.1
  refine ⟨xs.set (k * 3 + 2) (.int .i64 x), by rw [List.length_set]; exact (h1.stored (k * 3 + 2) (.int .i64 x)).1, fun i hi => ?_⟩
  rw [List.length_set] at hi
  have e : (l.set k ((l.getD k (0, 0, 0)).1, (l.getD k (0, 0, 0)).2.1, x)).getD i (0, 0, 0) = if i = k then ((l.getD k (0, 0, 0)).1, (l.getD k (0, 0, 0)).2.1, x) else l.getD i (0, 0, 0) := by
    by_cases h : i = k
    · subst h; simp [hi]
    · rw [if_neg h]; simp [Ne.symm h]
  have hkq : k * 3 + 2 < xs.length := by omega
  have f0 : (xs.set (k * 3 + 2) (Value.int .i64 x)).getD (i * 3) undef = xs.getD (i * 3) undef := by rw [setE_getD hkq, if_neg (by omega)]
  have f1 : (xs.set (k * 3 + 2) (Value.int .i64 x)).getD (i * 3 + 1) undef = xs.getD (i * 3 + 1) undef := by rw [setE_getD hkq, if_neg (by omega)]
  rw [e, f0, f1, setE_getD hkq]
  obtain ⟨e0, e1, e2⟩ := h2 i hi
  by_cases hik : i = k
  · subst hik
    rw [if_pos rfl, if_pos rfl]; exact ⟨e0, e1, rfl⟩
  · rw [if_neg (by omega : ¬ i * 3 + 2 = k * 3 + 2), if_neg hik]; exact ⟨e0, e1, e2⟩
theorem HomNew.cells {w : World} {lo n cap k : Nat} {ad : Option Addr} {l : List Ent} (h : HomNew w lo (.slice ad n cap) l) (hn : l.length = n) (hk : k < n) :
    ∃ g, ad = some ⟨g, 0, none⟩ ∧ lo ≤ g ∧ g < w.heap.size ∧ (∃ u, w.cell? ⟨g, k * 3 + 2, none⟩ = some u) ∧ w.frozen? ⟨g, k * 3 + 2, none⟩ = false := by
  obtain ⟨xs, h1, h2⟩ := h
  subst hn
  have hxl := h1.1
  rcases h1.2 with ⟨e, hn⟩ | ⟨g, cap', cur, e, hb, hg, hnc, hcm, hcs, htake⟩
  · omega
  · simp only [Value.slice.injEq] at e
    obtain ⟨rfl, _, rfl⟩ := e
    exact ⟨g, rfl, hb, heap_lt hg, ⟨xs[k * 3 + 2]'(by omega), by rw [h1.cellAt (k * 3 + 2) (by omega), List.getElem?_eq_getElem (by omega)]⟩, h1.frozenAt _⟩
variable {W : World}
theorem wp_append_homs {o : Oper} {a : Act} {K : Act → World → Prop} {Q : Exit → Act → World → Prop} (s x : Operand)
    (ho : o.op = .call { callee := .builtin .append, args := #[s, x], argTypes := #[24, 24] })
    (lo : Nat) (v sv : Value) (l l2 : List Ent) (N : Nat) (hN : l.length + l2.length = N) (hs : a.eval s = v) (hO : HomNew W lo v l) (hx : a.eval x = sv) (hE : EntsAt W sv l2) (hl : N ≤ 1000000) (hlo : lo ≤ W.heap.size)
    (h : ∀ ad c w', HomNew w' lo (.slice ad N c) (l ++ l2) → Below lo W w' → w'.heap.size ≥ W.heap.size → K (a.put o.dst (.slice ad N c)) w') : o.wp Tryz.prog a W K Q := by
  obtain ⟨i0, hi, hz0, hz1, hz2⟩ := info_parts info_h3
  obtain ⟨xs, hown, hxs⟩ := hO
  obtain ⟨ad, cap, rfl, hc, hm, hh⟩ := hE
  have fin : ∀ v' w', w'.ownsRow lo 36 3 v' (l.length + l2.length) (xs ++ homCells l2) → W.grownBy w' v.ownBlock → K (a.put o.dst v') w' := fun v' w' h1 h2 => by
    have hH := HomNew.more hown.1 hxs h1
    obtain ⟨ad', c', rfl, _, _⟩ := hH.form
    rw [List.length_append, hN] at hH ⊢
    exact h ad' c' w' hH (Below.grown (Below.refl _ _) h2 hlo (fun g hg => (World.ownsRow.lt hown g hg).1)) h2.size
  cases ad with
  | none =>
    have hm0 : l2.length = 0 := by
      rcases hh with hh | ⟨b, off, e, _⟩
      · exact hh
      · cases e
    have hl2 : l2 = [] := List.length_eq_zero_iff.1 hm0
    subst hl2
    have hrun := run_append_owned_noneC (P := Tryz.prog) (w := W) lo 24 o.type 36 i0 3 Tryz.underlying24 hi v l.length cap xs hown
    unfold Oper.wp
    simp [execOp, ho, resolve, invoke, builtin, hs, hx, hrun, Result.andThen]
    exact fin v W (by simpa [homCells] using hown) (grownBy_refl _ _)
  | some ad =>
    refine wp_append_own W s x 24 ho lo 36 i0 (.agg #[.int .i64 0, .int .i64 0, .int .i64 0]) 3 24 Tryz.underlying24 hi hz0 hz1 hz2 rfl (by decide) v l.length xs hs hown ad l2.length cap (homCells l2) hx (homCells_len l2) ?_ ?_ (by unfold maxLen; omega) (by omega) hlo (fun v' w' a1 a2 _ => fin v' w' a1 a2)
    · intro q u hq
      have hq3 : q < l2.length * 3 := by
        rcases Nat.lt_or_ge q (l2.length * 3) with h | h
        · exact h
        · rw [List.getElem?_eq_none (by rw [homCells_len]; exact h)] at hq; cases hq
      rw [homCells_get hq3] at hq
      cases hq
      rcases hh with hh | ⟨b, off, e, hb, hcell⟩
      · omega
      · simp only [Option.some.injEq] at e
        subst e
        obtain ⟨h0, h1, h2⟩ := hcell (q / 3) (by omega)
        have ha : (⟨b, off, none⟩ : Addr).add q = ⟨b, off + q, none⟩ := by simp [Addr.add]
        rw [ha]
        unfold homVal
        by_cases q0 : q % 3 = 0
        · rw [if_pos q0]; rw [show off + q / 3 * 3 = off + q by omega] at h0; exact h0
        · rw [if_neg q0]
          by_cases q1 : q % 3 = 1
          · rw [if_pos q1]; rw [show off + q / 3 * 3 + 1 = off + q by omega] at h1; exact h1
          · rw [if_neg q1]; rw [show off + q / 3 * 3 + 2 = off + q by omega] at h2; exact h2
    · intro u hu
      unfold homCells at hu
      obtain ⟨q, _, rfl⟩ := List.mem_map.1 hu
      unfold homVal
      split
      · rfl
      · split <;> rfl
theorem step_append_homs {ops : Array Oper} {o : Oper} {a : Act} {K : Act → World → Prop} {Q : Exit → Act → World → Prop} {E : Prop} (hgd : o.guard = none) (s x : Operand)
    (ho : o.op = .call { callee := .builtin .append, args := #[s, x], argTypes := #[24, 24] })
    (lo : Nat) (v sv : Value) (l l2 : List Ent) (N : Nat) (hN : l.length + l2.length = N) (hs : a.eval s = v) (hO : HomNew W lo v l) (hx : a.eval x = sv) (hE : EntsAt W sv l2) (hl : N ≤ 1000000) (hlo : lo ≤ W.heap.size)
    (h : ∀ ad c w', HomNew w' lo (.slice ad N c) (l ++ l2) → Below lo W w' → w'.heap.size ≥ W.heap.size → K (a.put o.dst (.slice ad N c)) w') :
    if Region.wanted o (yielded ops a.tmps) = true then Oper.wp Tryz.prog o a W K Q else E := by
  have hw : Region.wanted o (yielded ops a.tmps) = true := by simp [Region.wanted, hgd]
  rw [if_pos hw]
  exact wp_append_homs s x ho lo v sv l l2 N hN hs hO hx hE hl hlo h
theorem wpList_append_homs {ops : Array Oper} {rest : List Oper} {o : Oper} {a : Act} {Q : Exit → Act → World → Prop} (hgd : o.guard = none) (s x : Operand)
    (ho : o.op = .call { callee := .builtin .append, args := #[s, x], argTypes := #[24, 24] })
    (lo : Nat) (v sv : Value) (l l2 : List Ent) (N : Nat) (hN : l.length + l2.length = N) (hs : a.eval s = v) (hO : HomNew W lo v l) (hx : a.eval x = sv) (hE : EntsAt W sv l2) (hl : N ≤ 1000000) (hlo : lo ≤ W.heap.size)
    (h : ∀ ad c w', HomNew w' lo (.slice ad N c) (l ++ l2) → Below lo W w' → w'.heap.size ≥ W.heap.size → wpList Tryz.prog ops Q rest (a.put o.dst (.slice ad N c)) w') :
    wpList Tryz.prog ops Q (o :: rest) a W :=
  wpList_plain hgd fun _ hK => wp_append_homs s x ho lo v sv l l2 N hN hs hO hx hE hl hlo fun ad c w' h1 h2 h3 => hK _ _ (h ad c w' h1 h2 h3)
end Go.Proofs.YtlpibfafpljedaaGreatDoor
