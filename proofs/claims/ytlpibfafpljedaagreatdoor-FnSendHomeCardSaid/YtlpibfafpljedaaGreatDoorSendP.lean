/- Plain: the reference's tables are the program's: each home's entry comes last. Rows of tables, each in a block of its own, that are appended to one by one. Plain: what stands in a house's table. -/
import Derived.Test.YtlpibfafpljedaaGreatDoorSendTabs
import Derived.Test.YtlpibfafpljedaaGreatDoorHomsForm
import Derived.Deep.RegionLawGrows
import Derived.Deep.DeepAppendRoom
import Derived.Test.YtlpibfafpljedaaGreatDoorNetW
namespace Go.Proofs.YtlpibfafpljedaaGreatDoor
set_option linter.unusedVariables false

theorem put_fold_last {e : Ent} : ∀ (t o : List Ent), (∀ x, x ∈ t → ordF x e < 0) → t.foldl (putStep e) (o, false) = (o ++ t, false)
  | [], o, _ => by simp
  | x :: t, o, h => by
    have hx : rcmpF x.1 x.2.1 e.1 e.2.1 < 0 := h x (List.mem_cons_self ..)
    rw [List.foldl_cons]
    have e1 : putStep e (o, false) x = (o ++ [x], false) := by
      have hc : ¬ (0 ≤ rcmpF x.1 x.2.1 e.1 e.2.1) := by omega
      have h0 : rcmpF x.1 x.2.1 e.1 e.2.1 ≠ 0 := by omega
      simp [putStep, hc, h0]
    rw [e1, put_fold_last t (o ++ [x]) (fun y hy => h y (List.mem_cons_of_mem _ hy))]
    simp
theorem putF_last {e : Ent} {t : List Ent} (h : ∀ x, x ∈ t → ordF x e < 0) : putF t e = t ++ [e] := by
  unfold putF
  rw [put_fold_last t [] h]
  simp
theorem endTo31_home {rs : List (List Int)} {home : Int} {n j : Nat} (hh : home = (j : Int) + 1) (hj : j < n) : ∀ k, (endTo31 rs home n k).getD j [] = [home]
  | 0 => by
    show (none31 n home).getD j [] = _
    unfold none31
    rw [map_range_getD _ _ _ hj, if_pos hh.symm]
  | k + 1 => by
    rw [endTo31_succ]
    unfold net31
    rw [map_range_getD _ _ _ hj]
    split
    · rename_i h
      rw [← h, ← hh]
      exact pick31_home _ _ _
    · exact endTo31_home hh hj k
/-- the entry that house h + 1 gets of a home -/
def viaF (way : List Int) (home : Int) : Int := if 1 < way.length then way.getD 1 0 else home
def impPut (ways : List (List Int)) (e : Ent) (h : Nat) (t : List Ent) : List Ent := if ways.getD h [] = [] then t else t ++ [(e.1, e.2.1, viaF (ways.getD h []) e.2.2)]
theorem putHome_imp {ways : List (List Int)} {e : Ent} {h n : Nat} {t : List Ent} (hh : h < n) (hf : Far31 ways e.2.2 n) (hhome : (h : Int) + 1 = e.2.2 → ways.getD h [] = [e.2.2]) (hl : ∀ x, x ∈ t → ordF x e < 0) : putHome ways e h t = impPut ways e h t := by
  have hl' : ∀ v : Int, ∀ x, x ∈ t → ordF x (e.1, e.2.1, v) < 0 := fun v x hx => hl x hx
  unfold putHome impPut
  by_cases h1 : (h : Int) + 1 = e.2.2
  · have := hhome h1
    rw [if_pos h1, this, if_neg (by simp), putF_last (hl' _)]
    unfold viaF
    rw [if_neg (by simp), h1]
  · rw [if_neg h1]
    rcases hf h hh h1 with e0 | e2
    · rw [e0, if_neg (by simp), if_pos rfl]
    · have hne : ways.getD h [] ≠ [] := by intro e; rw [e] at e2; simp at e2
      rw [if_pos hne, if_neg hne, putF_last (hl' _)]
      unfold viaF
      rw [if_pos (by omega)]
/-- homes stand by range -/
def Rise (l : List Ent) : Prop := ∀ i j, i < j → j < l.length → ordF (l.getD i (0, 0, 0)) (l.getD j (0, 0, 0)) < 0
theorem rise_of {l : List Ent} (h : ∀ i, i < l.length → i ≠ 0 → ordF (l.getD (i - 1) (0, 0, 0)) (l.getD i (0, 0, 0)) < 0) : Rise l := by
  intro i j
  induction j with
  | zero => intro h1; omega
  | succ j ih =>
    intro h1 h2
    have h3 := h (j + 1) h2 (by omega)
    rw [Nat.add_sub_cancel] at h3
    by_cases hij : i = j
    · subst hij; exact h3
    · exact ord_trans (ih (by omega) (by omega)) h3
theorem homes_rise {rs : List (List Int)} {l : List Ent} (h : homesOkF rs l = true) : Rise l := rise_of fun i hi h0 => ((homesOk_all h).2.2 i hi).2 h0
theorem homes_house {rs : List (List Int)} {l : List Ent} (h : homesOkF rs l = true) {i : Nat} (hi : i < l.length) : 1 ≤ (l.getD i (0, 0, 0)).2.2 ∧ (l.getD i (0, 0, 0)).2.2 ≤ (rs.length : Int) ∧ rangeOkF (l.getD i (0, 0, 0)).1 (l.getD i (0, 0, 0)).2.1 = true := by
  have := ((homesOk_all h).2.2 i hi).1
  unfold homOkF at this
  simp only [Bool.and_eq_true, decide_eq_true_eq] at this
  exact ⟨this.2.1, this.2.2, this.1⟩
def impStep (rs : List (List Int)) (n : Nat) (l : List Ent) (h : Nat) (t : List Ent) (i : Nat) : List Ent := impPut (end31 rs (l.getD i (0, 0, 0)).2.2 n) (l.getD i (0, 0, 0)) h t
/-- house h + 1's table of the first i homes -/
def tabF (rs : List (List Int)) (n : Nat) (l : List Ent) (h : Nat) (i : Nat) : List Ent := (List.range i).foldl (impStep rs n l h) []
theorem tabF_succ (rs : List (List Int)) (n : Nat) (l : List Ent) (h i : Nat) : tabF rs n l h (i + 1) = impStep rs n l h (tabF rs n l h i) i := foldl_range_succ _ _ _
theorem tabF_ranges (rs : List (List Int)) (n : Nat) (l : List Ent) (h : Nat) : ∀ i x, x ∈ tabF rs n l h i → ∃ q, q < i ∧ x.1 = (l.getD q (0, 0, 0)).1 ∧ x.2.1 = (l.getD q (0, 0, 0)).2.1 ∧ (end31 rs (l.getD q (0, 0, 0)).2.2 n).getD h [] ≠ [] ∧ x.2.2 = viaF ((end31 rs (l.getD q (0, 0, 0)).2.2 n).getD h []) (l.getD q (0, 0, 0)).2.2
  | 0, x, hx => by simp [tabF] at hx
  | i + 1, x, hx => by
    rw [tabF_succ] at hx
    unfold impStep impPut at hx
    split at hx
    · obtain ⟨q, hq, h1⟩ := tabF_ranges rs n l h i x hx
      exact ⟨q, by omega, h1⟩
    · rename_i hne
      rcases List.mem_append.1 hx with hx | hx
      · obtain ⟨q, hq, h1⟩ := tabF_ranges rs n l h i x hx
        exact ⟨q, by omega, h1⟩
      · rw [List.mem_singleton] at hx
        subst hx
        exact ⟨i, by omega, rfl, rfl, hne, rfl⟩
theorem tabF_less {rs : List (List Int)} {n : Nat} {l : List Ent} {h i : Nat} (hr : Rise l) (hi : i < l.length) : ∀ x, x ∈ tabF rs n l h i → ordF x (l.getD i (0, 0, 0)) < 0 := fun x hx => by
  obtain ⟨q, hq, h1, h2, _⟩ := tabF_ranges rs n l h i x hx
  have := hr q i hq hi
  unfold ordF at this ⊢
  rw [h1, h2]; exact this
theorem homesTo_tabF {rs : List (List Int)} {n : Nat} {l : List Ent} (hr : Rise l) (hho : ∀ i, i < l.length → 1 ≤ (l.getD i (0, 0, 0)).2.2 ∧ (l.getD i (0, 0, 0)).2.2 ≤ (n : Int)) : ∀ i, i ≤ l.length → ∀ h, h < n → (homesTo rs n l i).getD h [] = tabF rs n l h i
  | 0, _, h, hh => by simp [homesTo, tabF, hh]
  | i + 1, hi, h, hh => by
    rw [homesTo_succ, tabF_succ]
    unfold homeStep
    rw [homeTo_get hh, if_pos hh, homesTo_tabF hr hho i (by omega) h hh]
    refine putHome_imp hh (endTo31_far _) (fun he => ?_) (tabF_less hr (by omega))
    exact endTo31_home he.symm hh _
theorem sendTabs_get {rs : List (List Int)} {l : List Ent} {n h : Nat} (hok : homesOkF rs l = true) (hn : rs.length = n) (hh : h < n) : (sendTabsF rs l n).getD h [] = tabF rs n l h l.length := by
  unfold sendTabsF
  rw [if_pos hok]
  exact homesTo_tabF (homes_rise hok) (fun i hi => by have := homes_house hok hi; rw [hn] at this; exact ⟨this.1, this.2.1⟩) _ (Nat.le_refl _) h hh
theorem sendTabs_len2 {rs : List (List Int)} {l : List Ent} {n : Nat} (hok : homesOkF rs l = true) : (sendTabsF rs l n).length = n := by
  unfold sendTabsF
  rw [if_pos hok]
  exact homesTo_len _ _ _ _
end Go.Proofs.YtlpibfafpljedaaGreatDoor

namespace Go.Proofs.YtlpibfafpljedaaGreatDoor
open Go.RowKit
set_option linter.unusedVariables false
set_option maxRecDepth 100000

def TabsX (w : World) (lo : Nat) (v : Value) (ll : List (List Ent)) : Prop :=
  ∃ vs, vs.length = ll.length ∧ w.ownsRow lo 42 1 v ll.length vs ∧ (∀ i, i < ll.length → EntNew w lo (vs.getD i undef) (ll.getD i [])) ∧
    ∀ i j, i < ll.length → j < ll.length → i ≠ j → ∀ b, (vs.getD i undef).ownBlock = some b → (vs.getD j undef).ownBlock ≠ some b
theorem TabsX.tabs {w : World} {lo : Nat} {v : Value} {ll : List (List Ent)} (h : TabsX w lo v ll) : TabsL w lo v ll := by
  obtain ⟨vs, h1, h2, h3, _⟩ := h
  exact ⟨vs, h1, h2, h3⟩
theorem TabsX.below {w w' : World} {lo : Nat} {v : Value} {ll : List (List Ent)} (h : TabsX w lo v ll) (hb : Below w.heap.size w w') : TabsX w' lo v ll := by
  obtain ⟨vs, h1, h2, h3, h4⟩ := h
  exact ⟨vs, h1, owns_belowR h2 hb, fun i hi => (h3 i hi).below hb, h4⟩
theorem TabsX.form {w : World} {lo : Nat} {v : Value} {ll : List (List Ent)} (h : TabsX w lo v ll) : ∃ a cap, v = .slice a ll.length cap ∧ ll.length ≤ cap ∧ cap ≤ 9223372036854775807 := by
  obtain ⟨vs, h1, h2, h3, _⟩ := h; exact owns_form h2
theorem made_tabs {w : World} {lo n : Nat} {v : Value} (h : w.ownsRow lo 42 1 v n (madeCells (Value.slice none 0 0).cells (n * 1)).toList) : TabsX w lo v (List.replicate n []) := by
  have e : (madeCells (Value.slice none 0 0).cells (n * 1)).toList = List.replicate n (.slice none 0 0) := by
    apply List.ext_getElem
    · simp [madeCells]
    · intro i h1 h2
      simp [madeCells, Value.cells, Nat.mod_one]
  rw [e] at h
  have e1 : ∀ i, i < n → (List.replicate n (Value.slice none 0 0)).getD i undef = .slice none 0 0 := fun i hi => by simp [hi]
  refine ⟨List.replicate n (.slice none 0 0), by simp, by simpa using h, fun i hi => ?_, fun i j hi hj _ b hb => ?_⟩
  · have hi' : i < n := by simpa using hi
    have e2 : (List.replicate n ([] : List Ent)).getD i [] = [] := by simp [hi']
    rw [e1 i hi', e2]
    exact EntNew.nil _ _
  · have hi' : i < n := by simpa using hi
    rw [e1 i hi'] at hb
    cases hb
theorem owns_ent {w : World} {lo : Nat} {v : Value} {l : List Ent} (h : EntNew w lo v l) {g : Nat} (hv : v.ownBlock = some g) : ∃ cur, w.heap[g]? = some (.cells cur 45 (0, 0)) := by
  obtain ⟨xs, h1, _⟩ := h
  rcases h1.2 with ⟨rfl, _⟩ | ⟨g', cap, cur', rfl, _, hg', _⟩
  · cases hv
  · simp [Value.ownBlock] at hv
    subst hv
    exact ⟨_, hg'⟩
theorem EntNew.off {w w' : World} {lo : Nat} {v : Value} {l : List Ent} {r : Option Nat} (h : EntNew w lo v l) (hg : w.grownBy w' r) (hne : v.ownBlock = none ∨ v.ownBlock ≠ r) : EntNew w' lo v l := by
  obtain ⟨xs, h1, h2⟩ := h
  exact ⟨xs, h1.kept hg hne, h2⟩
theorem RowsL.offEnt {w w' : World} {lo : Nat} {v : Value} {ll : List (List Int)} {r : Option Nat} (h : RowsL w lo v ll) (hg : w.grownBy w' r) (hr : ∀ g, r = some g → ∃ cur, w.heap[g]? = some (.cells cur 45 (0, 0))) : RowsL w' lo v ll := by
  have key : ∀ b (T : TypeId) c, T ≠ 45 → w.heap[b]? = some (Obj.cells c T (0, 0)) → w'.heap[b]? = w.heap[b]? := fun b T c hT hb => hg.block b (heap_lt hb) (by
    intro e
    obtain ⟨cur, hc⟩ := hr b e.symm
    rw [hc] at hb
    simp at hb
    exact hT hb.2.symm)
  obtain ⟨vs, h1, h2, h3⟩ := h
  exact ⟨vs, h1, owns_blk h2 (fun b c _ hb => key b _ c (by decide) hb), fun i hi => owns_blk (h3 i hi) (fun b c _ hb => key b _ c (by decide) hb)⟩
theorem TabsX.get {w : World} {lo n : Nat} {v : Value} {ll : List (List Ent)} (h : TabsX w lo v ll) (hn : ll.length = n) (i : Nat) (hi : i < n) :
    ∃ g cap u, v = .slice (some ⟨g, 0, none⟩) n cap ∧ lo ≤ g ∧ g < w.heap.size ∧ w.cell? ⟨g, i, none⟩ = some u ∧ w.frozen? ⟨g, i, none⟩ = false ∧ EntNew w lo u (ll.getD i []) := h.tabs.get hn i hi
/-- one row has grown and is stored again -/
theorem TabsX.put {w w' : World} {lo n G cap h : Nat} {ll : List (List Ent)} {u u' : Value} {l' : List Ent} {ad : Nat} (hX : TabsX w lo (.slice (some ⟨G, 0, none⟩) n cap) ll) (hn : ll.length = n) (hh : h < n) (hu : w.cell? ⟨G, h, none⟩ = some u)
    (hg : w.grownBy w' u.ownBlock) (hu' : EntNew w' lo u' l') (had : u'.ownBlock = some ad) (hor : u.ownBlock = some ad ∨ w.heap.size ≤ ad) :
    TabsX (w'.setCell ⟨G, h, none⟩ u') lo (.slice (some ⟨G, 0, none⟩) n cap) (ll.set h l') := by
  obtain ⟨vs, h1, h2, h3, h4⟩ := hX
  subst hn
  have hcu : vs.getD h undef = u := by
    have h9 := World.ownsRow.cellAt h2 h
    have h8 : w.cell? ⟨G, h, none⟩ = vs[h]? := h9 (by omega)
    rw [h8] at hu
    rw [List.getD_eq_getElem?_getD, hu]; rfl
  have hue := h3 h hh
  rw [hcu] at hue
  obtain ⟨cur, hc⟩ := owns_tabrow h2 rfl
  have hGne : some G ≠ u.ownBlock := by
    intro e
    obtain ⟨c2, hc2⟩ := owns_ent hue e.symm
    rw [hc2] at hc
    simp at hc
  have h2' : w'.ownsRow lo 42 1 (.slice (some ⟨G, 0, none⟩) ll.length cap) ll.length vs := h2.kept hg (.inr hGne)
  have hc' : w'.heap[G]? = some (.cells cur 42 (0, 0)) := (hg.block G (heap_lt hc) hGne).trans hc
  obtain ⟨s1, s2⟩ := h2'.stored h u'
  have set1 : ∀ i, (vs.set h u').getD i undef = if i = h then u' else vs.getD i undef := fun i => set_getD (by omega)
  refine ⟨vs.set h u', by simp [h1], by rw [List.length_set]; exact s1, fun i hi => ?_, fun i j hi hj hij b hb => ?_⟩
  · rw [List.length_set] at hi
    rw [set1]
    have e : (ll.set h l').getD i [] = if i = h then l' else ll.getD i [] := by
      by_cases hih : i = h
      · subst hih; simp [hi]
      · rw [if_neg hih]; simp [Ne.symm hih]
    rw [e]
    by_cases hih : i = h
    · rw [if_pos hih, if_pos hih]; exact hu'.notab hc' s2
    · rw [if_neg hih, if_neg hih]
      refine ((h3 i hi).off hg ?_).notab hc' s2
      cases hvb : (vs.getD i undef).ownBlock with
      | none => exact .inl rfl
      | some b =>
        right
        intro e
        have := h4 i h hi hh hih b hvb
        rw [hcu] at this
        exact this e.symm
  · rw [List.length_set] at hi hj
    rw [set1] at hb ⊢
    by_cases hih : i = h
    · rw [if_pos hih] at hb
      rw [if_neg (by omega)]
      intro e2
      rw [had] at hb
      cases hb
      rcases hor with ho | ho
      · have := h4 j h hj hh (by omega) ad e2
        rw [hcu] at this
        exact this ho
      · obtain ⟨xs, o1, _⟩ := h3 j hj
        have := (World.ownsRow.lt o1 ad e2).2
        omega
    · rw [if_neg hih] at hb
      by_cases hjh : j = h
      · rw [if_pos hjh]
        intro e2
        rw [had] at e2
        cases e2
        rcases hor with ho | ho
        · have := h4 i h hi hh hih ad hb
          rw [hcu] at this
          exact this ho
        · obtain ⟨xs, o1, _⟩ := h3 i hi
          have := (World.ownsRow.lt o1 ad hb).2
          omega
      · rw [if_neg hjh]
        exact h4 i j hi hj hij b hb
theorem grown_alloc {w w' : World} {o : Obj} {r : Option Nat} (h : (w.alloc o).grownBy w' r) (hr : ∀ g, r = some g → g < w.heap.size) : w.grownBy w' r :=
  ⟨h.os, h.tape, h.output, by have := h.size; simp at this; omega, fun k hk hne => (h.block k (by simp; omega) hne).trans (Below.heap_alloc w o k hk)⟩
section
variable {W : World}
theorem step_append_entD {ops : Array Oper} {o : Oper} {a : Act} {K : Act → World → Prop} {Q : Exit → Act → World → Prop} {E : Prop} (hgd : o.guard = none) (s x : Operand)
    (ho : o.op = .call { callee := .builtin .append, args := #[s, x], argTypes := #[42, 42] })
    (lo : Nat) (v : Value) (l : List Ent) (e : Ent) (hs : a.eval s = v) (hO : EntNew W lo v l) (hx : a.eval x = .slice (some ⟨W.heap.size, 0, none⟩) 1 1) (hl : l.length ≤ 1000000) (hlo : lo ≤ W.heap.size)
    (h : ∀ (ad c : Nat) (w' : World), EntNew w' lo (.slice (some ⟨ad, 0, none⟩) (l.length + 1) c) (l ++ [e]) → W.grownBy w' v.ownBlock → (v.ownBlock = some ad ∨ W.heap.size ≤ ad) → K (a.put o.dst (.slice (some ⟨ad, 0, none⟩) (l.length + 1) c)) w') :
    if Region.wanted o (yielded ops a.tmps) = true then Oper.wp Tryz.prog o a (W.alloc (.cells #[.int .i64 e.1, .int .i64 e.2.1, .int .i64 e.2.2] 45)) K Q else E := by
  obtain ⟨i0, hi, hz0, hz1, hz2⟩ := info_parts info_e3
  obtain ⟨xs, hown, hxs⟩ := hO
  have hlt := World.ownsRow.lt hown
  have h1c : ∀ u ∈ [Value.int .i64 e.1, Value.int .i64 e.2.1, Value.int .i64 e.2.2], u.oneCell' = true := by
    intro u hu
    simp at hu
    rcases hu with rfl | rfl | rfl <;> rfl
  have hownA : (W.alloc (.cells #[.int .i64 e.1, .int .i64 e.2.1, .int .i64 e.2.2] 45)).ownsRow lo 45 3 v l.length xs := World.ownsRow.alloc hown _
  have fin : ∀ (v' : Value) (w' : World), w'.ownsRow lo 45 3 v' (l.length + 1) (xs ++ [.int .i64 e.1, .int .i64 e.2.1, .int .i64 e.2.2]) → ∃ ad c, v' = Value.slice (some ⟨ad, 0, none⟩) (l.length + 1) c := fun v' w' h1 => by
    rcases h1.2 with ⟨_, hn⟩ | ⟨g, cap, cur, e2, _⟩
    · omega
    · exact ⟨g, cap, e2⟩
  have grows : ∀ (ao : Option Addr) (cap : Nat), v = .slice ao l.length cap → (ao = none → l.length = 0 ∧ cap = 0) → (∀ b, ao = some b → ∀ j u, xs[j]? = some u → (W.alloc (.cells #[.int .i64 e.1, .int .i64 e.2.1, .int .i64 e.2.2] 45)).cell? (b.add j) = some u) → cap < l.length + 1 →
      if Region.wanted o (yielded ops a.tmps) = true then Oper.wp Tryz.prog o a (W.alloc (.cells #[.int .i64 e.1, .int .i64 e.2.1, .int .i64 e.2.2] 45)) K Q else E := fun ao cap hv h0 hcl hfull => by
    refine step_append_grows hgd s x 42 ho 45 i0 (.agg #[.int .i64 0, .int .i64 0, .int .i64 0]) 3 24 Tryz.underlying42 hi hz0 hz1 hz2 rfl (by decide) ao l.length cap xs (by rw [hs, hv]) h0 hown.1 hcl ⟨W.heap.size, 0, none⟩ 1 1 [.int .i64 e.1, .int .i64 e.2.1, .int .i64 e.2.2] hx rfl (cell_three_new _ _ _ _ _) h1c hfull (by unfold maxLen; omega) (by omega) ?_
    intro v' w' h1 h2
    have h1' : w'.ownsRow lo 45 3 v' (l.length + 1) (xs ++ [.int .i64 e.1, .int .i64 e.2.1, .int .i64 e.2.2]) := owns_lift h1 (by simp; omega)
    obtain ⟨ad, c, rfl⟩ := fin _ _ h1'
    have h3 := (World.ownsRow.lt h1 ad rfl).1
    have h4 : W.grownBy w' none := grown_alloc h2 (fun g hg => by cases hg)
    exact h ad c w' (EntNew.snoc hown.1 hxs h1') ⟨h4.os, h4.tape, h4.output, h4.size, fun k hk _ => h4.block k hk (by simp)⟩ (.inr (by simp at h3; omega))
  rcases hown.2 with ⟨hv, hn⟩ | ⟨g, cap, cur, hv, hb, hgg, hnc, hcm, hcs, htake⟩
  · exact grows none 0 (by rw [hv, hn]) (fun _ => ⟨hn, rfl⟩) (fun b hb => by cases hb) (by omega)
  · by_cases hroom : l.length + 1 ≤ cap
    · have hw : Region.wanted o (yielded ops a.tmps) = true := by simp [Region.wanted, hgd]
      rw [if_pos hw]
      rw [hv] at hownA hs
      refine wp_append_own_spare _ s x 42 ho lo 45 i0 3 Tryz.underlying42 hi hz1 g l.length cap xs hs hownA ⟨W.heap.size, 0, none⟩ 1 1 [.int .i64 e.1, .int .i64 e.2.1, .int .i64 e.2.2] hx rfl (cell_three_new _ _ _ _ _) h1c hroom ?_
      intro w' h1 h2
      have h4 : W.grownBy w' (some g) := grown_alloc h2 (fun g' hg => by cases hg; exact heap_lt hgg)
      exact h g cap w' (EntNew.snoc hown.1 hxs h1) (by rw [hv]; exact h4) (.inl (by rw [hv]; rfl))
    · refine grows (some ⟨g, 0, none⟩) cap hv (fun e => by cases e) (fun b hb j u hj => ?_) (by omega)
      cases hb
      rw [hv] at hownA
      have h9 := World.ownsRow.cellAt hownA j
      have hjl : j < xs.length := by
        rcases Nat.lt_or_ge j xs.length with h | h
        · exact h
        · rw [List.getElem?_eq_none h] at hj; cases hj
      have := h9 (by rw [← hown.1]; exact hjl)
      have e9 : (⟨g, 0, none⟩ : Addr).add j = ⟨g, j, none⟩ := by simp [Addr.add]; omega
      rw [e9, ← hj]
      exact this
end
end Go.Proofs.YtlpibfafpljedaaGreatDoor

namespace Go.Proofs.YtlpibfafpljedaaGreatDoor
set_option linter.unusedVariables false

/-- a way begins with its house -/
def Head31 (ways : List (List Int)) (n : Nat) : Prop := ∀ i, i < n → ways.getD i [] ≠ [] → (ways.getD i []).getD 0 0 = (i : Int) + 1
theorem none31_head (n : Nat) (home : Int) : Head31 (none31 n home) n := fun i hi => by
  unfold none31
  rw [map_range_getD _ _ _ hi]
  split
  · rename_i h
    intro _
    rw [h]; rfl
  · intro h; exact absurd rfl h
theorem row31_head {rs ways : List (List Int)} {house rel : Int} (h : row31 rs ways house rel ≠ []) : (row31 rs ways house rel).getD 0 0 = house := by
  rcases fold31_picked (rs := rs) (ways := ways) (house := house) (rel := rel) (n := rs.length) rs.length (Nat.le_refl _) with e | ⟨b, _, _, e⟩
  · exact absurd e h
  · unfold row31; rw [e]; rfl
theorem pick31_head {rs ways : List (List Int)} {home house : Int} (h : pick31 rs ways home house ≠ []) : (pick31 rs ways home house).getD 0 0 = house := by
  by_cases hh : house = home
  · subst hh; rw [pick31_home]; rfl
  · rcases pick31_picked rs ways hh with e | ⟨b, _, _, e⟩
    · exact absurd e h
    · rw [e]; rfl
theorem net31_head {rs ways : List (List Int)} {home house : Int} {n : Nat} (h : Head31 ways n) : Head31 (net31 rs ways home house n) n := fun i hi => by
  unfold net31
  rw [map_range_getD _ _ _ hi]
  split
  · rename_i he
    intro hne
    rw [pick31_head hne, he]
  · exact h i hi
theorem endTo31_head {rs : List (List Int)} {home : Int} {n : Nat} : ∀ k, Head31 (endTo31 rs home n k) n
  | 0 => none31_head n home
  | k + 1 => by rw [endTo31_succ]; exact net31_head (endTo31_head k)
theorem tabF_has (rs : List (List Int)) (n : Nat) (l : List Ent) (h : Nat) : ∀ i q, q < i → (end31 rs (l.getD q (0, 0, 0)).2.2 n).getD h [] ≠ [] → ((l.getD q (0, 0, 0)).1, (l.getD q (0, 0, 0)).2.1, viaF ((end31 rs (l.getD q (0, 0, 0)).2.2 n).getD h []) (l.getD q (0, 0, 0)).2.2) ∈ tabF rs n l h i
  | 0, q, hq, _ => by omega
  | i + 1, q, hq, hne => by
    rw [tabF_succ]
    unfold impStep impPut
    by_cases hqi : q = i
    · subst hqi
      rw [if_neg hne]
      exact List.mem_append_right _ (List.mem_singleton.2 rfl)
    · have := tabF_has rs n l h i q (by omega) hne
      split
      · exact this
      · exact List.mem_append_left _ this
theorem tabF_len_yes {rs : List (List Int)} {n : Nat} {l : List Ent} {h i : Nat} (hne : (end31 rs (l.getD i (0, 0, 0)).2.2 n).getD h [] ≠ []) : (tabF rs n l h (i + 1)).length = (tabF rs n l h i).length + 1 := by
  rw [tabF_succ]
  unfold impStep impPut
  rw [if_neg hne, List.length_append]; rfl
theorem tabF_len_no {rs : List (List Int)} {n : Nat} {l : List Ent} {h i : Nat} (he : (end31 rs (l.getD i (0, 0, 0)).2.2 n).getD h [] = []) : (tabF rs n l h (i + 1)).length = (tabF rs n l h i).length := by
  rw [tabF_succ]
  unfold impStep impPut
  rw [if_pos he]
theorem tabF_short (rs : List (List Int)) (n : Nat) (l : List Ent) (h : Nat) : ∀ i, (tabF rs n l h i).length ≤ i
  | 0 => by simp [tabF]
  | i + 1 => by
    have := tabF_short rs n l h i
    by_cases he : (end31 rs (l.getD i (0, 0, 0)).2.2 n).getD h [] = []
    · rw [tabF_len_no he]; omega
    · rw [tabF_len_yes he]; omega
/-- the same range is the same home -/
theorem rise_same {l : List Ent} (hr : Rise l) {i q : Nat} (hi : i < l.length) (hq : q < l.length) (h1 : (l.getD q (0, 0, 0)).1 = (l.getD i (0, 0, 0)).1) (h2 : (l.getD q (0, 0, 0)).2.1 = (l.getD i (0, 0, 0)).2.1) : q = i := by
  by_cases h : q < i
  · have := hr q i h hi
    rw [ord_neg] at this; omega
  · by_cases h' : i < q
    · have := hr i q h' hq
      rw [ord_neg] at this; omega
    · omega
/-- an entry of a home's range is that home's -/
theorem tabF_at {rs : List (List Int)} {n : Nat} {l : List Ent} {h i : Nat} {x : Ent} (hr : Rise l) (hi : i < l.length) (hx : x ∈ tabF rs n l h l.length) (h1 : x.1 = (l.getD i (0, 0, 0)).1) (h2 : x.2.1 = (l.getD i (0, 0, 0)).2.1) :
    (end31 rs (l.getD i (0, 0, 0)).2.2 n).getD h [] ≠ [] ∧ x.2.2 = viaF ((end31 rs (l.getD i (0, 0, 0)).2.2 n).getD h []) (l.getD i (0, 0, 0)).2.2 := by
  obtain ⟨q, hq, a1, a2, a3, a4⟩ := tabF_ranges rs n l h l.length x hx
  obtain rfl := rise_same hr hi hq (a1.symm.trans h1) (a2.symm.trans h2)
  exact ⟨a3, a4⟩
/-- by whom house h + 1 goes to a home -/
theorem via_own {rs : List (List Int)} {n h : Nat} {ho : Int} (hh : h < n) (he : (h : Int) + 1 = ho) : (end31 rs ho n).getD h [] ≠ [] ∧ viaF ((end31 rs ho n).getD h []) ho = ho := by
  have := endTo31_home (rs := rs) he.symm hh (4 * n * n)
  unfold end31
  rw [this]
  exact ⟨by simp, rfl⟩
theorem way_two {way : List Int} {n : Nat} {hd : Int} (h2 : 2 ≤ way.length) (hnd : way.Nodup) (hh : way.getD 0 0 = hd) (hin : ∀ z, z ∈ way → 1 ≤ z ∧ z ≤ (n : Int)) : way.getD 1 0 ≠ hd ∧ 1 ≤ way.getD 1 0 ∧ way.getD 1 0 ≤ (n : Int) := by
  match way, h2 with
  | a :: b :: t, _ =>
    have e0 : a = hd := hh
    have hb := hin b (by simp)
    refine ⟨fun e => ?_, hb⟩
    have e1 : b = hd := e
    rw [List.nodup_cons] at hnd
    exact hnd.1 (by rw [e0, ← e1]; simp)
theorem via_far {rs : List (List Int)} {n h : Nat} {ho : Int} (hn : rs.length = n) (hh : h < n) (he : (h : Int) + 1 ≠ ho) (hne : (end31 rs ho n).getD h [] ≠ []) :
    2 ≤ ((end31 rs ho n).getD h []).length ∧ viaF ((end31 rs ho n).getD h []) ho = ((end31 rs ho n).getD h []).getD 1 0 ∧ ((end31 rs ho n).getD h []).getD 1 0 ≠ (h : Int) + 1 ∧ 1 ≤ ((end31 rs ho n).getD h []).getD 1 0 ∧ ((end31 rs ho n).getD h []).getD 1 0 ≤ n := by
  have h2 : 2 ≤ ((end31 rs ho n).getD h []).length := by
    rcases endTo31_far (rs := rs) (home := ho) (n := n) (4 * n * n) h hh he with e | e
    · exact absurd e hne
    · exact e
  have hhd := endTo31_head (rs := rs) (home := ho) (n := n) (4 * n * n) h hh hne
  have hgd := endTo31_good (rs := rs) (home := ho) hn (4 * n * n) h hh
  have hin := (endTo31_ways (home := ho) hn (by omega) (4 * n * n)).inn h hh
  have h3 : 2 ≤ ((endTo31 rs ho n (4 * n * n)).getD h []).length := h2
  obtain ⟨a1, a2, a3⟩ := way_two h3 hgd hhd hin
  exact ⟨h2, by unfold viaF; rw [if_pos (by omega)], a1, a2, a3⟩
/-- a table holds one's own homes -/
def ownF (tab : List Ent) (k : Nat) (f b h : Int) : Bool := (tab.take k).any fun x => decide (x.1 = f) && decide (x.2.1 = b) && decide (x.2.2 = h)
theorem ownF_zero (tab : List Ent) (f b h : Int) : ownF tab 0 f b h = false := rfl
theorem ownF_succ {tab : List Ent} {k : Nat} (f b h : Int) (hk : k < tab.length) : ownF tab (k + 1) f b h = (ownF tab k f b h || (decide ((tab.getD k (0, 0, 0)).1 = f) && decide ((tab.getD k (0, 0, 0)).2.1 = b) && decide ((tab.getD k (0, 0, 0)).2.2 = h))) := by
  unfold ownF
  rw [List.take_add_one, List.any_append, List.getD_eq_getElem?_getD, List.getElem?_eq_getElem hk]
  simp
theorem ownF_all {rs : List (List Int)} {n : Nat} {l : List Ent} {h i : Nat} (hn : rs.length = n) (hr : Rise l) (hi : i < l.length) (hh : h < n) :
    ownF (tabF rs n l h l.length) (tabF rs n l h l.length).length (l.getD i (0, 0, 0)).1 (l.getD i (0, 0, 0)).2.1 ((h : Int) + 1) = decide ((h : Int) + 1 = (l.getD i (0, 0, 0)).2.2) := by
  unfold ownF
  rw [List.take_length]
  by_cases he : (h : Int) + 1 = (l.getD i (0, 0, 0)).2.2
  · rw [decide_eq_true he, List.any_eq_true]
    obtain ⟨h1, h2⟩ := via_own (rs := rs) hh he
    refine ⟨_, tabF_has rs n l h l.length i hi h1, ?_⟩
    simp only [h2, he, decide_true, Bool.and_self]
  · rw [decide_eq_false he, List.any_eq_false]
    intro x hx
    simp only [Bool.and_eq_true, decide_eq_true_eq, not_and]
    intro ⟨a1, a2⟩ a3
    obtain ⟨h1, h2⟩ := tabF_at hr hi hx a1 a2
    obtain ⟨_, b2, b3, _⟩ := via_far hn hh he h1
    rw [h2, b2] at a3
    exact b3 a3
theorem tabF_rise {rs : List (List Int)} {n : Nat} {l : List Ent} (hr : Rise l) (h : Nat) : ∀ i, i ≤ l.length → Rise (tabF rs n l h i)
  | 0, _ => fun a b hab hb => by simp [tabF] at hb
  | i + 1, hi => by
    have ih := tabF_rise hr h i (by omega) (rs := rs) (n := n)
    have hless := tabF_less (rs := rs) (n := n) (h := h) hr (by omega : i < l.length)
    rw [tabF_succ]
    unfold impStep impPut
    split
    · exact ih
    · intro a b hab hb
      rw [List.length_append, List.length_singleton] at hb
      have ea : ((tabF rs n l h i) ++ [((l.getD i (0, 0, 0)).1, (l.getD i (0, 0, 0)).2.1, viaF ((end31 rs (l.getD i (0, 0, 0)).2.2 n).getD h []) (l.getD i (0, 0, 0)).2.2)]).getD a (0, 0, 0) = (tabF rs n l h i).getD a (0, 0, 0) := by
        simp only [List.getD_eq_getElem?_getD]; rw [List.getElem?_append_left (by omega)]
      rw [ea]
      by_cases hb2 : b < (tabF rs n l h i).length
      · have eb : ((tabF rs n l h i) ++ [((l.getD i (0, 0, 0)).1, (l.getD i (0, 0, 0)).2.1, viaF ((end31 rs (l.getD i (0, 0, 0)).2.2 n).getD h []) (l.getD i (0, 0, 0)).2.2)]).getD b (0, 0, 0) = (tabF rs n l h i).getD b (0, 0, 0) := by
          simp only [List.getD_eq_getElem?_getD]; rw [List.getElem?_append_left hb2]
        rw [eb]
        exact ih a b hab hb2
      · obtain rfl : b = (tabF rs n l h i).length := by omega
        have eb : ((tabF rs n l h i) ++ [((l.getD i (0, 0, 0)).1, (l.getD i (0, 0, 0)).2.1, viaF ((end31 rs (l.getD i (0, 0, 0)).2.2 n).getD h []) (l.getD i (0, 0, 0)).2.2)]).getD (tabF rs n l h i).length (0, 0, 0) = ((l.getD i (0, 0, 0)).1, (l.getD i (0, 0, 0)).2.1, viaF ((end31 rs (l.getD i (0, 0, 0)).2.2 n).getD h []) (l.getD i (0, 0, 0)).2.2) := by
          simp
        rw [eb]
        have := hless ((tabF rs n l h i).getD a (0, 0, 0)) (by
          rw [List.getD_eq_getElem?_getD, List.getElem?_eq_getElem (by omega)]
          exact List.getElem_mem _)
        exact this
theorem tabF_ok {rs : List (List Int)} {n : Nat} {l : List Ent} {h : Nat} (hn : rs.length = n) (h5 : n ≤ 5) (hh : h < n) (hok : homesOkF rs l = true) : tableOkF (tabF rs n l h l.length) = true := by
  have hr := homes_rise hok
  have hl4 := (homesOk_all hok).2.1
  have hs := tabF_short rs n l h l.length
  unfold tableOkF
  rw [Bool.and_eq_true, decide_eq_true_eq, List.all_eq_true]
  refine ⟨by omega, fun i hi => ?_⟩
  have hi' : i < (tabF rs n l h l.length).length := List.mem_range.1 hi
  rw [Bool.and_eq_true, Bool.or_eq_true, decide_eq_true_eq, decide_eq_true_eq]
  refine ⟨?_, ?_⟩
  · obtain ⟨x, hx⟩ : ∃ x, (tabF rs n l h l.length).getD i (0, 0, 0) = x := ⟨_, rfl⟩
    have hxm : x ∈ tabF rs n l h l.length := by
      rw [← hx, List.getD_eq_getElem?_getD, List.getElem?_eq_getElem hi']
      exact List.getElem_mem _
    rw [hx]
    obtain ⟨q, hq, a1, a2, a3, a4⟩ := tabF_ranges rs n l h l.length x hxm
    obtain ⟨b1, b2, b3⟩ := homes_house hok hq
    unfold entOkF
    rw [a1, a2, b3]
    have hv : 1 ≤ x.2.2 ∧ x.2.2 ≤ 9 := by
      rw [a4]
      by_cases he : (h : Int) + 1 = (l.getD q (0, 0, 0)).2.2
      · rw [(via_own (rs := rs) hh he).2]; omega
      · obtain ⟨_, c2, _, c4, c5⟩ := via_far hn hh he a3
        rw [c2]; omega
    rw [decide_eq_true hv.1, decide_eq_true hv.2]; rfl
  · by_cases h0 : i = 0
    · exact .inl h0
    · exact .inr (tabF_rise hr h l.length (Nat.le_refl _) (i - 1) i (by omega) hi')
end Go.Proofs.YtlpibfafpljedaaGreatDoor
