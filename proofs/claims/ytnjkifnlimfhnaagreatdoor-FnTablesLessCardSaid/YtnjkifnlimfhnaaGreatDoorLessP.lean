/- Plain: tables with less in them. -/
import Derived.Test.YtnjkifnlimfhnaaGreatDoorWayS
import Derived.Test.YtnjkifnlimfhnaaGreatDoorHomsForm
namespace Go.Proofs.YtnjkifnlimfhnaaGreatDoor
open Go.RowKit
set_option linter.unusedVariables false

/-- two tables find the same for each address -/
def SameF (a b : List Ent) : Prop := ∀ x : Int, 0 ≤ x → x ≤ 255 → fV (vF a) x 9 = fV (vF b) x 9
theorem SameF.refl (a : List Ent) : SameF a a := fun _ _ _ => rfl
theorem SameF.trans {a b c : List Ent} (h : SameF a b) (g : SameF b c) : SameF a c := fun x h0 h1 => (h x h0 h1).trans (g x h0 h1)
theorem less_table {l : List Ent} {k : Nat} (h : tableOkF l = true) (hk : k < l.length) : tableOkF (l.take k ++ l.drop (k + 1)) = true := by
  obtain ⟨h2, h3⟩ := tableOk_all h
  have hlen : (l.take k ++ l.drop (k + 1)).length = l.length - 1 := by rw [List.length_append, List.length_take, List.length_drop]; omega
  refine tableOk_good (by omega) (fun i hi => ?_)
  rw [hlen] at hi
  rw [less_getD l k i hk hi]
  refine ⟨(h3 _ (by split <;> omega)).1, fun h0 => ?_⟩
  rw [less_getD l k (i - 1) hk (by omega)]
  by_cases hik : i < k
  · rw [if_pos (by omega), if_pos hik]
    exact (h3 i (by omega)).2 h0
  · rw [if_neg hik]
    by_cases hik2 : i = k
    · subst hik2
      rw [if_pos (by omega)]
      have a1 := (h3 i (by omega)).2 h0
      have a2 := (h3 (i + 1) (by omega)).2 (by omega)
      rw [Nat.add_sub_cancel] at a2
      exact ord_trans a1 a2
    · rw [if_neg (by omega), show i - 1 + 1 = i by omega]
      have a2 := (h3 (i + 1) (by omega)).2 (by omega)
      rw [Nat.add_sub_cancel] at a2
      exact a2
theorem goW_congr {f g : Int → Int} {n : Nat} (hfg : ∀ y, 1 ≤ y → y ≤ (n : Int) → f y = g y) : ∀ (k : Nat) (h : Int) (way : List Int), 1 ≤ h → h ≤ (n : Int) → goW f n k h way = goW g n k h way
  | 0, _, _, _, _ => rfl
  | k + 1, h, way, h1, hn => by
    have e1 : goW f n (k + 1) h way = if f h = h then (way, true) else if f h < 1 ∨ (n : Int) < f h then (way, false) else goW f n k (f h) (way ++ [f h]) := rfl
    have e2 : goW g n (k + 1) h way = if g h = h then (way, true) else if g h < 1 ∨ (n : Int) < g h then (way, false) else goW g n k (g h) (way ++ [g h]) := rfl
    rw [e1, e2, hfg h h1 hn]
    by_cases a : g h = h
    · rw [if_pos a, if_pos a]
    · rw [if_neg a, if_neg a]
      by_cases b : g h < 1 ∨ (n : Int) < g h
      · rw [if_pos b, if_pos b]
      · rw [if_neg b, if_neg b]
        exact goW_congr hfg k (g h) _ (by omega) (by omega)
theorem wayF_less {ls ls' : List (List Ent)} {h x : Int} (hl : ls'.length = ls.length) (hok : ∀ i, i < ls.length → tableOkF (ls'.getD i []) = true ∧ SameF (ls'.getD i []) (ls.getD i [])) (hd : tablesOkF ls = true) : wayF ls' h x = wayF ls h x := by
  obtain ⟨h1, h5, hall⟩ := tablesOk_at hd
  have hd' : tablesOkF ls' = true := tablesOk_good (by omega) (by omega) (fun i hi => (hok i (by omega)).1)
  unfold wayF
  rw [hd', hd, hl]
  by_cases hc : true = true ∧ 1 ≤ h ∧ h ≤ (ls.length : Int) ∧ addrF x = true
  · rw [if_pos hc, if_pos hc]
    obtain ⟨_, c1, c2, c3⟩ := hc
    unfold addrF at c3
    simp only [Bool.and_eq_true, decide_eq_true_eq] at c3
    refine goW_congr (fun y y1 yn => ?_) _ _ _ c1 c2
    exact (hok (y - 1).toNat (by omega)).2 x c3.1 c3.2
  · rw [if_neg hc, if_neg hc]
theorem way_dom {ls : List (List Ent)} {h x : Int} (hne : (wayF ls h x).1 ≠ []) : tablesOkF ls = true := by
  cases hd : tablesOkF ls with
  | true => rfl
  | false =>
    exfalso; apply hne
    unfold wayF
    rw [hd, if_neg (by simp)]
end Go.Proofs.YtnjkifnlimfhnaaGreatDoor
