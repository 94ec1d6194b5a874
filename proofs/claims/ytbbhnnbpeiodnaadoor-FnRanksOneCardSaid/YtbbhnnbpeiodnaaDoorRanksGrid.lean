/- Lists of lists of ways, while they are built by append: what is laid stays. -/
import Derived.Test.YtbbhnnbpeiodnaaDoorRanksDraws2
namespace Go.Proofs.YtbbhnnbpeiodnaaDoor
open Go.RowKit
set_option linter.unusedVariables false
set_option maxRecDepth 100000

/-- A list of lists of ways of its own, from lo on. -/
def GridOwn (w : World) (lo lo0 : Nat) (v : Value) (lll : List (List (List Int))) : Prop :=
  ∃ vs : List Value, vs.length = lll.length ∧ w.ownsRow lo 27 1 v lll.length vs ∧ ∀ i, i < lll.length → RankOwn w lo lo0 (vs.getD i undef) (lll.getD i [])
theorem RankOwn.rows {w : World} {lo lo0 : Nat} {v : Value} {ll : List (List Int)} (h : RankOwn w lo lo0 v ll) : RowsAt w v ll := by
  obtain ⟨us, h1, h2, h3⟩ := h
  exact ⟨_, owns_slice h1 h2, fun i hi => (h3 i hi).1⟩
theorem GridOwn.grid {w : World} {lo lo0 : Nat} {v : Value} {lll : List (List (List Int))} (h : GridOwn w lo lo0 v lll) : GridAt w v lll := by
  obtain ⟨vs, h1, h2, h3⟩ := h
  exact ⟨_, owns_slice h1 h2, fun i hi => (h3 i hi).rows⟩
theorem GridOwn.below {w w' : World} {lo lo0 : Nat} {v : Value} {lll : List (List (List Int))} (h : GridOwn w lo lo0 v lll) (hb : Below w.heap.size w w') : GridOwn w' lo lo0 v lll := by
  obtain ⟨vs, h1, h2, h3⟩ := h
  exact ⟨vs, h1, owns_belowR h2 hb, fun i hi => (h3 i hi).below hb⟩
/-- a list that is written, of ways, leaves a list of lists as it was, if it is none of these -/
theorem GridOwn.append {w w1 : World} {lo lo0 : Nat} {v v' u : Value} {vs : List Value} {lll : List (List (List Int))} {ll : List (List Int)}
    (h : vs.length = lll.length ∧ w.ownsRow lo 27 1 v lll.length vs ∧ ∀ i, i < lll.length → RankOwn w lo lo0 (vs.getD i undef) (lll.getD i [])) (hu : RankOwn w lo lo0 u ll)
    (hown : w1.ownsRow lo 27 1 v' (lll.length + 1) (vs ++ [u])) (hg : w.grownBy w1 v.ownBlock) : GridOwn w1 lo lo0 v' (lll ++ [ll]) := by
  obtain ⟨h1, h2, h3⟩ := h
  have r1 := owns_type (T' := 24) h2 (by decide)
  have r2 := owns_type (T' := 3) h2 (by decide)
  refine ⟨vs ++ [u], by simp [h1], by simpa using hown, fun i hi => ?_⟩
  have hi' : i < lll.length + 1 := by simpa using hi
  rw [append_getD vs u undef i (by omega), append_getD lll ll [] i hi', h1]
  by_cases e : i = lll.length
  · rw [if_pos e, if_pos e]; exact hu.grown hg r1 r2
  · rw [if_neg e, if_neg e]; exact (h3 i (by omega)).grown hg r1 r2
theorem IntsTy.low {w : World} {lo lo' : Nat} {v : Value} {l : List Int} (h : IntsTy w lo v l) (hle : lo' ≤ lo) : IntsTy w lo' v l := ⟨h.1, fun b hb => Nat.le_trans hle (h.2.1 b hb), h.2.2⟩
theorem RowsTb.low {w : World} {lo lo' : Nat} {v : Value} {l : List (List Int)} (h : RowsTb w lo v l) (hle : lo' ≤ lo) : RowsTb w lo' v l := by
  obtain ⟨f, h1, h2, h3⟩ := h
  exact ⟨f, h1, fun b hb => Nat.le_trans hle (h2 b hb), fun i hi => (h3 i hi).low hle⟩
theorem TableIn.low {w : World} {lo lo' : Nat} {v : Value} {l : List (List (List Int))} (h : TableIn w lo v l) (hle : lo' ≤ lo) : TableIn w lo' v l := by
  obtain ⟨f, h1, h2, h3⟩ := h
  exact ⟨f, h1, fun b hb => Nat.le_trans hle (h2 b hb), fun i hi => (h3 i hi).low hle⟩
theorem RowsTb.at {w : World} {lo : Nat} {a : Option Addr} {n cap : Nat} {ll : List (List Int)} (h : RowsTb w lo (.slice a n cap) ll) (i : Nat) (hi : i < n) :
    ∃ b off v, a = some ⟨b, off, none⟩ ∧ b < w.heap.size ∧ w.cell? ⟨b, off + i, none⟩ = some v ∧ IntsTy w lo v (ll.getD i []) := by
  obtain ⟨rfl, _, _⟩ := h.rows.len
  obtain ⟨f, h1, _, h2⟩ := h
  obtain ⟨b, off, e, hb, hx⟩ := h1.get i hi
  exact ⟨b, off, f i, e, hb, hx, h2 i hi⟩
theorem TableIn.at {w : World} {lo : Nat} {a : Option Addr} {n cap : Nat} {ll : List (List (List Int))} (h : TableIn w lo (.slice a n cap) ll) (i : Nat) (hi : i < n) :
    ∃ b off v, a = some ⟨b, off, none⟩ ∧ b < w.heap.size ∧ w.cell? ⟨b, off + i, none⟩ = some v ∧ RowsTb w lo v (ll.getD i []) := by
  obtain ⟨rfl, _, _⟩ := h.grid.len
  obtain ⟨f, h1, _, h2⟩ := h
  obtain ⟨b, off, e, hb, hx⟩ := h1.get i hi
  exact ⟨b, off, f i, e, hb, hx, h2 i hi⟩
/-- one way, in a list of its own -/
theorem rank_one (w : World) (n lo lo0 : Nat) (hn : w.heap.size = n) (hlo : lo ≤ n) (u : Value) (p : List Int) (hu : IntsTy w lo0 u p) :
    RankOwn (w.alloc (.cells #[u] 24)) lo lo0 (.slice (some ⟨n, 0, none⟩) 1 1) [p] := by
  subst hn
  refine ⟨[u], rfl, World.ownsRow_lit (e := 24) (base := lo) (size := 1) w #[u] 1 hlo (by unfold maxLen; omega) rfl, fun i hi => ?_⟩
  match i, hi with
  | 0, _ => exact hu.alloc _
end Go.Proofs.YtbbhnnbpeiodnaaDoor
