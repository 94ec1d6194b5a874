/- Slices read as lists: of ints, of such, and of such; how they stay. Written for the Ranks family. -/
import Derived.Test.YtlpibfafpljedaaGreatDoorKit
namespace Go.Proofs.YtlpibfafpljedaaGreatDoor
open Go.RowKit
set_option linter.unusedVariables false

/-- A slice of n elements of one cell each, f i the i-th. -/
def SliceAt (w : World) (v : Value) (n : Nat) (f : Nat → Value) : Prop :=
  ∃ a cap, v = .slice a n cap ∧ n ≤ cap ∧ cap ≤ maxLen ∧ (n = 0 ∨ ∃ b off, a = some ⟨b, off, none⟩ ∧ b < w.heap.size ∧ ∀ i, i < n → w.cell? ⟨b, off + i, none⟩ = some (f i))
def IntsAt (w : World) (v : Value) (l : List Int) : Prop := SliceAt w v l.length fun i => .int .i64 (l.getD i 0)
def RowsAt (w : World) (v : Value) (ll : List (List Int)) : Prop := ∃ f, SliceAt w v ll.length f ∧ ∀ i, i < ll.length → IntsAt w (f i) (ll.getD i [])
def GridAt (w : World) (v : Value) (lll : List (List (List Int))) : Prop := ∃ f, SliceAt w v lll.length f ∧ ∀ i, i < lll.length → RowsAt w (f i) (lll.getD i [])

theorem SliceAt.below {w w' : World} {v : Value} {n : Nat} {f : Nat → Value} (h : SliceAt w v n f) (hb : Below w.heap.size w w') : SliceAt w' v n f := by
  obtain ⟨a, cap, rfl, hc, hm, h⟩ := h
  refine ⟨a, cap, rfl, hc, hm, ?_⟩
  rcases h with h | ⟨b, off, rfl, hlt, hcell⟩
  · exact .inl h
  · exact .inr ⟨b, off, rfl, Nat.lt_of_lt_of_le hlt hb.size, fun i hi => (hb.cell (p := ⟨b, off + i, none⟩) hlt).trans (hcell i hi)⟩
theorem IntsAt.below {w w' : World} {v : Value} {l : List Int} (h : IntsAt w v l) (hb : Below w.heap.size w w') : IntsAt w' v l := SliceAt.below h hb
theorem RowsAt.below {w w' : World} {v : Value} {ll : List (List Int)} (h : RowsAt w v ll) (hb : Below w.heap.size w w') : RowsAt w' v ll := by
  obtain ⟨f, h1, h2⟩ := h
  exact ⟨f, h1.below hb, fun i hi => (h2 i hi).below hb⟩
theorem GridAt.below {w w' : World} {v : Value} {lll : List (List (List Int))} (h : GridAt w v lll) (hb : Below w.heap.size w w') : GridAt w' v lll := by
  obtain ⟨f, h1, h2⟩ := h
  exact ⟨f, h1.below hb, fun i hi => (h2 i hi).below hb⟩

/-- Nothing but draws lies between two worlds. -/
def Drew (w w' : World) : Prop := ∃ m, w' = w.drewN m
theorem Drew.refl (w : World) : Drew w w := ⟨0, rfl⟩
theorem Drew.more {a w : World} (h : Drew a w) (n : Nat) : Drew a (w.drewN n) := by obtain ⟨m, rfl⟩ := h; exact ⟨m + n, by rw [World.drewN_drewN]⟩
theorem Drew.trans {a b c : World} (h : Drew a b) (g : Drew b c) : Drew a c := by obtain ⟨n, rfl⟩ := g; exact h.more n
theorem Drew.below {w w' : World} (h : Drew w w') (B : Nat) : Below B w w' := by obtain ⟨m, rfl⟩ := h; exact belowDrewN (Below.refl _ _) m
theorem Drew.size {w w' : World} (h : Drew w w') : w'.heap.size = w.heap.size := by obtain ⟨m, rfl⟩ := h; rfl
theorem quietA {P : Program} {f : FuncId} {args : Array Value} {w : World} {q x : Nat} {v : Value} (h : Calls P f args (w.drewN (q + x)) fun e w' => e = .returned v ∧ Drew (w.drewN (q + x)) w') :
    Calls P f args (w.drewN (q + x)) fun e w'' => e = .returned v ∧ ∃ n, w'' = w.drewN (q + n) :=
  h.mono fun _ _ ⟨he, m, hm⟩ => ⟨he, x + m, by rw [hm, World.drewN_drewN, Nat.add_assoc]⟩
theorem quietB {P : Program} {f : FuncId} {args : Array Value} {w : World} {x : Nat} {v : Value} (h : Calls P f args (w.drewN x) fun e w' => e = .returned v ∧ Drew (w.drewN x) w') :
    Calls P f args (w.drewN x) fun e w'' => e = .returned v ∧ ∃ n, w'' = w.drewN n :=
  h.mono fun _ _ ⟨he, m, hm⟩ => ⟨he, x + m, by rw [hm, World.drewN_drewN]⟩
theorem SliceAt.get {w : World} {a : Option Addr} {n cap : Nat} {f : Nat → Value} (h : SliceAt w (.slice a n cap) n f) (i : Nat) (hi : i < n) :
    ∃ b off, a = some ⟨b, off, none⟩ ∧ b < w.heap.size ∧ w.cell? ⟨b, off + i, none⟩ = some (f i) := by
  obtain ⟨a', cap', e, hc, hm, h⟩ := h
  simp only [Value.slice.injEq] at e
  obtain ⟨rfl, _, rfl⟩ := e
  rcases h with h | ⟨b, off, rfl, hlt, hcell⟩
  · omega
  · exact ⟨b, off, rfl, hlt, hcell i hi⟩
theorem SliceAt.form {w : World} {v : Value} {n : Nat} {f : Nat → Value} (h : SliceAt w v n f) : ∃ a cap, v = .slice a n cap ∧ n ≤ cap ∧ cap ≤ 9223372036854775807 := by
  obtain ⟨a, cap, rfl, hc, hm, _⟩ := h
  exact ⟨a, cap, rfl, hc, by unfold maxLen at hm; exact hm⟩
/-- the first k of a slice -/
theorem SliceAt.front {w : World} {a : Option Addr} {n cap k : Nat} {f : Nat → Value} (h : SliceAt w (.slice a n cap) n f) (hk : k ≤ n) : SliceAt w (.slice a k cap) k f := by
  obtain ⟨a', cap', e, hc, hm, h⟩ := h
  simp only [Value.slice.injEq] at e
  obtain ⟨rfl, _, rfl⟩ := e
  refine ⟨a, cap, rfl, by omega, hm, ?_⟩
  rcases h with h | ⟨b, off, rfl, hlt, hcell⟩
  · exact .inl (by omega)
  · exact .inr ⟨b, off, rfl, hlt, fun i hi => hcell i (by omega)⟩

theorem IntsAt.form {w : World} {v : Value} {l : List Int} (h : IntsAt w v l) : ∃ a cap, v = .slice a l.length cap ∧ l.length ≤ cap ∧ cap ≤ 9223372036854775807 := SliceAt.form h
theorem IntsAt.take {w : World} {a : Option Addr} {n cap k : Nat} {l : List Int} (h : IntsAt w (.slice a n cap) l) (hk : k ≤ l.length) : IntsAt w (.slice a k cap) (l.take k) := by
  have hn : n = l.length := by obtain ⟨a', c', e, _⟩ := h; simp only [Value.slice.injEq] at e; exact e.2.1
  subst hn
  have g := SliceAt.front h hk
  have hl : (l.take k).length = k := by rw [List.length_take]; omega
  unfold IntsAt
  rw [hl]
  obtain ⟨a', cap', e, hc, hm, g⟩ := g
  refine ⟨a', cap', e, hc, hm, ?_⟩
  rcases g with g | ⟨b, off, rfl, hlt, hcell⟩
  · exact .inl g
  · refine .inr ⟨b, off, rfl, hlt, fun i hi => ?_⟩
    rw [hcell i hi]; simp [hi]

theorem IntsAt.len {w : World} {a : Option Addr} {n cap : Nat} {l : List Int} (h : IntsAt w (.slice a n cap) l) : n = l.length ∧ n ≤ cap ∧ cap ≤ 9223372036854775807 := by
  obtain ⟨a', c', e, hc, hm⟩ := h.form
  simp only [Value.slice.injEq] at e
  obtain ⟨_, rfl, rfl⟩ := e
  exact ⟨rfl, hc, hm⟩
theorem IntsAt.get {w : World} {a : Option Addr} {n cap : Nat} {l : List Int} (h : IntsAt w (.slice a n cap) l) (i : Nat) (hi : i < n) :
    ∃ b off, a = some ⟨b, off, none⟩ ∧ b < w.heap.size ∧ w.cell? ⟨b, off + i, none⟩ = some (.int .i64 (l.getD i 0)) := by
  obtain ⟨rfl, _, _⟩ := h.len
  exact SliceAt.get h i hi
theorem RowsAt.form {w : World} {v : Value} {ll : List (List Int)} (h : RowsAt w v ll) : ∃ a cap, v = .slice a ll.length cap ∧ ll.length ≤ cap ∧ cap ≤ 9223372036854775807 := by
  obtain ⟨f, h, _⟩ := h; exact h.form
theorem RowsAt.len {w : World} {a : Option Addr} {n cap : Nat} {ll : List (List Int)} (h : RowsAt w (.slice a n cap) ll) : n = ll.length ∧ n ≤ cap ∧ cap ≤ 9223372036854775807 := by
  obtain ⟨a', c', e, hc, hm⟩ := h.form
  simp only [Value.slice.injEq] at e
  obtain ⟨_, rfl, rfl⟩ := e
  exact ⟨rfl, hc, hm⟩
theorem RowsAt.get {w : World} {a : Option Addr} {n cap : Nat} {ll : List (List Int)} (h : RowsAt w (.slice a n cap) ll) (i : Nat) (hi : i < n) :
    ∃ b off v, a = some ⟨b, off, none⟩ ∧ b < w.heap.size ∧ w.cell? ⟨b, off + i, none⟩ = some v ∧ IntsAt w v (ll.getD i []) := by
  obtain ⟨rfl, _, _⟩ := h.len
  obtain ⟨f, h1, h2⟩ := h
  obtain ⟨b, off, e, hb, hx⟩ := h1.get i hi
  exact ⟨b, off, f i, e, hb, hx, h2 i hi⟩
theorem RowsAt.take {w : World} {a : Option Addr} {n cap k : Nat} {ll : List (List Int)} (h : RowsAt w (.slice a n cap) ll) (hk : k ≤ ll.length) : RowsAt w (.slice a k cap) (ll.take k) := by
  obtain ⟨rfl, _, _⟩ := h.len
  obtain ⟨f, h1, h2⟩ := h
  have g := SliceAt.front h1 hk
  have hl : (ll.take k).length = k := by rw [List.length_take]; omega
  refine ⟨f, by rw [hl]; exact g, fun i hi => ?_⟩
  rw [hl] at hi
  have := h2 i (by omega)
  have e : (ll.take k).getD i [] = ll.getD i [] := by simp [hi]
  rw [e]; exact this
theorem GridAt.form {w : World} {v : Value} {lll : List (List (List Int))} (h : GridAt w v lll) : ∃ a cap, v = .slice a lll.length cap ∧ lll.length ≤ cap ∧ cap ≤ 9223372036854775807 := by
  obtain ⟨f, h, _⟩ := h; exact h.form
theorem GridAt.len {w : World} {a : Option Addr} {n cap : Nat} {lll : List (List (List Int))} (h : GridAt w (.slice a n cap) lll) : n = lll.length ∧ n ≤ cap ∧ cap ≤ 9223372036854775807 := by
  obtain ⟨a', c', e, hc, hm⟩ := h.form
  simp only [Value.slice.injEq] at e
  obtain ⟨_, rfl, rfl⟩ := e
  exact ⟨rfl, hc, hm⟩
theorem GridAt.get {w : World} {a : Option Addr} {n cap : Nat} {lll : List (List (List Int))} (h : GridAt w (.slice a n cap) lll) (i : Nat) (hi : i < n) :
    ∃ b off v, a = some ⟨b, off, none⟩ ∧ b < w.heap.size ∧ w.cell? ⟨b, off + i, none⟩ = some v ∧ RowsAt w v (lll.getD i []) := by
  obtain ⟨rfl, _, _⟩ := h.len
  obtain ⟨f, h1, h2⟩ := h
  obtain ⟨b, off, e, hb, hx⟩ := h1.get i hi
  exact ⟨b, off, f i, e, hb, hx, h2 i hi⟩
theorem IntsAt.drew {w w' : World} {v : Value} {l : List Int} (h : IntsAt w v l) (hd : Drew w w') : IntsAt w' v l := h.below (hd.below _)
theorem RowsAt.drew {w w' : World} {v : Value} {l : List (List Int)} (h : RowsAt w v l) (hd : Drew w w') : RowsAt w' v l := h.below (hd.below _)
theorem GridAt.drew {w w' : World} {v : Value} {l : List (List (List Int))} (h : GridAt w v l) (hd : Drew w w') : GridAt w' v l := h.below (hd.below _)

/-- whether a way is one that a house may like -/
def wayOk (p : List Int) (h : Int) : Bool :=
  decide (2 ≤ p.length) && decide (p.getD 0 0 = h) && decide (p.getD (p.length - 1) 0 = 0) &&
    (List.range (p.length - 1)).all fun i => decide (1 ≤ p.getD i 0) && decide (p.getD i 0 ≤ 3) && !(p.take i).contains (p.getD i 0)
def rankOk (l : List (List Int)) (h : Int) : Bool :=
  decide (l.length ≤ 3) && (List.range l.length).all fun i => wayOk (l.getD i []) h && !(l.take i).contains (l.getD i [])
def ranksOk (r : List (List (List Int))) : Bool :=
  decide (r.length = 3) && (List.range r.length).all fun i => rankOk (r.getD i []) (i + 1)

/-- The plain law of FnRanksForm. -/
theorem ranks_form {r : List (List (List Int))} (h : ranksOk r = true) :
    ranksOk [r.getD 0 [] ++ [[2, 0]], r.getD 1 [], r.getD 2 []] = false ∧ ranksOk [[[1, 0], [1, 0]], r.getD 1 [], r.getD 2 []] = false ∧
    ranksOk [[[1, 2]], r.getD 1 [], r.getD 2 []] = false ∧ ranksOk (r.take 2) = false := by
  have hlen : r.length = 3 := by simp [ranksOk] at h; exact h.1
  have hk : ∀ (x y z : List (List Int)), rankOk x 1 = false → ranksOk [x, y, z] = false := by
    intro x y z hx
    simp [ranksOk, List.range, List.range.loop, hx]
  refine ⟨hk _ _ _ ?_, hk _ _ _ (by decide +kernel), hk _ _ _ (by decide +kernel), ?_⟩
  · have hw : wayOk [2, 0] 1 = false := by decide +kernel
    generalize r.getD 0 [] = x
    have hx : (x ++ [[(2 : Int), 0]]).getD x.length [] = [(2 : Int), 0] := by simp
    simp only [rankOk, Bool.and_eq_false_iff, List.all_eq_false]
    right
    refine ⟨x.length, by simp, ?_⟩
    rw [hx, hw]
    simp
  · simp [ranksOk]; omega
end Go.Proofs.YtlpibfafpljedaaGreatDoor
