/- A part of the proof; packed by a program of mine out of my texts. -/
import Derived.Test.YtnecdeaikmhanaaGreatDoorPE0
import Derived.Test.YtnecdeaikmhanaaGreatDoorPE1
import Derived.OwnWalk
import Derived.Maps.AppendAt
import Derived.Deep.RegionHeld3
import Derived.Deep.DeepCutAuto
import Derived.Laws.EntriesVeiled
import Derived.Deep.LoopGhost
import Derived.Deep.RegionLaw
namespace Go.Proofs.YtnecdeaikmhanaaGreatDoor
set_option linter.unusedVariables false
def vF (l : List Ent) (k : Nat) (p : Int) : Int := l.foldl (fun acc e => if e.2.1 = (k : Int) ∧ e.1 / sizeF e.2.1 = p then e.2.2 else acc) 0
theorem vF_snoc (l : List Ent) (e : Ent) (k : Nat) (p : Int) : vF (l ++ [e]) k p = if e.2.1 = (k : Int) ∧ e.1 / sizeF e.2.1 = p then e.2.2 else vF l k p := by
  unfold vF; rw [List.foldl_append]; rfl
def fV (v : Nat → Int → Int) (x : Int) : Nat → Int
  | 0 => 0
  | k + 1 => if v k (x / sizeF k) ≠ 0 then v k (x / sizeF k) else fV v x k
theorem fV_none {v : Nat → Int → Int} {x : Int} : ∀ n : Nat, (∀ k, k < n → v k (x / sizeF k) = 0) → fV v x n = 0
  | 0, _ => rfl
  | n + 1, h => by
    unfold fV
    rw [if_neg (by rw [h n (by omega)]; simp)]
    exact fV_none n (fun k hk => h k (by omega))
theorem fV_at {v : Nat → Int → Int} {x c : Int} {K : Nat} (hc : c ≠ 0) (hv : v K (x / sizeF K) = c) : ∀ n : Nat, K < n → (∀ k, K < k → k < n → v k (x / sizeF k) = 0) → fV v x n = c
  | 0, h, _ => by omega
  | n + 1, h, hz => by
    unfold fV
    by_cases e : K = n
    · subst e
      rw [if_pos (by rw [hv]; exact hc), hv]
    · rw [if_neg (by rw [hz n (by omega) (by omega)]; simp)]
      exact fV_at hc hv n (by omega) (fun k h1 h2 => hz k h1 (by omega))
theorem fV_cut {v : Nat → Int → Int} {x : Int} {K : Nat} : ∀ n : Nat, K ≤ n → (∀ k, K ≤ k → k < n → v k (x / sizeF k) = 0) → fV v x n = fV v x K
  | 0, h, _ => by obtain rfl : K = 0 := by omega
                  rfl
  | n + 1, h, hz => by
    by_cases e : K = n + 1
    · rw [e]
    · have e1 : fV v x (n + 1) = if v n (x / sizeF n) ≠ 0 then v n (x / sizeF n) else fV v x n := rfl
      rw [e1, if_neg (by rw [hz n (by omega) (by omega)]; simp)]
      exact fV_cut n (by omega) (fun k h1 h2 => hz k h1 (by omega))
theorem vF_zero {l : List Ent} {k : Nat} {p : Int} : (∀ e, e ∈ l → ¬ (e.2.1 = (k : Int) ∧ e.1 / sizeF e.2.1 = p)) → vF l k p = 0 := by
  unfold vF
  generalize (0 : Int) = z
  induction l generalizing z with
  | nil => intro _; rfl
  | cons a t ih =>
    intro h
    rw [List.foldl_cons, if_neg (h a (by simp))]
    exact ih z (fun e he => h e (by simp [he]))
theorem vF_same {l : List Ent} {k : Nat} {p c : Int} (hex : ∃ e, e ∈ l ∧ e.2.1 = (k : Int) ∧ e.1 / sizeF e.2.1 = p) (hall : ∀ e, e ∈ l → e.2.1 = (k : Int) → e.1 / sizeF e.2.1 = p → e.2.2 = c) : vF l k p = c := by
  unfold vF
  have key : ∀ (l : List Ent) (z : Int), (∀ e, e ∈ l → e.2.1 = (k : Int) → e.1 / sizeF e.2.1 = p → e.2.2 = c) →
      (l.foldl (fun acc (e : Ent) => if e.2.1 = (k : Int) ∧ e.1 / sizeF e.2.1 = p then e.2.2 else acc) z = c ∨ (l.foldl (fun acc (e : Ent) => if e.2.1 = (k : Int) ∧ e.1 / sizeF e.2.1 = p then e.2.2 else acc) z = z ∧ ¬ ∃ e, e ∈ l ∧ e.2.1 = (k : Int) ∧ e.1 / sizeF e.2.1 = p)) := by
    intro l
    induction l with
    | nil => intro z _; exact .inr ⟨rfl, by simp⟩
    | cons a t ih =>
      intro z h
      rw [List.foldl_cons]
      by_cases ha : a.2.1 = (k : Int) ∧ a.1 / sizeF a.2.1 = p
      · rw [if_pos ha]
        have hac := h a (by simp) ha.1 ha.2
        rcases ih a.2.2 (fun e he => h e (by simp [he])) with h1 | ⟨h1, _⟩
        · exact .inl h1
        · left; rw [h1]; exact hac
      · rw [if_neg ha]
        rcases ih z (fun e he => h e (by simp [he])) with h1 | ⟨h1, h2⟩
        · exact .inl h1
        · refine .inr ⟨h1, ?_⟩
          rintro ⟨e, he, h3⟩
          rcases List.mem_cons.1 he with rfl | he
          · exact ha h3
          · exact h2 ⟨e, he, h3⟩
  rcases key l 0 hall with h | ⟨_, h⟩
  · exact h
  · exact absurd hex h
def BestAt (l : List Ent) (x : Int) (n : Nat) (best : Int) : Prop :=
  (best = -1 ∧ ∀ i, i < n → hasF (l.getD i (0, 0, 0)).1 (l.getD i (0, 0, 0)).2.1 x = false) ∨
  (∃ j : Nat, best = (j : Int) ∧ j < n ∧ hasF (l.getD j (0, 0, 0)).1 (l.getD j (0, 0, 0)).2.1 x = true ∧
    ∀ i, i < n → hasF (l.getD i (0, 0, 0)).1 (l.getD i (0, 0, 0)).2.1 x = true → (l.getD i (0, 0, 0)).2.1 ≤ (l.getD j (0, 0, 0)).2.1)
theorem tableOk_all {l : List Ent} (h : tableOkF l = true) : l.length ≤ 12 ∧ ∀ i, i < l.length → entOkF (l.getD i (0, 0, 0)) = true ∧ (i ≠ 0 → ordF (l.getD (i - 1) (0, 0, 0)) (l.getD i (0, 0, 0)) < 0) := by
  unfold tableOkF at h
  rw [Bool.and_eq_true, List.all_eq_true] at h
  refine ⟨by simpa using h.1, fun i hi => ?_⟩
  have := h.2 i (by simpa using hi)
  rw [Bool.and_eq_true, Bool.or_eq_true] at this
  refine ⟨this.1, fun h0 => ?_⟩
  rcases this.2 with h2 | h2
  · exact absurd (by simpa using h2) h0
  · simpa using h2
def ltE (a b : Ent) : Prop := a.1 < b.1 ∨ (a.1 = b.1 ∧ a.2.1 < b.2.1)
theorem ordF_lt {a b : Ent} : ordF a b < 0 ↔ ltE a b := by
  unfold ordF rcmpF cmpI ltE
  by_cases h1 : a.1 < b.1
  · simp [h1]
  · by_cases h2 : b.1 < a.1
    · simp [h1, h2]; omega
    · have h3 : a.1 = b.1 := by omega
      by_cases h4 : a.2.1 < b.2.1
      · simp [h3, h4]
      · by_cases h5 : b.2.1 < a.2.1
        · simp [h3, h4, h5]
        · simp [h3, h4, h5]
theorem tableOk_lt {l : List Ent} (h : tableOkF l = true) : ∀ (j : Nat), j < l.length → ∀ i, i < j → ltE (l.getD i (0, 0, 0)) (l.getD j (0, 0, 0)) := by
  obtain ⟨_, hall⟩ := tableOk_all h
  intro j
  induction j with
  | zero => intro _ i hi; omega
  | succ j ih =>
    intro hj i hi
    have hstep := ordF_lt.1 ((hall (j + 1) hj).2 (by omega))
    rw [Nat.add_sub_cancel] at hstep
    by_cases e : i = j
    · subst e; exact hstep
    · have := ih (by omega) i (by omega)
      unfold ltE at this hstep ⊢
      omega
theorem entOk_parts {e : Ent} (h : entOkF e = true) : 0 ≤ e.2.1 ∧ e.2.1 ≤ 8 ∧ 0 ≤ e.1 ∧ e.1 ≤ 255 ∧ e.1 % sizeF e.2.1 = 0 ∧ 1 ≤ e.2.2 ∧ e.2.2 ≤ 9 := by
  unfold entOkF rangeOkF addrF at h
  simp only [Bool.and_eq_true, decide_eq_true_eq] at h
  omega
theorem same_range {a b : Ent} (ha : entOkF a = true) (hb : entOkF b = true) (h1 : a.2.1 = b.2.1) (h2 : a.1 / sizeF a.2.1 = b.1 / sizeF b.2.1) : a.1 = b.1 := by
  obtain ⟨_, _, _, _, m1, _⟩ := entOk_parts ha
  obtain ⟨_, _, _, _, m2, _⟩ := entOk_parts hb
  have e1 := Int.emod_add_mul_ediv a.1 (sizeF a.2.1)
  have e2 := Int.emod_add_mul_ediv b.1 (sizeF b.2.1)
  rw [m1] at e1
  rw [m2] at e2
  rw [← e1, ← e2, h1, ← h2, h1]
theorem best_find {l : List Ent} {x best : Int} (h : tableOkF l = true) (hb : BestAt l x l.length best) :
    fV (vF l) x 9 = if best < 0 then 0 else (l.getD best.toNat (0, 0, 0)).2.2 := by
  obtain ⟨_, hall⟩ := tableOk_all h
  have hlt := tableOk_lt h
  have hmem : ∀ e, e ∈ l → ∃ i, i < l.length ∧ l.getD i (0, 0, 0) = e := fun e he => by
    obtain ⟨i, hi, rfl⟩ := List.getElem_of_mem he
    exact ⟨i, hi, by rw [List.getD_eq_getElem?_getD, List.getElem?_eq_getElem hi]; rfl⟩
  rcases hb with ⟨rfl, hno⟩ | ⟨j, rfl, hj, hhas, hmax⟩
  · rw [if_pos (by omega)]
    refine fV_none 9 (fun k hk => vF_zero fun e he hh => ?_)
    obtain ⟨i, hi, rfl⟩ := hmem e he
    have := hno i hi
    unfold hasF at this
    rw [decide_eq_false_iff_not] at this
    apply this
    rw [hh.2, hh.1]
  · rw [if_neg (by omega), Int.toNat_natCast]
    obtain ⟨ent, hent⟩ : ∃ e, l.getD j (0, 0, 0) = e := ⟨_, rfl⟩
    have hok := (hall j hj).1
    rw [hent] at hok hhas hmax ⊢
    obtain ⟨b0, b8, _, _, _, v1, _⟩ := entOk_parts hok
    obtain ⟨K, hK⟩ : ∃ K : Nat, ent.2.1 = (K : Int) := ⟨ent.2.1.toNat, by omega⟩
    have hkey : x / sizeF ent.2.1 = ent.1 / sizeF ent.2.1 := by unfold hasF at hhas; simpa using hhas
    refine fV_at (K := K) (by omega) ?_ 9 (by omega) (fun k h1 h2 => vF_zero fun e he hh => ?_)
    · refine vF_same ⟨ent, by rw [← hent, List.getD_eq_getElem?_getD, List.getElem?_eq_getElem hj]; exact List.getElem_mem _, hK, by rw [← hkey, hK]⟩ (fun e he h3 h4 => ?_)
      obtain ⟨i, hi, rfl⟩ := hmem e he
      have hoi := (hall i hi).1
      have hb' : (l.getD i (0, 0, 0)).2.1 = ent.2.1 := by rw [h3, hK]
      have hf' := same_range hoi hok hb' (by rw [h4, ← hkey, hK])
      have : i = j := by
        rcases Nat.lt_trichotomy i j with hij | hij | hij
        · have := hlt j hj i hij
          rw [hent] at this
          unfold ltE at this; omega
        · exact hij
        · have := hlt i hi j hij
          rw [hent] at this
          unfold ltE at this; omega
      subst this
      rw [hent]
    · obtain ⟨i, hi, rfl⟩ := hmem e he
      have hh2 : hasF (l.getD i (0, 0, 0)).1 (l.getD i (0, 0, 0)).2.1 x = true := by
        unfold hasF; rw [decide_eq_true_eq, hh.2, hh.1]
      have := hmax i hi hh2
      rw [hh.1, hK] at this
      omega
end Go.Proofs.YtnecdeaikmhanaaGreatDoor
namespace Go.Proofs.YtnecdeaikmhanaaGreatDoor
open Go.RowKit
set_option linter.unusedVariables false
def ptrV (o : Option Nat) : Value := .pointer (o.map fun b => ⟨b, 0, none⟩)
structure IsTrie (W : World) (lo : Nat) (m : Nat → Int → Option Nat) (v : Nat → Int → Int) : Prop where
  node : ∀ k p b, m k p = some b → lo ≤ b ∧ W.heap[b]? = some (.cells #[.int .i64 (v k p), ptrV (m (k + 1) (2 * p)), ptrV (m (k + 1) (2 * p + 1))] 193 (0, 0))
  inj : ∀ k p k' p' b, m k p = some b → m k' p' = some b → k = k' ∧ p = p'
  zero : ∀ k p, m k p = none → v k p = 0
  shut : ∀ k p c, (c = 0 ∨ c = 1) → m k p = none → m (k + 1) (2 * p + c) = none
theorem IsTrie.below {W W' : World} {lo : Nat} {m : Nat → Int → Option Nat} {v : Nat → Int → Int} (h : IsTrie W lo m v) (hb : Below W.heap.size W W') : IsTrie W' lo m v :=
  ⟨fun k p b hm => ⟨(h.node k p b hm).1, (hb.block b (Array.getElem?_eq_some_iff.1 (h.node k p b hm).2).1).trans (h.node k p b hm).2⟩, h.inj, h.zero, h.shut⟩
theorem node_cells {W : World} {b : Nat} {x y z : Value} {T : TypeId} (h : W.heap[b]? = some (.cells #[x, y, z] T (0, 0))) :
    b < W.heap.size ∧ W.cell? ⟨b, 0, none⟩ = some x ∧ W.cell? ⟨b, 1, none⟩ = some y ∧ W.cell? ⟨b, 2, none⟩ = some z ∧ W.frozen? ⟨b, 0, none⟩ = false ∧ W.frozen? ⟨b, 1, none⟩ = false ∧ W.frozen? ⟨b, 2, none⟩ = false := by
  refine ⟨(Array.getElem?_eq_some_iff.1 h).1, ?_, ?_, ?_, ?_, ?_, ?_⟩ <;> simp [World.cell?, World.frozen?, h]
def bitI (x : Int) (k : Nat) : Int := x / sizeF ((k : Int) + 1) % 2
theorem bit_step (x : Int) (k : Nat) (hk : k < 8) : x / sizeF ((k : Int) + 1) = 2 * (x / sizeF (k : Int)) + bitI x k := by
  have e : sizeF (k : Int) = sizeF ((k : Int) + 1) * 2 := by
    unfold sizeF
    rw [show (8 - (k : Int)).toNat = (8 - ((k : Int) + 1)).toNat + 1 by omega, Int.pow_succ]
  have h2 : x / sizeF (k : Int) = x / sizeF ((k : Int) + 1) / 2 := by
    rw [e, Int.ediv_ediv_of_nonneg (by have := sizeF_pos ((k : Int) + 1); omega)]
  rw [h2]
  unfold bitI
  omega
theorem bitI_01 (x : Int) (k : Nat) : bitI x k = 0 ∨ bitI x k = 1 := by unfold bitI; omega
theorem size_zero (x : Int) (h0 : 0 ≤ x) (h1 : x ≤ 255) : x / sizeF ((0 : Nat) : Int) = 0 := by
  have : sizeF ((0 : Nat) : Int) = 256 := by decide
  rw [this]; omega
theorem bits_all : ∀ n : Nat, n < 256 → bits BinOp.and IntKind.i64 ((n : Int) / 128) 1 = bitI (n : Int) 0 ∧ bits BinOp.and IntKind.i64 ((n : Int) / 64) 1 = bitI (n : Int) 1 ∧ bits BinOp.and IntKind.i64 ((n : Int) / 32) 1 = bitI (n : Int) 2 ∧ bits BinOp.and IntKind.i64 ((n : Int) / 16) 1 = bitI (n : Int) 3 ∧ bits BinOp.and IntKind.i64 ((n : Int) / 8) 1 = bitI (n : Int) 4 ∧ bits BinOp.and IntKind.i64 ((n : Int) / 4) 1 = bitI (n : Int) 5 ∧ bits BinOp.and IntKind.i64 ((n : Int) / 2) 1 = bitI (n : Int) 6 ∧ bits BinOp.and IntKind.i64 (n : Int) 1 = bitI (n : Int) 7 := by decide +kernel
theorem bitOf_any (x : Int) (k : Nat) (h0 : 0 ≤ x) (h1 : x ≤ 255) (hk : k < 8) (w : World) :
    Calls Tryz.prog 167 #[.int .i64 x, .int .i64 (k : Int)] w fun e w' => e = .returned (.int .i64 (bitI x k)) ∧ w' = w := by
  obtain ⟨n, rfl⟩ : ∃ n : Nat, x = (n : Int) := ⟨x.toNat, by omega⟩
  have hk8 : k = 0 ∨ k = 1 ∨ k = 2 ∨ k = 3 ∨ k = 4 ∨ k = 5 ∨ k = 6 ∨ k = 7 := by omega
  obtain ⟨q0, q1, q2, q3, q4, q5, q6, q7⟩ := bits_all n (by omega)
  rcases hk8 with rfl | rfl | rfl | rfl | rfl | rfl | rfl | rfl
  · clear q1 q2 q3 q4 q5 q6 q7
    have Q := Lib.hid q0
    clear q0
    go_enter Tryz.func167, Tryz.ntmps167
    go_wp2_with fail
    go_ret
    exact ⟨by rw [← Q.out]; rfl, rfl⟩
  · clear q0 q2 q3 q4 q5 q6 q7
    have Q := Lib.hid q1
    clear q1
    go_enter Tryz.func167, Tryz.ntmps167
    go_wp2_with fail
    go_ret
    exact ⟨by rw [← Q.out]; rfl, rfl⟩
  · clear q0 q1 q3 q4 q5 q6 q7
    have Q := Lib.hid q2
    clear q2
    go_enter Tryz.func167, Tryz.ntmps167
    go_wp2_with fail
    go_ret
    exact ⟨by rw [← Q.out]; rfl, rfl⟩
  · clear q0 q1 q2 q4 q5 q6 q7
    have Q := Lib.hid q3
    clear q3
    go_enter Tryz.func167, Tryz.ntmps167
    go_wp2_with fail
    go_ret
    exact ⟨by rw [← Q.out]; rfl, rfl⟩
  · clear q0 q1 q2 q3 q5 q6 q7
    have Q := Lib.hid q4
    clear q4
    go_enter Tryz.func167, Tryz.ntmps167
    go_wp2_with fail
    go_ret
    exact ⟨by rw [← Q.out]; rfl, rfl⟩
  · clear q0 q1 q2 q3 q4 q6 q7
    have Q := Lib.hid q5
    clear q5
    go_enter Tryz.func167, Tryz.ntmps167
    go_wp2_with fail
    go_ret
    exact ⟨by rw [← Q.out]; rfl, rfl⟩
  · clear q0 q1 q2 q3 q4 q5 q7
    have Q := Lib.hid q6
    clear q6
    go_enter Tryz.func167, Tryz.ntmps167
    go_wp2_with fail
    go_ret
    exact ⟨by rw [← Q.out]; rfl, rfl⟩
  · clear q0 q1 q2 q3 q4 q5 q6
    have Q := Lib.hid q7
    clear q7
    go_enter Tryz.func167, Tryz.ntmps167
    go_wp2_with fail
    go_ret
    exact ⟨by rw [← Q.out]; rfl, rfl⟩
end Go.Proofs.YtnecdeaikmhanaaGreatDoor
namespace Go.Proofs.YtnecdeaikmhanaaGreatDoor
open Go.RowKit
set_option linter.unusedVariables false
theorem IsTrie.none_on {W : World} {lo : Nat} {m : Nat → Int → Option Nat} {v : Nat → Int → Int} (h : IsTrie W lo m v) {x : Int} {K : Nat} (hK : m K (x / sizeF (K : Int)) = none) : ∀ k : Nat, K ≤ k → k ≤ 8 → m k (x / sizeF (k : Int)) = none := by
  intro k
  induction k with
  | zero => intro h1 _; obtain rfl : K = 0 := by omega
            exact hK
  | succ k ih =>
    intro h1 h2
    by_cases e : K = k + 1
    · rw [← e]; exact hK
    · have := h.shut k _ (bitI x k) (bitI_01 x k) (ih (by omega) (by omega))
      rw [show ((k + 1 : Nat) : Int) = (k : Int) + 1 by omega, bit_step x k (by omega)]
      exact this
theorem fV_succ (v : Nat → Int → Int) (x : Int) (k : Nat) : fV v x (k + 1) = if v k (x / sizeF k) ≠ 0 then v k (x / sizeF k) else fV v x k := rfl
set_option maxRecDepth 100000 in
set_option maxHeartbeats 4000000 in
theorem find_any (root lo : Nat) (m : Nat → Int → Option Nat) (v : Nat → Int → Int) (x : Int) (hx0 : 0 ≤ x) (hx1 : x ≤ 255) (w : World) (hT : IsTrie w lo m v) (hr : m 0 0 = some root) :
    Calls Tryz.prog 137 #[.pointer (some ⟨root, 0, none⟩), .int .i64 x] w fun e w' => e = .returned (.int .i64 (fV v x 9)) ∧ Drew w w' := by
  obtain ⟨R, hR⟩ : ∃ R, fV v x 9 = R := ⟨_, rfl⟩
  rw [hR]
  have HR := Lib.hid hR
  have HT := Lib.hid hT
  have h0 : Hid (Value.pointer (some ⟨root, 0, none⟩) = ptrV (m 0 (x / sizeF ((0 : Nat) : Int)))) := Lib.hid (by rw [size_zero x hx0 hx1, hr]; rfl)
  clear hR hT hr
  go_enter Tryz.func137, Tryz.ntmps137
  go_wp2_with fail
  go_loopg [0, 5, 6] 8 (fun g s0 s5 s6 wr => ∃ (k q : Nat) (y : Int), s6 = .int .i64 (k : Int) ∧ k + g = 8 ∧ Hid (s0 = ptrV (m k (x / sizeF (k : Int)))) ∧ s5 = .int .i64 y ∧ Hid (y = fV v x k) ∧ wr = w.drewN q)
  case atStart => exact ⟨0, 0, 0, rfl, rfl, h0, rfl, Lib.hid rfl, rfl⟩
  case round =>
    obtain ⟨k, q, y, rfl, hk, hs0, rfl, hy, rfl⟩ := hrel
    cases hm : m k (x / sizeF (k : Int)) with
    | none =>
      have e := hs0.out
      rw [hm] at e
      subst e
      have hfin : y = R := by
        rw [hy.out, ← HR.out]
        exact (fV_cut 9 (by omega) (fun k' h1 h2 => HT.out.zero _ _ (HT.out.none_on hm k' h1 (by omega)))).symm
      subst hfin
      unfold ptrV
      go_wp2_with fail
      go_ret
      exact ⟨rfl, q, rfl⟩
    | some b =>
      have e := hs0.out
      rw [hm] at e
      subst e
      obtain ⟨hlo, hnode⟩ := HT.out.node _ _ _ hm
      obtain ⟨V, hV⟩ : ∃ V, v k (x / sizeF (k : Int)) = V := ⟨_, rfl⟩
      have hsucc := fV_succ v x k
      rw [hV, ← hy.out] at hsucc
      rw [hV] at hnode
      obtain ⟨hbl, n0, n1, n2, _, _, _⟩ := node_cells hnode
      have hst : k < 8 → (bitI x k = 0 → m (k + 1) (2 * (x / sizeF (k : Int))) = m (k + 1) (x / sizeF ((k + 1 : Nat) : Int))) ∧ (bitI x k = 1 → m (k + 1) (2 * (x / sizeF (k : Int)) + 1) = m (k + 1) (x / sizeF ((k + 1 : Nat) : Int))) := fun hk8 => by
        have hb := bit_step x k hk8
        rw [show ((k + 1 : Nat) : Int) = (k : Int) + 1 by omega, hb]
        exact ⟨fun h => by rw [h, Int.add_zero], fun h => by rw [h]⟩
      have h01 := bitI_01 x k
      have HST := Lib.hid hst
      have HK := Lib.hid hk
      obtain ⟨y', hy'⟩ : ∃ y', fV v x (k + 1) = y' := ⟨_, rfl⟩
      rw [hy'] at hsucc
      have HY' := Lib.hid hy'
      have hend : k = 8 → y' = R := fun h8 => by rw [← HY'.out, ← HR.out, h8]
      have HEND := Lib.hid hend
      obtain ⟨z1, hz1⟩ : ∃ z, ptrV (m (k + 1) (2 * (x / sizeF (k : Int)))) = z := ⟨_, rfl⟩
      obtain ⟨z2, hz2⟩ : ∃ z, ptrV (m (k + 1) (2 * (x / sizeF (k : Int)) + 1)) = z := ⟨_, rfl⟩
      rw [hz1] at n1
      rw [hz2] at n2
      have hz1' : ∃ o, z1 = .pointer o := ⟨_, hz1.symm⟩
      have hz2' : ∃ o, z2 = .pointer o := ⟨_, hz2.symm⟩
      obtain ⟨o1, ho1⟩ := hz1'
      obtain ⟨o2, ho2⟩ := hz2'
      have HZ1 := Lib.hid hz1
      have HZ2 := Lib.hid hz2
      clear hst hk hy' hend hm hnode hz1 hz2 hV hs0
      subst ho1
      subst ho2
      have hk8 : k ≤ 8 := by have := HK.out; omega
      unfold ptrV
      rw [Option.map_some]
      by_cases hV0 : V = 0
      · subst hV0
        rw [if_neg (by simp)] at hsucc
        subst hsucc
        by_cases h8 : k = 8
        · subst h8
          have e := HEND.out rfl
          subst e
          go_wp2_with fail
          go_ret
          exact ⟨rfl, q, rfl⟩
        · have hk7 : k < 8 := by omega
          have h8b : ((k : Int) == 8) = false := by simp; omega
          have k0 : (0 : Int) ≤ (k : Int) := by omega
          have hbit : ∀ W, Calls Tryz.prog 167 #[.int .i64 x, .int .i64 (k : Int)] W fun e w' => e = .returned (.int .i64 (bitI x k)) ∧ Drew W w' := fun W => (bitOf_any x k hx0 hx1 hk7 W).mono fun e w' ⟨h1, h2⟩ => ⟨h1, by rw [h2]; exact Drew.refl _⟩
          obtain ⟨B, hB⟩ : ∃ B, bitI x k = B := ⟨_, rfl⟩
          rw [hB] at hbit h01
          have HB := Lib.hid hB
          have HBIT := Lib.hid hbit
          clear hbit hB h8
          rcases h01 with rfl | rfl
          · go_wp2_with fail
            go_quiet ((go_at_call 167; (first | refine quietA (HBIT.out _) | refine quietB (HBIT.out _))))
            go_wp2_with fail
            go_roundg (gk - 1)
            case measure => have := HK.out; omega
            case rel => exact ⟨k + 1, _, _, by go_num, by have := HK.out; omega, Lib.hid (by rw [← HZ1.out, (HST.out hk7).1 HB.out]), rfl, Lib.hid HY'.out.symm, rfl⟩
          · go_wp2_with fail
            go_quiet ((go_at_call 167; (first | refine quietA (HBIT.out _) | refine quietB (HBIT.out _))))
            go_wp2_with fail
            go_roundg (gk - 1)
            case measure => have := HK.out; omega
            case rel => exact ⟨k + 1, _, _, by go_num, by have := HK.out; omega, Lib.hid (by rw [← HZ2.out, (HST.out hk7).2 HB.out]), rfl, Lib.hid HY'.out.symm, rfl⟩
      · rw [if_pos hV0] at hsucc
        subst hsucc
        have hVb : (y' != 0) = true := by simp [hV0]
        clear hV0
        by_cases h8 : k = 8
        · subst h8
          have e := HEND.out rfl
          subst e
          go_wp2_with fail
          go_ret
          exact ⟨rfl, q, rfl⟩
        · have hk7 : k < 8 := by omega
          have h8b : ((k : Int) == 8) = false := by simp; omega
          have k0 : (0 : Int) ≤ (k : Int) := by omega
          have hbit : ∀ W, Calls Tryz.prog 167 #[.int .i64 x, .int .i64 (k : Int)] W fun e w' => e = .returned (.int .i64 (bitI x k)) ∧ Drew W w' := fun W => (bitOf_any x k hx0 hx1 hk7 W).mono fun e w' ⟨h1, h2⟩ => ⟨h1, by rw [h2]; exact Drew.refl _⟩
          obtain ⟨B, hB⟩ : ∃ B, bitI x k = B := ⟨_, rfl⟩
          rw [hB] at hbit h01
          have HB := Lib.hid hB
          have HBIT := Lib.hid hbit
          clear hbit hB h8
          rcases h01 with rfl | rfl
          · go_wp2_with fail
            go_quiet ((go_at_call 167; (first | refine quietA (HBIT.out _) | refine quietB (HBIT.out _))))
            go_wp2_with fail
            go_roundg (gk - 1)
            case measure => have := HK.out; omega
            case rel => exact ⟨k + 1, _, _, by go_num, by have := HK.out; omega, Lib.hid (by rw [← HZ1.out, (HST.out hk7).1 HB.out]), rfl, Lib.hid HY'.out.symm, rfl⟩
          · go_wp2_with fail
            go_quiet ((go_at_call 167; (first | refine quietA (HBIT.out _) | refine quietB (HBIT.out _))))
            go_wp2_with fail
            go_roundg (gk - 1)
            case measure => have := HK.out; omega
            case rel => exact ⟨k + 1, _, _, by go_num, by have := HK.out; omega, Lib.hid (by rw [← HZ2.out, (HST.out hk7).2 HB.out]), rfl, Lib.hid HY'.out.symm, rfl⟩
end Go.Proofs.YtnecdeaikmhanaaGreatDoor
namespace Go.Proofs.YtnecdeaikmhanaaGreatDoor
open Go.RowKit
set_option linter.unusedVariables false
def updM (m : Nat → Int → Option Nat) (K : Nat) (P : Int) (nb : Nat) : Nat → Int → Option Nat := fun k p => if k = K ∧ p = P then some nb else m k p
def updV (v : Nat → Int → Int) (e : Ent) : Nat → Int → Int := fun k p => if e.2.1 = (k : Int) ∧ e.1 / sizeF e.2.1 = p then e.2.2 else v k p
theorem vF_upd (l : List Ent) (e : Ent) : vF (l ++ [e]) = updV (vF l) e := by
  funext k p; rw [vF_snoc]; rfl
theorem set3 {W : World} {b i : Nat} {x y z u : Value} {T : TypeId} (h : W.heap[b]? = some (.cells #[x, y, z] T (0, 0))) : (W.setCell ⟨b, i, none⟩ u).heap[b]? = some (.cells (#[x, y, z].setIfInBounds i u) T (0, 0)) := by
  obtain ⟨hlt, hk⟩ := Array.getElem?_eq_some_iff.1 h
  show (W.heap.modify b _)[b]? = _
  rw [Array.getElem?_eq_getElem (by rw [Array.size_modify]; exact hlt), Array.getElem_modify_self, hk]
  rfl
theorem IsTrie.grow {W : World} {lo : Nat} {m : Nat → Int → Option Nat} {v : Nat → Int → Int} (h : IsTrie W lo m v) {k b : Nat} {p c : Int} (hb : m k p = some b) (hc : c = 0 ∨ c = 1) (hn : m (k + 1) (2 * p + c) = none) (hlo : lo ≤ W.heap.size) :
    IsTrie ((W.alloc (.cells #[.int .i64 0, .pointer none, .pointer none] 193)).setCell ⟨b, 1 + c.toNat, none⟩ (.pointer (some ⟨W.heap.size, 0, none⟩))) lo (updM m (k + 1) (2 * p + c) W.heap.size) v := by
  obtain ⟨hblo, hnode⟩ := h.node k p b hb
  have hbl := (Array.getElem?_eq_some_iff.1 hnode).1
  have hnew : ∀ q, (q = 0 ∨ q = 1) → m (k + 1 + 1) (2 * (2 * p + c) + q) = none := fun q hq => h.shut (k + 1) (2 * p + c) q hq hn
  refine ⟨fun k' p' b' hm => ?_, fun k1 p1 k2 p2 b' h1 h2 => ?_, fun k' p' hm => ?_, fun k' p' c' hc' hm => ?_⟩
  · unfold updM at hm
    by_cases hk : k' = k + 1 ∧ p' = 2 * p + c
    · rw [if_pos hk] at hm
      simp only [Option.some.injEq] at hm
      subst hm
      obtain ⟨rfl, rfl⟩ := hk
      refine ⟨hlo, ?_⟩
      rw [Below.heap_setCell _ _ _ _ (by simp; omega)]
      rw [show (W.alloc (.cells #[.int .i64 0, .pointer none, .pointer none] 193)).heap[W.heap.size]? = some (.cells #[.int .i64 0, .pointer none, .pointer none] 193 (0, 0)) from heap_alloc_new W _]
      have e1 : updM m (k + 1) (2 * p + c) W.heap.size (k + 1 + 1) (2 * (2 * p + c)) = none := by
        unfold updM; rw [if_neg (by omega)]; have := hnew 0 (.inl rfl); simpa using this
      have e2 : updM m (k + 1) (2 * p + c) W.heap.size (k + 1 + 1) (2 * (2 * p + c) + 1) = none := by
        unfold updM; rw [if_neg (by omega)]; exact hnew 1 (.inr rfl)
      rw [e1, e2, h.zero _ _ hn]; rfl
    · rw [if_neg hk] at hm
      obtain ⟨hlo', hnode'⟩ := h.node k' p' b' hm
      have hb'l := (Array.getElem?_eq_some_iff.1 hnode').1
      refine ⟨hlo', ?_⟩
      by_cases hbb : b' = b
      · subst hbb
        obtain ⟨rfl, rfl⟩ := h.inj _ _ _ _ _ hm hb
        rw [set3 ((Below.heap_alloc W _ b' hb'l).trans hnode')]
        rcases hc with rfl | rfl
        · have e1 : updM m (k' + 1) (2 * p' + 0) W.heap.size (k' + 1) (2 * p') = some W.heap.size := by unfold updM; rw [if_pos (by omega)]
          have e2 : updM m (k' + 1) (2 * p' + 0) W.heap.size (k' + 1) (2 * p' + 1) = m (k' + 1) (2 * p' + 1) := by unfold updM; rw [if_neg (by omega)]
          rw [e1, e2]; rfl
        · have e1 : updM m (k' + 1) (2 * p' + 1) W.heap.size (k' + 1) (2 * p' + 1) = some W.heap.size := by unfold updM; rw [if_pos (by omega)]
          have e2 : updM m (k' + 1) (2 * p' + 1) W.heap.size (k' + 1) (2 * p') = m (k' + 1) (2 * p') := by unfold updM; rw [if_neg (by omega)]
          rw [e1, e2]; rfl
      · rw [Below.heap_setCell _ _ _ _ (by simpa using hbb), Below.heap_alloc W _ b' hb'l, hnode']
        have hne : ∀ q, (q = 0 ∨ q = 1) → updM m (k + 1) (2 * p + c) W.heap.size (k' + 1) (2 * p' + q) = m (k' + 1) (2 * p' + q) := fun q hq => by
          unfold updM
          rw [if_neg]
          rintro ⟨e1, e2⟩
          obtain rfl : k' = k := by omega
          have : p' = p := by omega
          subst this
          rw [hm] at hb
          simp only [Option.some.injEq] at hb
          exact hbb hb
        have e1 := hne 0 (.inl rfl)
        have e2 := hne 1 (.inr rfl)
        rw [Int.add_zero] at e1
        rw [e1, e2]
  · unfold updM at h1 h2
    by_cases hk1 : k1 = k + 1 ∧ p1 = 2 * p + c
    · by_cases hk2 : k2 = k + 1 ∧ p2 = 2 * p + c
      · exact ⟨hk1.1.trans hk2.1.symm, hk1.2.trans hk2.2.symm⟩
      · rw [if_pos hk1] at h1
        rw [if_neg hk2] at h2
        simp only [Option.some.injEq] at h1
        have := (Array.getElem?_eq_some_iff.1 (h.node _ _ _ h2).2).1
        omega
    · by_cases hk2 : k2 = k + 1 ∧ p2 = 2 * p + c
      · rw [if_neg hk1] at h1
        rw [if_pos hk2] at h2
        simp only [Option.some.injEq] at h2
        have := (Array.getElem?_eq_some_iff.1 (h.node _ _ _ h1).2).1
        omega
      · rw [if_neg hk1] at h1
        rw [if_neg hk2] at h2
        exact h.inj _ _ _ _ _ h1 h2
  · unfold updM at hm
    by_cases hk : k' = k + 1 ∧ p' = 2 * p + c
    · rw [if_pos hk] at hm; cases hm
    · rw [if_neg hk] at hm; exact h.zero _ _ hm
  · unfold updM at hm ⊢
    by_cases hk : k' = k + 1 ∧ p' = 2 * p + c
    · rw [if_pos hk] at hm; cases hm
    · rw [if_neg hk] at hm
      rw [if_neg]
      · exact h.shut _ _ _ hc' hm
      · rintro ⟨e1, e2⟩
        obtain rfl : k' = k := by omega
        have : p' = p := by omega
        subst this
        rw [hm] at hb; cases hb
theorem IsTrie.setVia {W : World} {lo : Nat} {m : Nat → Int → Option Nat} {v : Nat → Int → Int} (h : IsTrie W lo m v) {b : Nat} {e : Ent} {K : Nat} (hK : e.2.1 = (K : Int)) (hb : m K (e.1 / sizeF e.2.1) = some b) :
    IsTrie (W.setCell ⟨b, 0, none⟩ (.int .i64 e.2.2)) lo m (updV v e) := by
  refine ⟨fun k' p' b' hm => ?_, h.inj, fun k' p' hm => ?_, h.shut⟩
  · obtain ⟨hlo', hnode'⟩ := h.node k' p' b' hm
    refine ⟨hlo', ?_⟩
    by_cases hbb : b' = b
    · subst hbb
      obtain ⟨rfl, rfl⟩ := h.inj _ _ _ _ _ hm hb
      rw [set3 hnode']
      have e1 : updV v e k' (e.1 / sizeF e.2.1) = e.2.2 := by unfold updV; rw [if_pos ⟨hK, rfl⟩]
      rw [e1]; rfl
    · rw [Below.heap_setCell _ _ _ _ (by simpa using hbb), hnode']
      have e1 : updV v e k' p' = v k' p' := by
        unfold updV
        rw [if_neg]
        rintro ⟨e1, e2⟩
        obtain rfl : k' = K := by omega
        rw [← e2, hb] at hm
        simp only [Option.some.injEq] at hm
        exact hbb hm.symm
      rw [e1]
  · unfold updV
    rw [if_neg]
    · exact h.zero _ _ hm
    · rintro ⟨e1, e2⟩
      obtain rfl : k' = K := by omega
      rw [← e2, hb] at hm; cases hm
end Go.Proofs.YtnecdeaikmhanaaGreatDoor
namespace Go.Proofs.YtnecdeaikmhanaaGreatDoor
open Go.RowKit
set_option linter.unusedVariables false
theorem IsTrie.noteq {W : World} {lo : Nat} {m : Nat → Int → Option Nat} {v : Nat → Int → Int} (h : IsTrie W lo m v) {g : Nat} {c : Array Value} (hg : W.heap[g]? = some (.cells c 103 (0, 0))) : ∀ k p, m k p ≠ some g := by
  intro k p hm
  have := (h.node k p g hm).2
  rw [hg] at this
  simp at this
structure PutAt (lo root g : Nat) (v : Nat → Int → Int) (e : Ent) (m : Nat → Int → Option Nat) (w W : World) (k b : Nat) : Prop where
  trie : IsTrie W lo m v
  root : m 0 0 = some root
  at' : m k (e.1 / sizeF (k : Int)) = some b
  box : W.heap[g]? = some (.cells #[.int .i64 e.1, .int .i64 e.2.1, .int .i64 e.2.2] 103 (0, 0))
  below : Below lo w W
  size : lo ≤ W.heap.size
theorem PutAt.drewN {lo root g : Nat} {v : Nat → Int → Int} {e : Ent} {m : Nat → Int → Option Nat} {w W : World} {k b : Nat} (h : PutAt lo root g v e m w W k b) (n : Nat) : PutAt lo root g v e m w (W.drewN n) k b :=
  ⟨⟨h.trie.node, h.trie.inj, h.trie.zero, h.trie.shut⟩, h.root, h.at', h.box, belowDrewN h.below n, h.size⟩
theorem PutAt.step {lo root g : Nat} {v : Nat → Int → Int} {e : Ent} {m : Nat → Int → Option Nat} {w W : World} {k b nb : Nat} (h : PutAt lo root g v e m w W k b) (hn : m (k + 1) (e.1 / sizeF ((k + 1 : Nat) : Int)) = some nb) : PutAt lo root g v e m w W (k + 1) nb :=
  ⟨h.trie, h.root, hn, h.box, h.below, h.size⟩
theorem PutAt.grow {lo root g : Nat} {v : Nat → Int → Int} {e : Ent} {m : Nat → Int → Option Nat} {w W : World} {k b : Nat} (h : PutAt lo root g v e m w W k b) (hk : k < 8) {c : Int} (hc : bitI e.1 k = c) (hn : m (k + 1) (2 * (e.1 / sizeF (k : Int)) + c) = none) :
    PutAt lo root g v e (updM m (k + 1) (2 * (e.1 / sizeF (k : Int)) + c) W.heap.size) w ((W.alloc (.cells #[.int .i64 0, .pointer none, .pointer none] 193)).setCell ⟨b, 1 + c.toNat, none⟩ (.pointer (some ⟨W.heap.size, 0, none⟩))) (k + 1) W.heap.size := by
  have hc01 : c = 0 ∨ c = 1 := by rw [← hc]; exact bitI_01 _ _
  have hblo := (h.trie.node _ _ _ h.at').1
  have hgb : g ≠ b := fun e => h.trie.noteq h.box _ _ (e ▸ h.at')
  have hgl := (Array.getElem?_eq_some_iff.1 h.box).1
  refine ⟨h.trie.grow h.at' hc01 hn h.size, ?_, ?_, ?_, ?_, ?_⟩
  · unfold updM; rw [if_neg (by omega)]; exact h.root
  · unfold updM
    rw [show ((k + 1 : Nat) : Int) = (k : Int) + 1 by omega, bit_step e.1 k hk, hc, if_pos ⟨rfl, rfl⟩]
  · rw [Below.heap_setCell _ _ _ _ (by simpa using hgb), Below.heap_alloc W _ g hgl, h.box]
  · refine Below.setCell (Below.alloc h.below (by have := h.size; omega) _) ?_ _
    simpa using hblo
  · have := h.size; simp [World.setCell]; omega
theorem new_at {W : World} {b i : Nat} {x : Value} {o : Obj} (h : W.cell? ⟨b, i, none⟩ = some x) (hf : W.frozen? ⟨b, i, none⟩ = false) :
    (W.alloc o).cell? ⟨b, i, none⟩ = some x ∧ (W.alloc o).frozen? ⟨b, i, none⟩ = false ∧ ∀ u, ((W.alloc o).setCell ⟨b, i, none⟩ u).cell? ⟨b, i, none⟩ = some u := by
  have hb : b < W.heap.size := by
    by_cases hlt : b < W.heap.size
    · exact hlt
    · unfold World.cell? at h; rw [Array.getElem?_eq_none (by simp; omega)] at h; simp at h
  have h1 : (W.alloc o).cell? ⟨b, i, none⟩ = some x := (World.cell?_alloc_past _ _ _ hb).trans h
  exact ⟨h1, (World.frozen?_alloc_past _ _ _ hb).trans hf, fun u => World.cell?_setCell_same _ _ _ h1⟩
set_option maxRecDepth 100000 in
set_option maxHeartbeats 4000000 in
theorem put_any (root lo : Nat) (m : Nat → Int → Option Nat) (v : Nat → Int → Int) (e : Ent) (K : Nat) (hK : e.2.1 = (K : Int)) (hK8 : K ≤ 8) (hx0 : 0 ≤ e.1) (hx1 : e.1 ≤ 255) (w : World) (hT : IsTrie w lo m v) (hr : m 0 0 = some root) (hlo : lo ≤ w.heap.size) :
    Calls Tryz.prog 166 #[.pointer (some ⟨root, 0, none⟩), entV e] w fun r w' => r = .returned (.tuple #[]) ∧ (∃ m', IsTrie w' lo m' (updV v e) ∧ m' 0 0 = some root) ∧ Below lo w w' ∧ w.heap.size ≤ w'.heap.size := by
  obtain ⟨x, bt, vi⟩ := e
  unfold entV
  dsimp only at hK hx0 hx1 ⊢
  subst hK
  have hP : PutAt lo root w.heap.size v (x, (K : Int), vi) m w (w.alloc (.cells #[.int .i64 x, .int .i64 (K : Int), .int .i64 vi] 103)) 0 root :=
    ⟨hT.below (Below.alloc (Below.refl _ _) (Nat.le_refl _) _), hr, by rw [size_zero x hx0 hx1]; exact hr, heap_alloc_new w _, Below.alloc (Below.refl _ _) hlo _, by simp; omega⟩
  obtain ⟨g, hg⟩ : ∃ g, w.heap.size = g := ⟨_, rfl⟩
  rw [hg] at hP
  have HP := Lib.hid hP
  have HG := Lib.hid hg
  clear hP hT hr
  go_enter Tryz.func166, Tryz.ntmps166
  go_wp2_with fail
  go_loopg [0, 9] K (fun gk s0 s9 wr => ∃ (k b : Nat) (m : Nat → Int → Option Nat), s9 = .int .i64 (k : Int) ∧ k + gk = K ∧ s0 = .pointer (some ⟨b, 0, none⟩) ∧ Hid (PutAt lo root g v (x, (K : Int), vi) m w wr k b) ∧ w.heap.size ≤ wr.heap.size)
  case atStart => exact ⟨0, root, m, rfl, by omega, rfl, HP, by simp⟩
  case round =>
    obtain ⟨k, b, m, rfl, hk, rfl, hP, hsz⟩ := hrel
    obtain ⟨hgl, g0, g1, g2, _, _, _⟩ := node_cells hP.out.box
    by_cases hkK : k = K
    · subst hkK
      have hdn : decide ((k : Int) < (k : Int)) = false := by simp
      obtain ⟨hblo, hnode⟩ := hP.out.trie.node _ _ _ hP.out.at'
      obtain ⟨hbl, n0, n1, n2, nf0, nf1, nf2⟩ := node_cells hnode
      clear n1 n2 hnode
      go_wp2_with fail
      refine ⟨rfl, _, results_none rfl _ _ _, ?_⟩
      refine ⟨rfl, ⟨m, ?_, hP.out.root⟩, Below.setCell hP.out.below ?_ _, ?_⟩
      · exact hP.out.trie.setVia (e := (x, (k : Int), vi)) rfl hP.out.at'
      · exact (hP.out.trie.node _ _ _ hP.out.at').1
      · simp [World.setCell]; omega
    · have hkl : (k : Int) < (K : Int) := by omega
      have hk7 : k < 8 := by omega
      obtain ⟨hblo, hnode⟩ := hP.out.trie.node _ _ _ hP.out.at'
      have hb0 := hP.out.below
      have h01 := bitI_01 x k
      have hst := bit_step x k hk7
      have hbit : ∀ W, Calls Tryz.prog 167 #[.int .i64 x, .int .i64 (k : Int)] W fun e w' => e = .returned (.int .i64 (bitI x k)) ∧ Drew W w' := fun W => (bitOf_any x k hx0 hx1 hk7 W).mono fun e w' ⟨h1, h2⟩ => ⟨h1, by rw [h2]; exact Drew.refl _⟩
      obtain ⟨B, hB⟩ : ∃ B, bitI x k = B := ⟨_, rfl⟩
      rw [hB] at hbit h01 hst
      have HB := Lib.hid hB
      have HBIT := Lib.hid hbit
      have HST := Lib.hid hst
      clear hbit hB hst hkK
      dsimp only at hnode
      obtain ⟨hbl, n0, n1, n2, nf0, nf1, nf2⟩ := node_cells hnode
      rcases h01 with rfl | rfl
      · cases hm : m (k + 1) (2 * (x / sizeF (k : Int))) with
        | none =>
          have hnn : m (k + 1) (2 * (x / sizeF (k : Int)) + 0) = none := by rw [Int.add_zero]; exact hm
          rw [hm] at n1
          have n1' : wr.cell? ⟨b, 1, none⟩ = some (.pointer none) := n1
          have HM := Lib.hid hnn
          clear n1 hm hnn hnode hb0
          go_wp2_with fail
          go_quiet ((go_at_call 167; (first | refine quietA (HBIT.out _) | refine quietB (HBIT.out _))))
          obtain ⟨q1, q2, q3⟩ := new_at (W := wr.drewN nq) (o := .cells #[.int .i64 0, .pointer none, .pointer none] 193) n1' nf1
          go_wp2_with fail
          go_roundg (gk - 1)
          case measure => omega
          case rel =>
            refine ⟨k + 1, wr.heap.size, _, by go_num, by omega, rfl, Lib.hid ((hP.out.drewN nq).grow hk7 HB.out HM.out), ?_⟩
            simp [World.setCell]; omega
        | some nb =>
          rw [hm] at n1
          have n1' : wr.cell? ⟨b, 1, none⟩ = some (.pointer (some ⟨nb, 0, none⟩)) := n1
          have HM := Lib.hid hm
          clear n1 hm hnode hb0
          go_wp2_with fail
          go_quiet ((go_at_call 167; (first | refine quietA (HBIT.out _) | refine quietB (HBIT.out _))))
          go_wp2_with fail
          go_roundg (gk - 1)
          case measure => omega
          case rel => 
            refine ⟨k + 1, nb, m, by go_num, by omega, rfl, Lib.hid ((hP.out.step ?_).drewN _), by simpa using hsz⟩
            show m (k + 1) (x / sizeF ((k + 1 : Nat) : Int)) = some nb
            rw [show ((k + 1 : Nat) : Int) = (k : Int) + 1 by omega, HST.out, Int.add_zero]; exact HM.out
      · cases hm : m (k + 1) (2 * (x / sizeF (k : Int)) + 1) with
        | none =>
          rw [hm] at n2
          have n2' : wr.cell? ⟨b, 2, none⟩ = some (.pointer none) := n2
          have HM := Lib.hid hm
          clear n2 hm hnode hb0
          go_wp2_with fail
          go_quiet ((go_at_call 167; (first | refine quietA (HBIT.out _) | refine quietB (HBIT.out _))))
          obtain ⟨q1, q2, q3⟩ := new_at (W := wr.drewN nq) (o := .cells #[.int .i64 0, .pointer none, .pointer none] 193) n2' nf2
          go_wp2_with fail
          go_roundg (gk - 1)
          case measure => omega
          case rel =>
            refine ⟨k + 1, wr.heap.size, _, by go_num, by omega, rfl, Lib.hid ((hP.out.drewN nq).grow hk7 HB.out HM.out), ?_⟩
            simp [World.setCell]; omega
        | some nb =>
          rw [hm] at n2
          have n2' : wr.cell? ⟨b, 2, none⟩ = some (.pointer (some ⟨nb, 0, none⟩)) := n2
          have HM := Lib.hid hm
          clear n2 hm hnode hb0
          go_wp2_with fail
          go_quiet ((go_at_call 167; (first | refine quietA (HBIT.out _) | refine quietB (HBIT.out _))))
          go_wp2_with fail
          go_roundg (gk - 1)
          case measure => omega
          case rel => 
            refine ⟨k + 1, nb, m, by go_num, by omega, rfl, Lib.hid ((hP.out.step ?_).drewN _), by simpa using hsz⟩
            show m (k + 1) (x / sizeF ((k + 1 : Nat) : Int)) = some nb
            rw [show ((k + 1 : Nat) : Int) = (k : Int) + 1 by omega, HST.out]; exact HM.out
end Go.Proofs.YtnecdeaikmhanaaGreatDoor
namespace Go.Proofs.YtnecdeaikmhanaaGreatDoor
open Go.RowKit
set_option linter.unusedVariables false
def m0 (r : Nat) : Nat → Int → Option Nat := fun k p => if k = 0 ∧ p = 0 then some r else none
theorem IsTrie.new (w : World) : IsTrie (w.alloc (.cells #[.int .i64 0, .pointer none, .pointer none] 193)) w.heap.size (m0 w.heap.size) (vF []) := by
  refine ⟨fun k p b hm => ?_, fun k p k' p' b h1 h2 => ?_, fun k p _ => rfl, fun k p c hc hm => ?_⟩
  · unfold m0 at hm
    by_cases h : k = 0 ∧ p = 0
    · rw [if_pos h] at hm
      simp only [Option.some.injEq] at hm
      subst hm
      refine ⟨Nat.le_refl _, ?_⟩
      have e : ∀ q, m0 w.heap.size (k + 1) q = none := fun q => by unfold m0; rw [if_neg (by omega)]
      rw [heap_alloc_new, e, e]; rfl
    · rw [if_neg h] at hm; cases hm
  · unfold m0 at h1 h2
    by_cases h : k = 0 ∧ p = 0
    · by_cases h' : k' = 0 ∧ p' = 0
      · exact ⟨h.1.trans h'.1.symm, h.2.trans h'.2.symm⟩
      · rw [if_neg h'] at h2; cases h2
    · rw [if_neg h] at h1; cases h1
  · unfold m0; rw [if_neg (by omega)]
theorem take_snoc {l : List Ent} {k : Nat} (hk : k < l.length) : l.take (k + 1) = l.take k ++ [l.getD k (0, 0, 0)] := by
  rw [List.take_add_one, List.getD_eq_getElem?_getD, List.getElem?_eq_getElem hk]; rfl
set_option maxRecDepth 100000 in
set_option maxHeartbeats 4000000 in
theorem trieOf_any (t : Value) (l : List Ent) (hl : l.length ≤ 12) (hok : ∀ i, i < l.length → entOkF (l.getD i (0, 0, 0)) = true) (w : World) (hE : EntsAt w t l) :
    Calls Tryz.prog 136 #[t] w fun e w' => ∃ (root : Nat) (m : Nat → Int → Option Nat), e = .returned (.pointer (some ⟨root, 0, none⟩)) ∧ IsTrie w' w.heap.size m (vF l) ∧ m 0 0 = some root ∧ root < w'.heap.size ∧ Below w.heap.size w w' := by
  have hT := IsTrie.new w
  obtain ⟨lo, hlo⟩ : ∃ lo, w.heap.size = lo := ⟨_, rfl⟩
  obtain ⟨a, cap, rfl, hc, hm⟩ := hE.form
  obtain ⟨n, hn⟩ : ∃ n, l.length = n := ⟨_, rfl⟩
  rw [hn] at hE hc hl hok ⊢
  rw [hlo] at hT
  have H := Lib.hid hE
  have HN := Lib.hid hn
  have HLO := Lib.hid hlo
  have HOK := Lib.hid hok
  have HT := Lib.hid hT
  clear hE hn hok hT hlo
  go_enter Tryz.func136, Tryz.ntmps136
  go_wp2_with fail
  go_loopg [10] n (fun gk s10 wr => ∃ (k : Nat) (m : Nat → Int → Option Nat), s10 = .int .i64 (k : Int) ∧ k + gk = n ∧ Hid (IsTrie wr lo m (vF (l.take k))) ∧ Hid (m 0 0 = some w.heap.size) ∧ Hid (Below lo w wr) ∧ w.heap.size < wr.heap.size)
  case atStart => exact ⟨0, m0 lo, rfl, by omega, HT, Lib.hid (by rw [HLO.out]; rfl), Lib.hid (Below.alloc (Below.refl _ _) (by rw [HLO.out]; exact Nat.le_refl _) _), by simp⟩
  case round =>
    obtain ⟨k, m, rfl, hk, hT, hr, hB, hsz⟩ := hrel
    by_cases hg : gk = 0
    · subst hg
      obtain rfl : k = n := by omega
      have hdn : decide ((k : Int) < (k : Int)) = false := by simp
      go_wp2_with fail
      go_ret
      refine ⟨w.heap.size, m, rfl, ?_, hr.out, hsz, by rw [HLO.out]; exact hB.out⟩
      have := hT.out
      rw [← HN.out, List.take_length] at this
      rw [HLO.out]; exact this
    · have hkn : k < n := by omega
      have hkI : (k : Int) < (n : Int) := by omega
      have k0 : (0 : Int) ≤ (k : Int) := by omega
      have hgk : 1 ≤ gk := by omega
      obtain ⟨b, off, rfl, hb, c0, c1, c2⟩ := (H.out.below (by rw [HLO.out]; exact hB.out)).get k hkn
      have hok := HOK.out k hkn
      have hsn : vF (l.take (k + 1)) = updV (vF (l.take k)) (l.getD k (0, 0, 0)) := by rw [take_snoc (by rw [HN.out]; exact hkn), vF_upd]
      obtain ⟨ent, hent⟩ : ∃ e, l.getD k (0, 0, 0) = e := ⟨_, rfl⟩
      rw [hent] at c0 c1 c2 hok hsn
      obtain ⟨b0, b8, f0, f255, _⟩ := entOk_parts hok
      obtain ⟨f, bt, vi⟩ := ent
      simp only at c0 c1 c2 b0 b8 f0 f255
      obtain ⟨K, rfl⟩ : ∃ K : Nat, bt = (K : Int) := ⟨bt.toNat, by omega⟩
      have HS := Lib.hid hsn
      have HK := Lib.hid hk
      clear hsn hent hok hk hg
      go_wp2_with (go_at_call 166; refine (put_any w.heap.size lo m _ (f, (K : Int), vi) K rfl (by omega) f0 f255 _ (hT.out.below bw) hr.out (by rw [← HLO.out]; simp; omega)).mono ?_; rintro e w1 ⟨rfl, ⟨m', hT', hr'⟩, hb1, hs1⟩; have BB := Lib.hid (Below.trans (hB.out.trans (by refine Below.mono (B := wr.heap.size) ?_ (by rw [← HLO.out]; omega); exact bw)) hb1); have HT' := Lib.hid hT'; have HR' := Lib.hid hr'; have hs2 : w.heap.size < w1.heap.size := (by simp at hs1; omega); clear hT' hr' hb1)
      go_roundg (gk - 1)
      case measure => omega
      case rel => exact ⟨k + 1, m', by go_num, by have := HK.out; omega, Lib.hid (by rw [HS.out]; exact HT'.out), HR', BB, hs2⟩
end Go.Proofs.YtnecdeaikmhanaaGreatDoor
namespace Go.Proofs.YtnecdeaikmhanaaGreatDoor
open Go.RowKit
set_option linter.unusedVariables false
theorem heap_lt {w : World} {b : Nat} {o : Obj} (h : w.heap[b]? = some o) : b < w.heap.size := (Array.getElem?_eq_some_iff.1 h).1
theorem owns_belowR {W w1 : World} {B : Nat} {e : TypeId} {size n : Nat} {v : Value} {xs : List Value} (h : W.ownsRow B e size v n xs) (hb : Below W.heap.size W w1) : w1.ownsRow B e size v n xs :=
  h.kept (row := none) ⟨hb.os, hb.tape, hb.output, hb.size, fun k hk _ => hb.block k hk⟩ (by cases h : v.ownBlock <;> simp)
theorem owns_form {w : World} {lo n : Nat} {T : TypeId} {v : Value} {us : List Value} (h : w.ownsRow lo T 1 v n us) : ∃ a cap, v = .slice a n cap ∧ n ≤ cap ∧ cap ≤ 9223372036854775807 := by
  rcases h.2 with ⟨rfl, hn⟩ | ⟨g, cap, cur, rfl, hb, hg, hnc, hcm, hcs, htake⟩
  · exact ⟨none, 0, by rw [hn], by omega, by omega⟩
  · exact ⟨_, cap, rfl, hnc, by unfold maxLen at hcm; exact hcm⟩
variable {P : Program} {w : World}
theorem run_append_owned_noneC (base : Nat) (t ty e : TypeId) (i : TypeInfo) (size : Nat) (ht : P.underlying t = some (.slice e)) (hi : P.info? e = some i)
    (v : Value) (n c : Nat) (xs : List Value) (hown : w.ownsRow base e size v n xs) :
    (Builtin.append_ #[t, t] ty #[v, .slice none 0 c]).run P w = .ok v w := by
  rcases hown.2 with ⟨rfl, rfl⟩ | ⟨g, cap, cur, rfl, _, _, hnc, _⟩
  · simp [Builtin.append_, run_underlying ht, sizeOf, typeInfo, hi, Builtin.lenOf, Builtin.firstCells]
  · simp [Builtin.append_, run_underlying ht, sizeOf, typeInfo, hi, Builtin.lenOf, Builtin.firstCells, hnc, storeCells]
theorem wpList_append_noneC {ops : Array Oper} {rest : List Oper} {o : Oper} {a : Act} {Q : Exit → Act → World → Prop} (hgd : o.guard = none) (s x : Operand) (t : TypeId)
    (ho : o.op = .call { callee := .builtin .append, args := #[s, x], argTypes := #[t, t] })
    (base : Nat) (e : TypeId) (i : TypeInfo) (size : Nat) (ht : P.underlying t = some (.slice e)) (hi : P.info? e = some i)
    (v : Value) (n c : Nat) (xs : List Value) (hs : a.eval s = v) (hown : w.ownsRow base e size v n xs) (hx : a.eval x = .slice none 0 c)
    (h : wpList P ops Q rest (a.put o.dst v) w) : wpList P ops Q (o :: rest) a w := by
  refine wpList_plain hgd fun K hK => ?_
  have hrun := run_append_owned_noneC (P := P) (w := w) base t o.type e i size ht hi v n c xs hown
  unfold Oper.wp
  simp [execOp, ho, resolve, invoke, builtin, hs, hx, hrun, Result.andThen]
  exact hK _ _ h
theorem grownBy_refl (w : World) (row : Option Nat) : w.grownBy w row := ⟨rfl, rfl, rfl, Nat.le_refl _, fun _ _ _ => rfl⟩
theorem wpList_append_src {ops : Array Oper} {rest : List Oper} {o : Oper} {a : Act} {Q : Exit → Act → World → Prop} (hgd : o.guard = none) (s x : Operand) (t : TypeId)
    (ho : o.op = .call { callee := .builtin .append, args := #[s, x], argTypes := #[t, t] })
    (base : Nat) (e : TypeId) (i : TypeInfo) (z : Value) (bytes : Nat) (ht : P.underlying t = some (.slice e)) (hi : P.info? e = some i) (hz : i.zero = some z)
    (hsize : i.size = 1) (hby : i.bytes = bytes) (hzs : z.cells.size = 1)
    (v : Value) (n : Nat) (xs : List Value) (hs : a.eval s = v) (hown : w.ownsRow base e 1 v n xs)
    (sv : Value) (m : Nat) (f : Nat → Value) (hx : a.eval x = sv) (hsl : SliceAt w sv m f) (h1 : ∀ j, j < m → (f j).oneCell' = true)
    (h63 : n + m ≤ maxLen) (hbytes : (n + m) * bytes ≤ 140737488355328) (hbase : base ≤ w.heap.size)
    (h : ∀ v' w', w'.ownsRow base e 1 v' (n + m) (xs ++ (List.range m).map f) → w.grownBy w' v.ownBlock → wpList P ops Q rest (a.put o.dst v') w') : wpList P ops Q (o :: rest) a w := by
  obtain ⟨ad, cap, rfl, hc, hm, hh⟩ := hsl
  cases ad with
  | none =>
    have hm0 : m = 0 := by
      rcases hh with hh | ⟨b, off, e, _⟩
      · exact hh
      · cases e
    subst hm0
    refine wpList_append_noneC hgd s x t ho base e i 1 ht hi v n cap xs hs hown hx (h v w ?_ (grownBy_refl _ _))
    simpa using hown
  | some ad =>
    refine wpList_append_own w hgd s x t ho base e i z 1 bytes ht hi hz hsize hby hzs (by omega) v n xs hs hown ad m cap ((List.range m).map f) hx (by simp) ?_ ?_ h63 hbytes hbase (fun v' w' a1 a2 _ => h v' w' a1 a2)
    · intro j u hj
      rcases hh with hh | ⟨b, off, e, hlt, hcell⟩
      · subst hh; simp at hj
      · simp only [Option.some.injEq] at e
        subst e
        have hjm : j < m := by
          rcases Nat.lt_or_ge j m with h | h
          · exact h
          · rw [List.getElem?_eq_none (by simpa using h)] at hj; cases hj
        rw [List.getElem?_map, List.getElem?_range hjm] at hj
        simp at hj
        subst hj
        rw [show (⟨b, off, none⟩ : Addr).add j = ⟨b, off + j, none⟩ from by simp [Addr.add]]
        exact hcell j hjm
    · intro u hu
      obtain ⟨j, hj, rfl⟩ := List.mem_map.1 hu
      exact h1 j (by simpa using hj)
theorem wp_append_src {o : Oper} {a : Act} {K : Act → World → Prop} {Q : Exit → Act → World → Prop} (s x : Operand) (t : TypeId)
    (ho : o.op = .call { callee := .builtin .append, args := #[s, x], argTypes := #[t, t] })
    (base : Nat) (e : TypeId) (i : TypeInfo) (z : Value) (bytes : Nat) (ht : P.underlying t = some (.slice e)) (hi : P.info? e = some i) (hz : i.zero = some z)
    (hsize : i.size = 1) (hby : i.bytes = bytes) (hzs : z.cells.size = 1)
    (v : Value) (n : Nat) (xs : List Value) (hs : a.eval s = v) (hown : w.ownsRow base e 1 v n xs)
    (sv : Value) (m : Nat) (f : Nat → Value) (hx : a.eval x = sv) (hsl : SliceAt w sv m f) (h1 : ∀ j, j < m → (f j).oneCell' = true)
    (h63 : n + m ≤ maxLen) (hbytes : (n + m) * bytes ≤ 140737488355328) (hbase : base ≤ w.heap.size)
    (h : ∀ v' w', w'.ownsRow base e 1 v' (n + m) (xs ++ (List.range m).map f) → w.grownBy w' v.ownBlock → K (a.put o.dst v') w') : Oper.wp P o a w K Q := by
  obtain ⟨ad, cap, rfl, hc, hm, hh⟩ := hsl
  cases ad with
  | none =>
    have hm0 : m = 0 := by
      rcases hh with hh | ⟨b, off, e, _⟩
      · exact hh
      · cases e
    subst hm0
    have hrun := run_append_owned_noneC (P := P) (w := w) base t o.type e i 1 ht hi v n cap xs hown
    unfold Oper.wp
    simp [execOp, ho, resolve, invoke, builtin, hs, hx, hrun, Result.andThen]
    exact h v w (by simpa using hown) (grownBy_refl _ _)
  | some ad =>
    refine wp_append_own w s x t ho base e i z 1 bytes ht hi hz hsize hby hzs (by omega) v n xs hs hown ad m cap ((List.range m).map f) hx (by simp) ?_ ?_ h63 hbytes hbase (fun v' w' a1 a2 _ => h v' w' a1 a2)
    · intro j u hj
      rcases hh with hh | ⟨b, off, e, hlt, hcell⟩
      · subst hh; simp at hj
      · simp only [Option.some.injEq] at e
        subst e
        have hjm : j < m := by
          rcases Nat.lt_or_ge j m with h | h
          · exact h
          · rw [List.getElem?_eq_none (by simpa using h)] at hj; cases hj
        rw [List.getElem?_map, List.getElem?_range hjm] at hj
        simp at hj
        subst hj
        rw [show (⟨b, off, none⟩ : Addr).add j = ⟨b, off + j, none⟩ from by simp [Addr.add]]
        exact hcell j hjm
    · intro u hu
      obtain ⟨j, hj, rfl⟩ := List.mem_map.1 hu
      exact h1 j (by simpa using hj)
theorem step_append_src {ops : Array Oper} {o : Oper} {a : Act} {K : Act → World → Prop} {Q : Exit → Act → World → Prop} {E : Prop} (hgd : o.guard = none) (s x : Operand) (t : TypeId)
    (ho : o.op = .call { callee := .builtin .append, args := #[s, x], argTypes := #[t, t] })
    (base : Nat) (e : TypeId) (i : TypeInfo) (z : Value) (bytes : Nat) (ht : P.underlying t = some (.slice e)) (hi : P.info? e = some i) (hz : i.zero = some z)
    (hsize : i.size = 1) (hby : i.bytes = bytes) (hzs : z.cells.size = 1)
    (v : Value) (n : Nat) (xs : List Value) (hs : a.eval s = v) (hown : w.ownsRow base e 1 v n xs)
    (sv : Value) (m : Nat) (f : Nat → Value) (hx : a.eval x = sv) (hsl : SliceAt w sv m f) (h1 : ∀ j, j < m → (f j).oneCell' = true)
    (h63 : n + m ≤ maxLen) (hbytes : (n + m) * bytes ≤ 140737488355328) (hbase : base ≤ w.heap.size)
    (h : ∀ v' w', w'.ownsRow base e 1 v' (n + m) (xs ++ (List.range m).map f) → w.grownBy w' v.ownBlock → K (a.put o.dst v') w') : if Region.wanted o (yielded ops a.tmps) = true then Oper.wp P o a w K Q else E := by
  have hw : Region.wanted o (yielded ops a.tmps) = true := by simp [Region.wanted, hgd]
  rw [if_pos hw]
  exact wp_append_src s x t ho base e i z bytes ht hi hz hsize hby hzs v n xs hs hown sv m f hx hsl h1 h63 hbytes hbase h
end Go.Proofs.YtnecdeaikmhanaaGreatDoor
namespace Go.Proofs.YtnecdeaikmhanaaGreatDoor
open Go.RowKit
set_option linter.unusedVariables false
def TabsAt (w : World) (v : Value) (ls : List (List Ent)) : Prop := ∃ f, SliceAt w v ls.length f ∧ ∀ i, i < ls.length → EntsAt w (f i) (ls.getD i [])
theorem TabsAt.below {w w' : World} {v : Value} {ls : List (List Ent)} (h : TabsAt w v ls) (hb : Below w.heap.size w w') : TabsAt w' v ls := by
  obtain ⟨f, h1, h2⟩ := h
  exact ⟨f, h1.below hb, fun i hi => (h2 i hi).below hb⟩
theorem TabsAt.form {w : World} {v : Value} {ls : List (List Ent)} (h : TabsAt w v ls) : ∃ a cap, v = .slice a ls.length cap ∧ ls.length ≤ cap ∧ cap ≤ 9223372036854775807 := by
  obtain ⟨f, h, _⟩ := h; exact h.form
theorem TabsAt.get {w : World} {a : Option Addr} {n cap : Nat} {ls : List (List Ent)} (h : TabsAt w (.slice a n cap) ls) (i : Nat) (hi : i < n) :
    ∃ b off v, a = some ⟨b, off, none⟩ ∧ b < w.heap.size ∧ w.cell? ⟨b, off + i, none⟩ = some v ∧ EntsAt w v (ls.getD i []) := by
  obtain ⟨a', c', e, hc, hm⟩ := h.form
  simp only [Value.slice.injEq] at e
  obtain ⟨_, rfl, rfl⟩ := e
  obtain ⟨f, h1, h2⟩ := h
  obtain ⟨b, off, e, hb, hx⟩ := h1.get i hi
  exact ⟨b, off, f i, e, hb, hx, h2 i hi⟩
def tablesOkF (ls : List (List Ent)) : Bool := decide (1 ≤ ls.length) && decide (ls.length ≤ 5) && (List.range ls.length).all fun i => tableOkF (ls.getD i [])
theorem tablesOk_good {ls : List (List Ent)} (h1 : 1 ≤ ls.length) (h5 : ls.length ≤ 5) (h : ∀ i, i < ls.length → tableOkF (ls.getD i []) = true) : tablesOkF ls = true := by
  unfold tablesOkF
  rw [decide_eq_true h1, decide_eq_true h5, Bool.true_and, Bool.true_and, List.all_eq_true]
  intro i hi; exact h i (by simpa using hi)
theorem tablesOk_bad {ls : List (List Ent)} {i : Nat} (hi : i < ls.length) (h : tableOkF (ls.getD i []) = false) : tablesOkF ls = false := by
  unfold tablesOkF
  rw [Bool.and_eq_false_iff]; right; rw [List.all_eq_false]
  exact ⟨i, by simpa using hi, by rw [h]; simp⟩
theorem tablesOk_len {ls : List (List Ent)} (h : ls.length < 1 ∨ 5 < ls.length) : tablesOkF ls = false := by
  unfold tablesOkF
  rcases h with h | h
  · rw [decide_eq_false (by omega)]; simp
  · rw [decide_eq_false (by omega : ¬ ls.length ≤ 5)]; simp
theorem tablesOk_at {ls : List (List Ent)} (h : tablesOkF ls = true) : 1 ≤ ls.length ∧ ls.length ≤ 5 ∧ ∀ i, i < ls.length → tableOkF (ls.getD i []) = true := by
  unfold tablesOkF at h
  rw [Bool.and_eq_true, Bool.and_eq_true, List.all_eq_true] at h
  exact ⟨by simpa using h.1.1, by simpa using h.1.2, fun i hi => h.2 i (by simpa using hi)⟩
def TrieAt (W : World) (lo root : Nat) (l : List Ent) : Prop := ∃ m, IsTrie W lo m (vF l) ∧ m 0 0 = some root
theorem TrieAt.keep {W W' : World} {lo lo' root : Nat} {l : List Ent} (h : TrieAt W lo root l) (hlo : lo' ≤ lo) (hb : ∀ b c, lo ≤ b → W.heap[b]? = some (.cells c 193 (0, 0)) → W'.heap[b]? = W.heap[b]?) : TrieAt W' lo' root l := by
  obtain ⟨m, hT, hr⟩ := h
  refine ⟨m, ⟨fun k p b hm => ?_, hT.inj, hT.zero, hT.shut⟩, hr⟩
  obtain ⟨h1, h2⟩ := hT.node k p b hm
  exact ⟨Nat.le_trans hlo h1, (hb b _ h1 h2).trans h2⟩
def findV (root : Nat) : Value := .func (.func 137) #[.pointer (some ⟨root, 0, none⟩)] #[]
structure FindAt (W : World) (F : Nat) (fv : Value) (xs : List Value) (ls : List (List Ent)) : Prop where
  cell : W.cell? ⟨F, 0, none⟩ = some fv
  free : W.frozen? ⟨F, 0, none⟩ = false
  own : W.ownsRow (F + 1) 29 1 fv ls.length xs
  tries : ∀ i, i < ls.length → ∃ root, xs.getD i undef = findV root ∧ TrieAt W (F + 1) root (ls.getD i [])
theorem FindAt.lt {W : World} {F : Nat} {fv : Value} {xs : List Value} {ls : List (List Ent)} (h : FindAt W F fv xs ls) : F < W.heap.size := by
  by_cases hlt : F < W.heap.size
  · exact hlt
  · have := h.cell; unfold World.cell? at this; rw [Array.getElem?_eq_none (by simp; omega)] at this; simp at this
theorem FindAt.below {W W' : World} {F : Nat} {fv : Value} {xs : List Value} {ls : List (List Ent)} (h : FindAt W F fv xs ls) (hb : Below W.heap.size W W') : FindAt W' F fv xs ls :=
  ⟨(hb.cell (p := ⟨F, 0, none⟩) h.lt).trans h.cell, (hb.frozen (p := ⟨F, 0, none⟩) h.lt).trans h.free, owns_belowR h.own hb, fun i hi => by
    obtain ⟨root, h1, h2⟩ := h.tries i hi
    exact ⟨root, h1, h2.keep (Nat.le_refl _) (fun b c _ hc => hb.block b (heap_lt hc))⟩⟩
theorem FindAt.push {W W1 : World} {F root : Nat} {fv v' : Value} {xs : List Value} {ls : List (List Ent)} {l : List Ent} (h : FindAt W F fv xs ls) (hT : TrieAt W (F + 1) root l) (hg : W.grownBy W1 fv.ownBlock)
    (hown : W1.ownsRow (F + 1) 29 1 v' (ls.length + 1) (xs ++ [findV root])) : FindAt (W1.setCell ⟨F, 0, none⟩ v') F v' (xs ++ [findV root]) (ls ++ [l]) := by
  have hF := h.lt
  have hFg : fv.ownBlock ≠ some F := fun e => by have := (World.ownsRow.lt h.own F e).1; omega
  have hFb : W1.heap[F]? = W.heap[F]? := hg.block F hF (by intro e; exact hFg e.symm)
  have hkeep : ∀ b c, F + 1 ≤ b → W.heap[b]? = some (.cells c 193 (0, 0)) → (W1.setCell ⟨F, 0, none⟩ v').heap[b]? = W.heap[b]? := fun b c hb hc => by
    rw [Below.heap_setCell _ _ _ _ (by simp; omega)]
    refine hg.block b (heap_lt hc) ?_
    intro e
    rcases h.own.2 with ⟨e1, _⟩ | ⟨g, cap, cur, e1, _, e3, _⟩
    · rw [e1] at e; simp [Value.ownBlock] at e
    · rw [e1] at e; simp [Value.ownBlock] at e
      subst e
      rw [e3] at hc; simp at hc
  have hxl : xs.length = ls.length := by have := h.own.1; omega
  refine ⟨World.cell?_setCell_same _ _ _ ((World.cell?_of_block (w := W) hFb).trans h.cell), ?_, ?_, fun i hi => ?_⟩
  · simp only [World.frozen?_setCell]
    exact (World.frozen?_of_block (w := W) hFb).trans h.free
  · refine ⟨by have := hown.1; simp at this ⊢; omega, ?_⟩
    rw [List.length_append, List.length_singleton]
    rcases hown.2 with h' | ⟨g, cap, cur, e1, e2, e3, e4⟩
    · exact .inl h'
    · exact .inr ⟨g, cap, cur, e1, e2, (Below.heap_setCell _ _ _ _ (by simp; omega)).trans e3, e4⟩
  · rw [List.length_append, List.length_singleton] at hi
    by_cases hil : i < ls.length
    · obtain ⟨root', h1, h2⟩ := h.tries i hil
      refine ⟨root', ?_, ?_⟩
      · rw [← h1]; simp only [List.getD_eq_getElem?_getD]; rw [List.getElem?_append_left (by omega)]
      · have e : (ls ++ [l]).getD i [] = ls.getD i [] := by simp only [List.getD_eq_getElem?_getD]; rw [List.getElem?_append_left hil]
        rw [e]; exact h2.keep (Nat.le_refl _) hkeep
    · obtain rfl : i = ls.length := by omega
      refine ⟨root, ?_, ?_⟩
      · simp only [List.getD_eq_getElem?_getD]; rw [List.getElem?_append_right (by omega), hxl]; simp
      · have e : (ls ++ [l]).getD ls.length [] = l := by simp
        rw [e]; exact hT.keep (Nat.le_refl _) hkeep
end Go.Proofs.YtnecdeaikmhanaaGreatDoor
namespace Go.Proofs.YtnecdeaikmhanaaGreatDoor
open Go.RowKit
set_option linter.unusedVariables false
theorem info_fP : (Tryz.prog.info? 29).map (fun i => (i.zero, i.size, i.bytes)) = some (some .nilFunc, 1, 8) := by kernel_rfl
def fwdV (F : Nat) : Value := .func (.func 138) #[] #[.pointer (some ⟨F, 0, none⟩)]
def FwdPost (ls : List (List Ent)) (w : World) (e : Ending) (w' : World) : Prop :=
  ((tablesOkF ls = true ∧ ∃ F fv xs, e = .returned (.tuple #[fwdV F, .bool true]) ∧ FindAt w' F fv xs ls) ∨ (tablesOkF ls = false ∧ e = .returned (.tuple #[.nilFunc, .bool false]))) ∧ Below w.heap.size w w'
theorem lit_src (W : World) (u : Value) : SliceAt (W.alloc (.cells #[u] 29)) (.slice (some ⟨W.heap.size, 0, none⟩) 1 1) 1 (fun _ => u) :=
  ⟨_, 1, rfl, Nat.le_refl _, by unfold maxLen; omega, .inr ⟨W.heap.size, 0, rfl, by simp, fun i hi => by
    obtain rfl : i = 0 := by omega
    simp⟩⟩
set_option maxRecDepth 100000 in
set_option maxHeartbeats 8000000 in
theorem forwarding_any (v : Value) (ls : List (List Ent)) (w : World) (hv : TabsAt w v ls) :
    Calls Tryz.prog 105 #[v] w (FwdPost ls w) := by
  obtain ⟨i0, hi, hz0, hz1, hz2⟩ := info_parts info_fP
  obtain ⟨a, cap, rfl, hc, hm⟩ := hv.form
  obtain ⟨n, hn⟩ : ∃ n, ls.length = n := ⟨_, rfl⟩
  rw [hn] at hc hv ⊢
  have HN := Lib.hid hn
  have H := Lib.hid hv
  clear hn hv
  unfold FwdPost
  by_cases h1 : n < 1
  · have h1' : (n : Int) < 1 := by omega
    have hb := tablesOk_len (ls := ls) (.inl (by rw [HN.out]; exact h1))
    have HB := Lib.hid hb
    clear hb h1
    go_enter Tryz.func105, Tryz.ntmps105
    go_wp2_with fail
    refine bodyPost_ret (results_tmp2 rfl _ _ _) rfl ?_
    exact ⟨.inr ⟨HB.out, rfl⟩, Below.refl _ _⟩
  · have h1' : ¬ (n : Int) < 1 := by omega
    by_cases h5 : 5 < n
    · have h5' : (5 : Int) < (n : Int) := by omega
      have hb := tablesOk_len (ls := ls) (.inr (by rw [HN.out]; exact h5))
      have HB := Lib.hid hb
      clear hb h1 h5
      go_enter Tryz.func105, Tryz.ntmps105
      go_wp2_with fail
      refine bodyPost_ret (results_tmp2 rfl _ _ _) rfl ?_
      exact ⟨.inr ⟨HB.out, rfl⟩, Below.refl _ _⟩
    · have h5' : ¬ (5 : Int) < (n : Int) := by omega
      have hl1 : 1 ≤ n := by omega
      have hl5 : n ≤ 5 := by omega
      clear h1 h5
      go_enter Tryz.func105, Tryz.ntmps105
      go_wp2_with fail
      go_loopg [17] n (fun gk s17 wr => ∃ (k : Nat) (fv : Value) (xs : List Value), s17 = .int .i64 (k : Int) ∧ k + gk = n ∧ Hid (FindAt wr w.heap.size fv xs (ls.take k)) ∧ Hid (Below w.heap.size w wr) ∧ Hid (∀ j, j < k → tableOkF (ls.getD j []) = true))
      case atStart =>
        refine ⟨0, .slice none 0 0, [], rfl, by omega, Lib.hid ⟨by simp, by simp, ⟨rfl, .inl ⟨rfl, rfl⟩⟩, fun i hi => by simp at hi⟩, Lib.hid (Below.alloc (Below.refl _ _) (Nat.le_refl _) _), Lib.hid fun j hj => by omega⟩
      case round =>
        obtain ⟨k, fv, xs, rfl, hk, hF, hB, hno⟩ := hrel
        by_cases hg : gk = 0
        · subst hg
          obtain rfl : k = n := by omega
          have hdn : decide ((k : Int) < (k : Int)) = false := by simp
          have hgood := tablesOk_good (ls := ls) (by rw [HN.out]; exact hl1) (by rw [HN.out]; exact hl5) (fun i hi => hno.out i (by rw [HN.out] at hi; exact hi))
          have HG := Lib.hid hgood
          clear hgood
          go_wp2_with fail
          refine bodyPost_ret (results_tmp2 rfl _ _ _) rfl ?_
          refine ⟨.inl ⟨HG.out, w.heap.size, fv, xs, rfl, ?_⟩, hB.out⟩
          have := hF.out
          rw [← HN.out, List.take_length] at this
          exact this
        · have hkn : k < n := by omega
          have hkI : (k : Int) < (n : Int) := by omega
          have k0 : (0 : Int) ≤ (k : Int) := by omega
          have hgk : 1 ≤ gk := by omega
          obtain ⟨b, off, tv, rfl, hb, c0, hE⟩ := (H.out.below hB.out).get k hkn
          obtain ⟨ta, tc, rfl, htc, htm⟩ := hE.form
          obtain ⟨l, hl⟩ : ∃ l, ls.getD k [] = l := ⟨_, rfl⟩
          rw [hl] at c0 hE htc
          obtain ⟨d, hd⟩ : ∃ d, tableOkF l = d := ⟨_, rfl⟩
          obtain ⟨tn, htn⟩ : ∃ tn, l.length = tn := ⟨_, rfl⟩
          rw [htn] at c0 hE htc
          have htab := implTableOk_any _ l wr hE
          rw [hd] at htab
          have HTAB := Lib.hid htab
          have HE := Lib.hid hE
          have HL := Lib.hid hl
          have HD := Lib.hid hd
          have HTN := Lib.hid htn
          have HK := Lib.hid hk
          clear htab hE hl hd htn hk hg
          cases d
          · have hbad := tablesOk_bad (ls := ls) (i := k) (by rw [HN.out]; exact hkn) (by rw [HL.out]; exact HD.out)
            have HBAD := Lib.hid hbad
            clear hbad
            go_wp2_with (go_at_call 135; refine HTAB.out.mono ?_; rintro e w1 ⟨rfl, hb1⟩; have BB := Lib.hid (hB.out.trans (hb1.mono hB.out.size)); clear hb1)
            refine bodyPost_ret (results_tmp2 rfl _ _ _) rfl ?_
            exact ⟨.inr ⟨HBAD.out, rfl⟩, BB.out⟩
          · go_wp2_with (go_at_call 135; refine HTAB.out.mono ?_; rintro e w1 ⟨rfl, hb1⟩; have BB := Lib.hid (hB.out.trans (hb1.mono hB.out.size)); have HF1 := Lib.hid (hF.out.below hb1); have HE1 := Lib.hid (HE.out.below hb1); clear hb1)
            have hf0 := HF1.out.lt
            have hcell := HF1.out.cell
            have hfree := HF1.out.free
            obtain ⟨fa, fc, e, hfk, hfm⟩ := owns_form HF1.out.own
            have hlk : (ls.take k).length = k := by rw [List.length_take, HN.out]; omega
            rw [hlk] at e hfk
            subst e
            have hown := HF1.out.own
            rw [hlk] at hown
            have OWN := Lib.hid hown
            have hentok := fun i (hi : i < l.length) => ((tableOk_all HD.out).2 i hi).1
            have htl := (tableOk_all HD.out).1
            have hsl : ls.take (k + 1) = ls.take k ++ [l] := by rw [List.take_add_one, ← HL.out, List.getD_eq_getElem?_getD, List.getElem?_eq_getElem (by rw [HN.out]; exact hkn)]; rfl
            have HENT := Lib.hid hentok
            have HTL := Lib.hid htl
            have HSL := Lib.hid hsl
            have HLK := Lib.hid hlk
            clear hown hentok htl hsl hlk
            obtain ⟨hc1, hf1⟩ := bcell (Below.refl w1.heap.size w1)
            clear hc1 hf1
            go_region_law (first
              | (go_simp; go_at_call 136; refine (trieOf_any _ l HTL.out HENT.out _ (HE1.out.below bw)).mono ?_; rintro e w2 ⟨root, m2, rfl, hT2, hr2, _, hb2⟩; have hb12 : Below w1.heap.size w1 w2 := (by refine Below.trans ?_ (hb2.mono (by first | exact Nat.le_refl _ | omega | (simp; done) | (simp; omega))); exact bw); have HF2 := Lib.hid (HF1.out.below hb12); have HT2 : Hid (TrieAt w2 (w.heap.size + 1) root l) := Lib.hid (TrieAt.keep ⟨m2, hT2, hr2⟩ (by (try simp); omega) (fun _ _ _ _ => rfl)); have hcell2 := HF2.out.cell; have hfree2 := HF2.out.free; have hf2 := HF2.out.lt; have OWN2 := Lib.hid (owns_belowR OWN.out hb12); have BB := Lib.hid (BB.out.trans (hb12.mono BB.out.size)); clear hT2 hr2 hb2 hb12)
              | (refine step_append_src rfl (.tmp 24) (.tmp 28) 161 rfl (w.heap.size + 1) 29 i0 .nilFunc 8 Tryz.underlying161 hi hz0 hz1 hz2 rfl (.slice fa k fc) k xs rfl (World.ownsRow.alloc OWN2.out _) (.slice (some ⟨w2.heap.size, 0, none⟩) 1 1) 1 (fun _ => findV root) rfl (lit_src w2 (findV root)) (fun j hj => rfl) (by unfold maxLen; omega) (by omega) (by (try simp); omega) ?_; intro v' w3 hown3 hgrow3; have hblk := fun b (hb : (w2.alloc (.cells #[findV root] 29)).heap.size > b) (hne : (Value.slice fa k fc).ownBlock ≠ some b) => hgrow3.block b hb (fun e => hne e.symm); have hF0 : (Value.slice fa k fc).ownBlock ≠ some w.heap.size := (fun e => by have := (World.ownsRow.lt OWN2.out _ e).1; omega); have hbF := hblk w.heap.size (by simp; omega) hF0; have hcell3 : w3.cell? ⟨w.heap.size, 0, none⟩ = some (.slice fa k fc) := ((World.cell?_of_block (w := w2.alloc (.cells #[findV root] 29)) hbF).trans ((World.cell?_alloc_past _ _ _ hf2).trans hcell2)); have hfree3 : w3.frozen? ⟨w.heap.size, 0, none⟩ = false := ((World.frozen?_of_block (w := w2.alloc (.cells #[findV root] 29)) hbF).trans ((World.frozen?_alloc_past _ _ _ hf2).trans hfree2)); have HP : Hid (FindAt (w3.setCell ⟨w.heap.size, 0, none⟩ v') w.heap.size v' (xs ++ [findV root]) (ls.take k ++ [l])) := Lib.hid (FindAt.push (HF2.out.below (Below.alloc (Below.refl _ _) (Nat.le_refl _) _)) (HT2.out.keep (Nat.le_refl _) (fun b c _ hc => Below.heap_alloc _ _ _ (heap_lt hc))) hgrow3 (by rw [HLK.out]; exact hown3)); have BB3 : Hid (Below w.heap.size w w3) := Lib.hid (Below.grown (Below.alloc BB.out (by omega) _) hgrow3 (by simp; omega) (fun g hg => by have := (World.ownsRow.lt OWN2.out g hg).1; omega)); obtain ⟨va, vc, ev, _, _⟩ := owns_form hown3; clear hown3 hgrow3 hblk hF0 hbF; subst ev))
            all_goals
              go_wp2_with fail
              go_roundg (gk - 1)
              case measure => omega
              case rel =>
                refine ⟨k + 1, .slice va (k + 1) vc, xs ++ [findV root], by go_num, by have := HK.out; omega, Lib.hid (by rw [HSL.out]; exact HP.out), Lib.hid (Below.setCell BB3.out (by simp) _), Lib.hid fun j hj => ?_⟩
                by_cases hjk : j = k
                · rw [hjk, HL.out]; exact HD.out
                · exact hno.out j (by omega)
end Go.Proofs.YtnecdeaikmhanaaGreatDoor
namespace Go.Proofs.YtnecdeaikmhanaaGreatDoor
open Go.RowKit
set_option linter.unusedVariables false
set_option maxRecDepth 100000 in
set_option maxHeartbeats 4000000 in
theorem fwd1_any (F : Nat) (fv : Value) (xs : List Value) (ls : List (List Ent)) (k : Nat) (x : Int) (hx0 : 0 ≤ x) (hx1 : x ≤ 255) (w : World) (hF : FindAt w F fv xs ls) (hk : k < ls.length) (h5 : ls.length ≤ 5) :
    Calls Tryz.prog 138 #[.int .i64 ((k : Int) + 1), .int .i64 x, .pointer (some ⟨F, 0, none⟩)] w fun e w' => e = .returned (.int .i64 (fV (vF (ls.getD k [])) x 9)) ∧ Below w.heap.size w w' := by
  obtain ⟨root, hxr, m, hT, hr⟩ := hF.tries k hk
  have hcell := hF.cell
  obtain ⟨fa, fc, rfl, hfk, hfm⟩ := owns_form hF.own
  have hxl : xs.length = ls.length := by have := hF.own.1; omega
  obtain ⟨n, hn⟩ : ∃ n, ls.length = n := ⟨_, rfl⟩
  obtain ⟨R, hR⟩ : ∃ R, fV (vF (ls.getD k [])) x 9 = R := ⟨_, rfl⟩
  have hc : ∃ g, fa = some ⟨g, 0, none⟩ ∧ w.cell? ⟨g, k, none⟩ = some (findV root) := by
    rcases hF.own.2 with ⟨h1, h2⟩ | ⟨g, cap, cur, e1, _⟩
    · omega
    · simp only [Value.slice.injEq] at e1
      refine ⟨g, e1.1, ?_⟩
      have := hF.own
      rw [e1.1] at this
      rw [this.cellAt k (by omega), ← hxr, List.getD_eq_getElem?_getD, List.getElem?_eq_getElem (by omega)]; rfl
  obtain ⟨g, rfl, hgc⟩ := hc
  rw [hn] at hcell hfk hk h5
  rw [hR]
  have hfind : ∀ W, Drew w W → Calls Tryz.prog 137 #[.pointer (some ⟨root, 0, none⟩), .int .i64 x] W fun e w' => e = .returned (.int .i64 R) ∧ Drew W w' := fun W hW => by
    rw [← hR]; exact find_any root (F + 1) m _ x hx0 hx1 W (hT.below (hW.below _)) hr
  have HFI := Lib.hid hfind
  unfold findV at hgc
  have hkI : (k : Int) < (n : Int) := by omega
  have k0 : (0 : Int) ≤ (k : Int) := by omega
  clear hfind hT hr hxr hR hF hxl hn hx0 hx1
  go_enter Tryz.func138, Tryz.ntmps138
  go_wp2_with (go_at_call 137; refine (HFI.out _ (by first | exact Drew.refl _ | exact ⟨_, rfl⟩)).mono ?_; rintro e w1 ⟨rfl, hd⟩; have hb := hd.below w.heap.size; clear hd)
  go_ret
  exact ⟨rfl, hb⟩
end Go.Proofs.YtnecdeaikmhanaaGreatDoor
