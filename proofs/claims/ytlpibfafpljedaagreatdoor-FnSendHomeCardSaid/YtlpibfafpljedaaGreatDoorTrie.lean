/- Plain: what a binary trie of a table finds is what the reference finds. Tries in memory; a bit of an address; find. (*impl.trie).find. A trie that grows by a node, or by whom one goes from a node. -/
import Derived.Test.YtlpibfafpljedaaGreatDoorTab
namespace Go.Proofs.YtlpibfafpljedaaGreatDoor
set_option linter.unusedVariables false

/-- by whom, for the ranges of k bits that begin so -/
def vF (l : List Ent) (k : Nat) (p : Int) : Int := l.foldl (fun acc e => if e.2.1 = (k : Int) ∧ e.1 / sizeF e.2.1 = p then e.2.2 else acc) 0
theorem vF_snoc (l : List Ent) (e : Ent) (k : Nat) (p : Int) : vF (l ++ [e]) k p = if e.2.1 = (k : Int) ∧ e.1 / sizeF e.2.1 = p then e.2.2 else vF l k p := by
  unfold vF; rw [List.foldl_append]; rfl
/-- what is found on the way down, of the first k nodes -/
def fV (v : Nat → Int → Int) (x : Int) : Nat → Int
  | 0 => 0
  | k + 1 => if v k (x / sizeF k) ≠ 0 then v k (x / sizeF k) else fV v x k
theorem fV_none {v : Nat → Int → Int} {x : Int} : ∀ n : Nat, (∀ k, k < n → v k (x / sizeF k) = 0) → fV v x n = 0
  | 0, _ => rfl
  | n + 1, h => by
    unfold fV
    rw [if_neg (by rw [h n (by omega)]; simp)]
    exact fV_none n (fun k hk => h k (by omega))
theorem fV_at {v : Nat → Int → Int} {x c : Int} {K : Nat} (hc : c ≠ 0) (hv : v K (x / sizeF K) = c) : ∀ n : Nat, K < n → (∀ k, K < k → k < n → v k (x / sizeF k) = 0) → fV v x n = c
  | 0, h, _ => by omega
  | n + 1, h, hz => by
    unfold fV
    by_cases e : K = n
    · subst e
      rw [if_pos (by rw [hv]; exact hc), hv]
    · rw [if_neg (by rw [hz n (by omega) (by omega)]; simp)]
      exact fV_at hc hv n (by omega) (fun k h1 h2 => hz k h1 (by omega))
theorem fV_cut {v : Nat → Int → Int} {x : Int} {K : Nat} : ∀ n : Nat, K ≤ n → (∀ k, K ≤ k → k < n → v k (x / sizeF k) = 0) → fV v x n = fV v x K
  | 0, h, _ => by obtain rfl : K = 0 := by omega
                  rfl
  | n + 1, h, hz => by
    by_cases e : K = n + 1
    · rw [e]
    · have e1 : fV v x (n + 1) = if v n (x / sizeF n) ≠ 0 then v n (x / sizeF n) else fV v x n := rfl
      rw [e1, if_neg (by rw [hz n (by omega) (by omega)]; simp)]
      exact fV_cut n (by omega) (fun k h1 h2 => hz k h1 (by omega))
theorem vF_zero {l : List Ent} {k : Nat} {p : Int} : (∀ e, e ∈ l → ¬ (e.2.1 = (k : Int) ∧ e.1 / sizeF e.2.1 = p)) → vF l k p = 0 := by
  unfold vF
  generalize (0 : Int) = z
  induction l generalizing z with
  | nil => intro _; rfl
  | cons a t ih =>
    intro h
    rw [List.foldl_cons, if_neg (h a (by simp))]
    exact ih z (fun e he => h e (by simp [he]))
theorem vF_same {l : List Ent} {k : Nat} {p c : Int} (hex : ∃ e, e ∈ l ∧ e.2.1 = (k : Int) ∧ e.1 / sizeF e.2.1 = p) (hall : ∀ e, e ∈ l → e.2.1 = (k : Int) → e.1 / sizeF e.2.1 = p → e.2.2 = c) : vF l k p = c := by
  unfold vF
  have key : ∀ (l : List Ent) (z : Int), (∀ e, e ∈ l → e.2.1 = (k : Int) → e.1 / sizeF e.2.1 = p → e.2.2 = c) →
      (l.foldl (fun acc (e : Ent) => if e.2.1 = (k : Int) ∧ e.1 / sizeF e.2.1 = p then e.2.2 else acc) z = c ∨ (l.foldl (fun acc (e : Ent) => if e.2.1 = (k : Int) ∧ e.1 / sizeF e.2.1 = p then e.2.2 else acc) z = z ∧ ¬ ∃ e, e ∈ l ∧ e.2.1 = (k : Int) ∧ e.1 / sizeF e.2.1 = p)) := by
    intro l
    induction l with
    | nil => intro z _; exact .inr ⟨rfl, by simp⟩
    | cons a t ih =>
      intro z h
      rw [List.foldl_cons]
      by_cases ha : a.2.1 = (k : Int) ∧ a.1 / sizeF a.2.1 = p
      · rw [if_pos ha]
        have hac := h a (by simp) ha.1 ha.2
        rcases ih a.2.2 (fun e he => h e (by simp [he])) with h1 | ⟨h1, _⟩
        · exact .inl h1
        · left; rw [h1]; exact hac
      · rw [if_neg ha]
        rcases ih z (fun e he => h e (by simp [he])) with h1 | ⟨h1, h2⟩
        · exact .inl h1
        · refine .inr ⟨h1, ?_⟩
          rintro ⟨e, he, h3⟩
          rcases List.mem_cons.1 he with rfl | he
          · exact ha h3
          · exact h2 ⟨e, he, h3⟩
  rcases key l 0 hall with h | ⟨_, h⟩
  · exact h
  · exact absurd hex h

/-- what the reference finds: the covering entry of most bits, the first of such -/
def BestAt (l : List Ent) (x : Int) (n : Nat) (best : Int) : Prop :=
  (best = -1 ∧ ∀ i, i < n → hasF (l.getD i (0, 0, 0)).1 (l.getD i (0, 0, 0)).2.1 x = false) ∨
  (∃ j : Nat, best = (j : Int) ∧ j < n ∧ hasF (l.getD j (0, 0, 0)).1 (l.getD j (0, 0, 0)).2.1 x = true ∧
    ∀ i, i < n → hasF (l.getD i (0, 0, 0)).1 (l.getD i (0, 0, 0)).2.1 x = true → (l.getD i (0, 0, 0)).2.1 ≤ (l.getD j (0, 0, 0)).2.1)
theorem tableOk_all {l : List Ent} (h : tableOkF l = true) : l.length ≤ 12 ∧ ∀ i, i < l.length → entOkF (l.getD i (0, 0, 0)) = true ∧ (i ≠ 0 → ordF (l.getD (i - 1) (0, 0, 0)) (l.getD i (0, 0, 0)) < 0) := by
  unfold tableOkF at h
  rw [Bool.and_eq_true, List.all_eq_true] at h
  refine ⟨by simpa using h.1, fun i hi => ?_⟩
  have := h.2 i (by simpa using hi)
  rw [Bool.and_eq_true, Bool.or_eq_true] at this
  refine ⟨this.1, fun h0 => ?_⟩
  rcases this.2 with h2 | h2
  · exact absurd (by simpa using h2) h0
  · simpa using h2
/-- one range stands ahead of another one -/
def ltE (a b : Ent) : Prop := a.1 < b.1 ∨ (a.1 = b.1 ∧ a.2.1 < b.2.1)
theorem ordF_lt {a b : Ent} : ordF a b < 0 ↔ ltE a b := by
  unfold ordF rcmpF cmpI ltE
  by_cases h1 : a.1 < b.1
  · simp [h1]
  · by_cases h2 : b.1 < a.1
    · simp [h1, h2]; omega
    · have h3 : a.1 = b.1 := by omega
      by_cases h4 : a.2.1 < b.2.1
      · simp [h3, h4]
      · by_cases h5 : b.2.1 < a.2.1
        · simp [h3, h4, h5]
        · simp [h3, h4, h5]
theorem tableOk_lt {l : List Ent} (h : tableOkF l = true) : ∀ (j : Nat), j < l.length → ∀ i, i < j → ltE (l.getD i (0, 0, 0)) (l.getD j (0, 0, 0)) := by
  obtain ⟨_, hall⟩ := tableOk_all h
  intro j
  induction j with
  | zero => intro _ i hi; omega
  | succ j ih =>
    intro hj i hi
    have hstep := ordF_lt.1 ((hall (j + 1) hj).2 (by omega))
    rw [Nat.add_sub_cancel] at hstep
    by_cases e : i = j
    · subst e; exact hstep
    · have := ih (by omega) i (by omega)
      unfold ltE at this hstep ⊢
      omega
theorem entOk_parts {e : Ent} (h : entOkF e = true) : 0 ≤ e.2.1 ∧ e.2.1 ≤ 8 ∧ 0 ≤ e.1 ∧ e.1 ≤ 255 ∧ e.1 % sizeF e.2.1 = 0 ∧ 1 ≤ e.2.2 ∧ e.2.2 ≤ 9 := by
  unfold entOkF rangeOkF addrF at h
  simp only [Bool.and_eq_true, decide_eq_true_eq] at h
  omega
theorem same_range {a b : Ent} (ha : entOkF a = true) (hb : entOkF b = true) (h1 : a.2.1 = b.2.1) (h2 : a.1 / sizeF a.2.1 = b.1 / sizeF b.2.1) : a.1 = b.1 := by
  obtain ⟨_, _, _, _, m1, _⟩ := entOk_parts ha
  obtain ⟨_, _, _, _, m2, _⟩ := entOk_parts hb
  have e1 := Int.emod_add_mul_ediv a.1 (sizeF a.2.1)
  have e2 := Int.emod_add_mul_ediv b.1 (sizeF b.2.1)
  rw [m1] at e1
  rw [m2] at e2
  rw [← e1, ← e2, h1, ← h2, h1]
theorem best_find {l : List Ent} {x best : Int} (h : tableOkF l = true) (hb : BestAt l x l.length best) :
    fV (vF l) x 9 = if best < 0 then 0 else (l.getD best.toNat (0, 0, 0)).2.2 := by
  obtain ⟨_, hall⟩ := tableOk_all h
  have hlt := tableOk_lt h
  have hmem : ∀ e, e ∈ l → ∃ i, i < l.length ∧ l.getD i (0, 0, 0) = e := fun e he => by
    obtain ⟨i, hi, rfl⟩ := List.getElem_of_mem he
    exact ⟨i, hi, by rw [List.getD_eq_getElem?_getD, List.getElem?_eq_getElem hi]; rfl⟩
  rcases hb with ⟨rfl, hno⟩ | ⟨j, rfl, hj, hhas, hmax⟩
  · rw [if_pos (by omega)]
    refine fV_none 9 (fun k hk => vF_zero fun e he hh => ?_)
    obtain ⟨i, hi, rfl⟩ := hmem e he
    have := hno i hi
    unfold hasF at this
    rw [decide_eq_false_iff_not] at this
    apply this
    rw [hh.2, hh.1]
  · rw [if_neg (by omega), Int.toNat_natCast]
    obtain ⟨ent, hent⟩ : ∃ e, l.getD j (0, 0, 0) = e := ⟨_, rfl⟩
    have hok := (hall j hj).1
    rw [hent] at hok hhas hmax ⊢
    obtain ⟨b0, b8, _, _, _, v1, _⟩ := entOk_parts hok
    obtain ⟨K, hK⟩ : ∃ K : Nat, ent.2.1 = (K : Int) := ⟨ent.2.1.toNat, by omega⟩
    have hkey : x / sizeF ent.2.1 = ent.1 / sizeF ent.2.1 := by unfold hasF at hhas; simpa using hhas
    refine fV_at (K := K) (by omega) ?_ 9 (by omega) (fun k h1 h2 => vF_zero fun e he hh => ?_)
    · refine vF_same ⟨ent, by rw [← hent, List.getD_eq_getElem?_getD, List.getElem?_eq_getElem hj]; exact List.getElem_mem _, hK, by rw [← hkey, hK]⟩ (fun e he h3 h4 => ?_)
      obtain ⟨i, hi, rfl⟩ := hmem e he
      have hoi := (hall i hi).1
      have hb' : (l.getD i (0, 0, 0)).2.1 = ent.2.1 := by rw [h3, hK]
      have hf' := same_range hoi hok hb' (by rw [h4, ← hkey, hK])
      have : i = j := by
        rcases Nat.lt_trichotomy i j with hij | hij | hij
        · have := hlt j hj i hij
          rw [hent] at this
          unfold ltE at this; omega
        · exact hij
        · have := hlt i hi j hij
          rw [hent] at this
          unfold ltE at this; omega
      subst this
      rw [hent]
    · obtain ⟨i, hi, rfl⟩ := hmem e he
      have hh2 : hasF (l.getD i (0, 0, 0)).1 (l.getD i (0, 0, 0)).2.1 x = true := by
        unfold hasF; rw [decide_eq_true_eq, hh.2, hh.1]
      have := hmax i hi hh2
      rw [hh.1, hK] at this
      omega
end Go.Proofs.YtlpibfafpljedaaGreatDoor

namespace Go.Proofs.YtlpibfafpljedaaGreatDoor
open Go.RowKit
set_option linter.unusedVariables false

def ptrV (o : Option Nat) : Value := .pointer (o.map fun b => ⟨b, 0, none⟩)
/-- The nodes of a trie lie in blocks of their own from lo on: the node of k bits p in block m k p, with v k p; its two followers behind it. -/
structure IsTrie (W : World) (lo : Nat) (m : Nat → Int → Option Nat) (v : Nat → Int → Int) : Prop where
  node : ∀ k p b, m k p = some b → lo ≤ b ∧ W.heap[b]? = some (.cells #[.int .i64 (v k p), ptrV (m (k + 1) (2 * p)), ptrV (m (k + 1) (2 * p + 1))] 109 (0, 0))
  inj : ∀ k p k' p' b, m k p = some b → m k' p' = some b → k = k' ∧ p = p'
  zero : ∀ k p, m k p = none → v k p = 0
  shut : ∀ k p c, (c = 0 ∨ c = 1) → m k p = none → m (k + 1) (2 * p + c) = none
theorem IsTrie.below {W W' : World} {lo : Nat} {m : Nat → Int → Option Nat} {v : Nat → Int → Int} (h : IsTrie W lo m v) (hb : Below W.heap.size W W') : IsTrie W' lo m v :=
  ⟨fun k p b hm => ⟨(h.node k p b hm).1, (hb.block b (Array.getElem?_eq_some_iff.1 (h.node k p b hm).2).1).trans (h.node k p b hm).2⟩, h.inj, h.zero, h.shut⟩
theorem node_cells {W : World} {b : Nat} {x y z : Value} {T : TypeId} (h : W.heap[b]? = some (.cells #[x, y, z] T (0, 0))) :
    b < W.heap.size ∧ W.cell? ⟨b, 0, none⟩ = some x ∧ W.cell? ⟨b, 1, none⟩ = some y ∧ W.cell? ⟨b, 2, none⟩ = some z ∧ W.frozen? ⟨b, 0, none⟩ = false ∧ W.frozen? ⟨b, 1, none⟩ = false ∧ W.frozen? ⟨b, 2, none⟩ = false := by
  refine ⟨(Array.getElem?_eq_some_iff.1 h).1, ?_, ?_, ?_, ?_, ?_, ?_⟩ <;> simp [World.cell?, World.frozen?, h]
/-- the bit number k of an address, the most significant one first -/
def bitI (x : Int) (k : Nat) : Int := x / sizeF ((k : Int) + 1) % 2
theorem bit_step (x : Int) (k : Nat) (hk : k < 8) : x / sizeF ((k : Int) + 1) = 2 * (x / sizeF (k : Int)) + bitI x k := by
  have e : sizeF (k : Int) = sizeF ((k : Int) + 1) * 2 := by
    unfold sizeF
    rw [show (8 - (k : Int)).toNat = (8 - ((k : Int) + 1)).toNat + 1 by omega, Int.pow_succ]
  have h2 : x / sizeF (k : Int) = x / sizeF ((k : Int) + 1) / 2 := by
    rw [e, Int.ediv_ediv_of_nonneg (by have := sizeF_pos ((k : Int) + 1); omega)]
  rw [h2]
  unfold bitI
  omega
theorem bitI_01 (x : Int) (k : Nat) : bitI x k = 0 ∨ bitI x k = 1 := by unfold bitI; omega
theorem size_zero (x : Int) (h0 : 0 ≤ x) (h1 : x ≤ 255) : x / sizeF ((0 : Nat) : Int) = 0 := by
  have : sizeF ((0 : Nat) : Int) = 256 := by decide
  rw [this]; omega

theorem bits_all : ∀ n : Nat, n < 256 → bits BinOp.and IntKind.i64 ((n : Int) / 128) 1 = bitI (n : Int) 0 ∧ bits BinOp.and IntKind.i64 ((n : Int) / 64) 1 = bitI (n : Int) 1 ∧ bits BinOp.and IntKind.i64 ((n : Int) / 32) 1 = bitI (n : Int) 2 ∧ bits BinOp.and IntKind.i64 ((n : Int) / 16) 1 = bitI (n : Int) 3 ∧ bits BinOp.and IntKind.i64 ((n : Int) / 8) 1 = bitI (n : Int) 4 ∧ bits BinOp.and IntKind.i64 ((n : Int) / 4) 1 = bitI (n : Int) 5 ∧ bits BinOp.and IntKind.i64 ((n : Int) / 2) 1 = bitI (n : Int) 6 ∧ bits BinOp.and IntKind.i64 (n : Int) 1 = bitI (n : Int) 7 := by decide +kernel
theorem bitOf_any (x : Int) (k : Nat) (h0 : 0 ≤ x) (h1 : x ≤ 255) (hk : k < 8) (w : World) :
    Calls Tryz.prog 69 #[.int .i64 x, .int .i64 (k : Int)] w fun e w' => e = .returned (.int .i64 (bitI x k)) ∧ w' = w := by
  obtain ⟨n, rfl⟩ : ∃ n : Nat, x = (n : Int) := ⟨x.toNat, by omega⟩
  have hk8 : k = 0 ∨ k = 1 ∨ k = 2 ∨ k = 3 ∨ k = 4 ∨ k = 5 ∨ k = 6 ∨ k = 7 := by omega
  obtain ⟨q0, q1, q2, q3, q4, q5, q6, q7⟩ := bits_all n (by omega)
  rcases hk8 with rfl | rfl | rfl | rfl | rfl | rfl | rfl | rfl
  · clear q1 q2 q3 q4 q5 q6 q7
    have Q := Lib.hid q0
    clear q0
    go_enter Tryz.func69, Tryz.ntmps69
    go_wp2_with fail
    go_ret
    exact ⟨by rw [← Q.out]; rfl, rfl⟩
  · clear q0 q2 q3 q4 q5 q6 q7
    have Q := Lib.hid q1
    clear q1
    go_enter Tryz.func69, Tryz.ntmps69
    go_wp2_with fail
    go_ret
    exact ⟨by rw [← Q.out]; rfl, rfl⟩
  · clear q0 q1 q3 q4 q5 q6 q7
    have Q := Lib.hid q2
    clear q2
    go_enter Tryz.func69, Tryz.ntmps69
    go_wp2_with fail
    go_ret
    exact ⟨by rw [← Q.out]; rfl, rfl⟩
  · clear q0 q1 q2 q4 q5 q6 q7
    have Q := Lib.hid q3
    clear q3
    go_enter Tryz.func69, Tryz.ntmps69
    go_wp2_with fail
    go_ret
    exact ⟨by rw [← Q.out]; rfl, rfl⟩
  · clear q0 q1 q2 q3 q5 q6 q7
    have Q := Lib.hid q4
    clear q4
    go_enter Tryz.func69, Tryz.ntmps69
    go_wp2_with fail
    go_ret
    exact ⟨by rw [← Q.out]; rfl, rfl⟩
  · clear q0 q1 q2 q3 q4 q6 q7
    have Q := Lib.hid q5
    clear q5
    go_enter Tryz.func69, Tryz.ntmps69
    go_wp2_with fail
    go_ret
    exact ⟨by rw [← Q.out]; rfl, rfl⟩
  · clear q0 q1 q2 q3 q4 q5 q7
    have Q := Lib.hid q6
    clear q6
    go_enter Tryz.func69, Tryz.ntmps69
    go_wp2_with fail
    go_ret
    exact ⟨by rw [← Q.out]; rfl, rfl⟩
  · clear q0 q1 q2 q3 q4 q5 q6
    have Q := Lib.hid q7
    clear q7
    go_enter Tryz.func69, Tryz.ntmps69
    go_wp2_with fail
    go_ret
    exact ⟨by rw [← Q.out]; rfl, rfl⟩
end Go.Proofs.YtlpibfafpljedaaGreatDoor

namespace Go.Proofs.YtlpibfafpljedaaGreatDoor
open Go.RowKit
set_option linter.unusedVariables false

theorem IsTrie.none_on {W : World} {lo : Nat} {m : Nat → Int → Option Nat} {v : Nat → Int → Int} (h : IsTrie W lo m v) {x : Int} {K : Nat} (hK : m K (x / sizeF (K : Int)) = none) : ∀ k : Nat, K ≤ k → k ≤ 8 → m k (x / sizeF (k : Int)) = none := by
  intro k
  induction k with
  | zero => intro h1 _; obtain rfl : K = 0 := by omega
            exact hK
  | succ k ih =>
    intro h1 h2
    by_cases e : K = k + 1
    · rw [← e]; exact hK
    · have := h.shut k _ (bitI x k) (bitI_01 x k) (ih (by omega) (by omega))
      rw [show ((k + 1 : Nat) : Int) = (k : Int) + 1 by omega, bit_step x k (by omega)]
      exact this
theorem fV_succ (v : Nat → Int → Int) (x : Int) (k : Nat) : fV v x (k + 1) = if v k (x / sizeF k) ≠ 0 then v k (x / sizeF k) else fV v x k := rfl

set_option maxRecDepth 100000 in
set_option maxHeartbeats 4000000 in
theorem find_any (root lo : Nat) (m : Nat → Int → Option Nat) (v : Nat → Int → Int) (x : Int) (hx0 : 0 ≤ x) (hx1 : x ≤ 255) (w : World) (hT : IsTrie w lo m v) (hr : m 0 0 = some root) :
    Calls Tryz.prog 50 #[.pointer (some ⟨root, 0, none⟩), .int .i64 x] w fun e w' => e = .returned (.int .i64 (fV v x 9)) ∧ Drew w w' := by
  obtain ⟨R, hR⟩ : ∃ R, fV v x 9 = R := ⟨_, rfl⟩
  rw [hR]
  have HR := Lib.hid hR
  have HT := Lib.hid hT
  have h0 : Hid (Value.pointer (some ⟨root, 0, none⟩) = ptrV (m 0 (x / sizeF ((0 : Nat) : Int)))) := Lib.hid (by rw [size_zero x hx0 hx1, hr]; rfl)
  clear hR hT hr
  go_enter Tryz.func50, Tryz.ntmps50
  go_wp2_with fail
  go_loopg [0, 5, 6] 8 (fun g s0 s5 s6 wr => ∃ (k q : Nat) (y : Int), s6 = .int .i64 (k : Int) ∧ k + g = 8 ∧ Hid (s0 = ptrV (m k (x / sizeF (k : Int)))) ∧ s5 = .int .i64 y ∧ Hid (y = fV v x k) ∧ wr = w.drewN q)
  case atStart => exact ⟨0, 0, 0, rfl, rfl, h0, rfl, Lib.hid rfl, rfl⟩
  case round =>
    obtain ⟨k, q, y, rfl, hk, hs0, rfl, hy, rfl⟩ := hrel
    cases hm : m k (x / sizeF (k : Int)) with
    | none =>
      have e := hs0.out
      rw [hm] at e
      subst e
      have hfin : y = R := by
        rw [hy.out, ← HR.out]
        exact (fV_cut 9 (by omega) (fun k' h1 h2 => HT.out.zero _ _ (HT.out.none_on hm k' h1 (by omega)))).symm
      subst hfin
      unfold ptrV
      go_wp2_with fail
      go_ret
      exact ⟨rfl, q, rfl⟩
    | some b =>
      have e := hs0.out
      rw [hm] at e
      subst e
      obtain ⟨hlo, hnode⟩ := HT.out.node _ _ _ hm
      obtain ⟨V, hV⟩ : ∃ V, v k (x / sizeF (k : Int)) = V := ⟨_, rfl⟩
      have hsucc := fV_succ v x k
      rw [hV, ← hy.out] at hsucc
      rw [hV] at hnode
      obtain ⟨hbl, n0, n1, n2, _, _, _⟩ := node_cells hnode
      have hst : k < 8 → (bitI x k = 0 → m (k + 1) (2 * (x / sizeF (k : Int))) = m (k + 1) (x / sizeF ((k + 1 : Nat) : Int))) ∧ (bitI x k = 1 → m (k + 1) (2 * (x / sizeF (k : Int)) + 1) = m (k + 1) (x / sizeF ((k + 1 : Nat) : Int))) := fun hk8 => by
        have hb := bit_step x k hk8
        rw [show ((k + 1 : Nat) : Int) = (k : Int) + 1 by omega, hb]
        exact ⟨fun h => by rw [h, Int.add_zero], fun h => by rw [h]⟩
      have h01 := bitI_01 x k
      have HST := Lib.hid hst
      have HK := Lib.hid hk
      obtain ⟨y', hy'⟩ : ∃ y', fV v x (k + 1) = y' := ⟨_, rfl⟩
      rw [hy'] at hsucc
      have HY' := Lib.hid hy'
      have hend : k = 8 → y' = R := fun h8 => by rw [← HY'.out, ← HR.out, h8]
      have HEND := Lib.hid hend
      obtain ⟨z1, hz1⟩ : ∃ z, ptrV (m (k + 1) (2 * (x / sizeF (k : Int)))) = z := ⟨_, rfl⟩
      obtain ⟨z2, hz2⟩ : ∃ z, ptrV (m (k + 1) (2 * (x / sizeF (k : Int)) + 1)) = z := ⟨_, rfl⟩
      rw [hz1] at n1
      rw [hz2] at n2
      have hz1' : ∃ o, z1 = .pointer o := ⟨_, hz1.symm⟩
      have hz2' : ∃ o, z2 = .pointer o := ⟨_, hz2.symm⟩
      obtain ⟨o1, ho1⟩ := hz1'
      obtain ⟨o2, ho2⟩ := hz2'
      have HZ1 := Lib.hid hz1
      have HZ2 := Lib.hid hz2
      clear hst hk hy' hend hm hnode hz1 hz2 hV hs0
      subst ho1
      subst ho2
      have hk8 : k ≤ 8 := by have := HK.out; omega
      unfold ptrV
      rw [Option.map_some]
      by_cases hV0 : V = 0
      · subst hV0
        rw [if_neg (by simp)] at hsucc
        subst hsucc
        by_cases h8 : k = 8
        · subst h8
          have e := HEND.out rfl
          subst e
          go_wp2_with fail
          go_ret
          exact ⟨rfl, q, rfl⟩
        · have hk7 : k < 8 := by omega
          have h8b : ((k : Int) == 8) = false := by simp; omega
          have k0 : (0 : Int) ≤ (k : Int) := by omega
          have hbit : ∀ W, Calls Tryz.prog 69 #[.int .i64 x, .int .i64 (k : Int)] W fun e w' => e = .returned (.int .i64 (bitI x k)) ∧ Drew W w' := fun W => (bitOf_any x k hx0 hx1 hk7 W).mono fun e w' ⟨h1, h2⟩ => ⟨h1, by rw [h2]; exact Drew.refl _⟩
          obtain ⟨B, hB⟩ : ∃ B, bitI x k = B := ⟨_, rfl⟩
          rw [hB] at hbit h01
          have HB := Lib.hid hB
          have HBIT := Lib.hid hbit
          clear hbit hB h8
          rcases h01 with rfl | rfl
          · go_wp2_with fail
            go_quiet ((go_at_call 69; (first | refine quietA (HBIT.out _) | refine quietB (HBIT.out _))))
            go_wp2_with fail
            go_roundg (gk - 1)
            case measure => have := HK.out; omega
            case rel => exact ⟨k + 1, _, _, by go_num, by have := HK.out; omega, Lib.hid (by rw [← HZ1.out, (HST.out hk7).1 HB.out]), rfl, Lib.hid HY'.out.symm, rfl⟩
          · go_wp2_with fail
            go_quiet ((go_at_call 69; (first | refine quietA (HBIT.out _) | refine quietB (HBIT.out _))))
            go_wp2_with fail
            go_roundg (gk - 1)
            case measure => have := HK.out; omega
            case rel => exact ⟨k + 1, _, _, by go_num, by have := HK.out; omega, Lib.hid (by rw [← HZ2.out, (HST.out hk7).2 HB.out]), rfl, Lib.hid HY'.out.symm, rfl⟩
      · rw [if_pos hV0] at hsucc
        subst hsucc
        have hVb : (y' != 0) = true := by simp [hV0]
        clear hV0
        by_cases h8 : k = 8
        · subst h8
          have e := HEND.out rfl
          subst e
          go_wp2_with fail
          go_ret
          exact ⟨rfl, q, rfl⟩
        · have hk7 : k < 8 := by omega
          have h8b : ((k : Int) == 8) = false := by simp; omega
          have k0 : (0 : Int) ≤ (k : Int) := by omega
          have hbit : ∀ W, Calls Tryz.prog 69 #[.int .i64 x, .int .i64 (k : Int)] W fun e w' => e = .returned (.int .i64 (bitI x k)) ∧ Drew W w' := fun W => (bitOf_any x k hx0 hx1 hk7 W).mono fun e w' ⟨h1, h2⟩ => ⟨h1, by rw [h2]; exact Drew.refl _⟩
          obtain ⟨B, hB⟩ : ∃ B, bitI x k = B := ⟨_, rfl⟩
          rw [hB] at hbit h01
          have HB := Lib.hid hB
          have HBIT := Lib.hid hbit
          clear hbit hB h8
          rcases h01 with rfl | rfl
          · go_wp2_with fail
            go_quiet ((go_at_call 69; (first | refine quietA (HBIT.out _) | refine quietB (HBIT.out _))))
            go_wp2_with fail
            go_roundg (gk - 1)
            case measure => have := HK.out; omega
            case rel => exact ⟨k + 1, _, _, by go_num, by have := HK.out; omega, Lib.hid (by rw [← HZ1.out, (HST.out hk7).1 HB.out]), rfl, Lib.hid HY'.out.symm, rfl⟩
          · go_wp2_with fail
            go_quiet ((go_at_call 69; (first | refine quietA (HBIT.out _) | refine quietB (HBIT.out _))))
            go_wp2_with fail
            go_roundg (gk - 1)
            case measure => have := HK.out; omega
            case rel => exact ⟨k + 1, _, _, by go_num, by have := HK.out; omega, Lib.hid (by rw [← HZ2.out, (HST.out hk7).2 HB.out]), rfl, Lib.hid HY'.out.symm, rfl⟩
end Go.Proofs.YtlpibfafpljedaaGreatDoor

namespace Go.Proofs.YtlpibfafpljedaaGreatDoor
open Go.RowKit
set_option linter.unusedVariables false

def updM (m : Nat → Int → Option Nat) (K : Nat) (P : Int) (nb : Nat) : Nat → Int → Option Nat := fun k p => if k = K ∧ p = P then some nb else m k p
def updV (v : Nat → Int → Int) (e : Ent) : Nat → Int → Int := fun k p => if e.2.1 = (k : Int) ∧ e.1 / sizeF e.2.1 = p then e.2.2 else v k p
theorem vF_upd (l : List Ent) (e : Ent) : vF (l ++ [e]) = updV (vF l) e := by
  funext k p; rw [vF_snoc]; rfl
theorem set3 {W : World} {b i : Nat} {x y z u : Value} {T : TypeId} (h : W.heap[b]? = some (.cells #[x, y, z] T (0, 0))) : (W.setCell ⟨b, i, none⟩ u).heap[b]? = some (.cells (#[x, y, z].setIfInBounds i u) T (0, 0)) := by
  obtain ⟨hlt, hk⟩ := Array.getElem?_eq_some_iff.1 h
  show (W.heap.modify b _)[b]? = _
  rw [Array.getElem?_eq_getElem (by rw [Array.size_modify]; exact hlt), Array.getElem_modify_self, hk]
  rfl
theorem IsTrie.grow {W : World} {lo : Nat} {m : Nat → Int → Option Nat} {v : Nat → Int → Int} (h : IsTrie W lo m v) {k b : Nat} {p c : Int} (hb : m k p = some b) (hc : c = 0 ∨ c = 1) (hn : m (k + 1) (2 * p + c) = none) (hlo : lo ≤ W.heap.size) :
    IsTrie ((W.alloc (.cells #[.int .i64 0, .pointer none, .pointer none] 109)).setCell ⟨b, 1 + c.toNat, none⟩ (.pointer (some ⟨W.heap.size, 0, none⟩))) lo (updM m (k + 1) (2 * p + c) W.heap.size) v := by
  obtain ⟨hblo, hnode⟩ := h.node k p b hb
  have hbl := (Array.getElem?_eq_some_iff.1 hnode).1
  have hnew : ∀ q, (q = 0 ∨ q = 1) → m (k + 1 + 1) (2 * (2 * p + c) + q) = none := fun q hq => h.shut (k + 1) (2 * p + c) q hq hn
  refine ⟨fun k' p' b' hm => ?_, fun k1 p1 k2 p2 b' h1 h2 => ?_, fun k' p' hm => ?_, fun k' p' c' hc' hm => ?_⟩
  · unfold updM at hm
    by_cases hk : k' = k + 1 ∧ p' = 2 * p + c
    · rw [if_pos hk] at hm
      simp only [Option.some.injEq] at hm
      subst hm
      obtain ⟨rfl, rfl⟩ := hk
      refine ⟨hlo, ?_⟩
      rw [Below.heap_setCell _ _ _ _ (by simp; omega)]
      rw [show (W.alloc (.cells #[.int .i64 0, .pointer none, .pointer none] 109)).heap[W.heap.size]? = some (.cells #[.int .i64 0, .pointer none, .pointer none] 109 (0, 0)) from heap_alloc_new W _]
      have e1 : updM m (k + 1) (2 * p + c) W.heap.size (k + 1 + 1) (2 * (2 * p + c)) = none := by
        unfold updM; rw [if_neg (by omega)]; have := hnew 0 (.inl rfl); simpa using this
      have e2 : updM m (k + 1) (2 * p + c) W.heap.size (k + 1 + 1) (2 * (2 * p + c) + 1) = none := by
        unfold updM; rw [if_neg (by omega)]; exact hnew 1 (.inr rfl)
      rw [e1, e2, h.zero _ _ hn]; rfl
    · rw [if_neg hk] at hm
      obtain ⟨hlo', hnode'⟩ := h.node k' p' b' hm
      have hb'l := (Array.getElem?_eq_some_iff.1 hnode').1
      refine ⟨hlo', ?_⟩
      by_cases hbb : b' = b
      · subst hbb
        obtain ⟨rfl, rfl⟩ := h.inj _ _ _ _ _ hm hb
        rw [set3 ((Below.heap_alloc W _ b' hb'l).trans hnode')]
        rcases hc with rfl | rfl
        · have e1 : updM m (k' + 1) (2 * p' + 0) W.heap.size (k' + 1) (2 * p') = some W.heap.size := by unfold updM; rw [if_pos (by omega)]
          have e2 : updM m (k' + 1) (2 * p' + 0) W.heap.size (k' + 1) (2 * p' + 1) = m (k' + 1) (2 * p' + 1) := by unfold updM; rw [if_neg (by omega)]
          rw [e1, e2]; rfl
        · have e1 : updM m (k' + 1) (2 * p' + 1) W.heap.size (k' + 1) (2 * p' + 1) = some W.heap.size := by unfold updM; rw [if_pos (by omega)]
          have e2 : updM m (k' + 1) (2 * p' + 1) W.heap.size (k' + 1) (2 * p') = m (k' + 1) (2 * p') := by unfold updM; rw [if_neg (by omega)]
          rw [e1, e2]; rfl
      · rw [Below.heap_setCell _ _ _ _ (by simpa using hbb), Below.heap_alloc W _ b' hb'l, hnode']
        have hne : ∀ q, (q = 0 ∨ q = 1) → updM m (k + 1) (2 * p + c) W.heap.size (k' + 1) (2 * p' + q) = m (k' + 1) (2 * p' + q) := fun q hq => by
          unfold updM
          rw [if_neg]
          rintro ⟨e1, e2⟩
          obtain rfl : k' = k := by omega
          have : p' = p := by omega
          subst this
          rw [hm] at hb
          simp only [Option.some.injEq] at hb
          exact hbb hb
        have e1 := hne 0 (.inl rfl)
        have e2 := hne 1 (.inr rfl)
        rw [Int.add_zero] at e1
        rw [e1, e2]
  · unfold updM at h1 h2
    by_cases hk1 : k1 = k + 1 ∧ p1 = 2 * p + c
    · by_cases hk2 : k2 = k + 1 ∧ p2 = 2 * p + c
      · exact ⟨hk1.1.trans hk2.1.symm, hk1.2.trans hk2.2.symm⟩
      · rw [if_pos hk1] at h1
        rw [if_neg hk2] at h2
        simp only [Option.some.injEq] at h1
        have := (Array.getElem?_eq_some_iff.1 (h.node _ _ _ h2).2).1
        omega
    · by_cases hk2 : k2 = k + 1 ∧ p2 = 2 * p + c
      · rw [if_neg hk1] at h1
        rw [if_pos hk2] at h2
        simp only [Option.some.injEq] at h2
        have := (Array.getElem?_eq_some_iff.1 (h.node _ _ _ h1).2).1
        omega
      · rw [if_neg hk1] at h1
        rw [if_neg hk2] at h2
        exact h.inj _ _ _ _ _ h1 h2
  · unfold updM at hm
    by_cases hk : k' = k + 1 ∧ p' = 2 * p + c
    · rw [if_pos hk] at hm; cases hm
    · rw [if_neg hk] at hm; exact h.zero _ _ hm
  · unfold updM at hm ⊢
    by_cases hk : k' = k + 1 ∧ p' = 2 * p + c
    · rw [if_pos hk] at hm; cases hm
    · rw [if_neg hk] at hm
      rw [if_neg]
      · exact h.shut _ _ _ hc' hm
      · rintro ⟨e1, e2⟩
        obtain rfl : k' = k := by omega
        have : p' = p := by omega
        subst this
        rw [hm] at hb; cases hb
theorem IsTrie.setVia {W : World} {lo : Nat} {m : Nat → Int → Option Nat} {v : Nat → Int → Int} (h : IsTrie W lo m v) {b : Nat} {e : Ent} {K : Nat} (hK : e.2.1 = (K : Int)) (hb : m K (e.1 / sizeF e.2.1) = some b) :
    IsTrie (W.setCell ⟨b, 0, none⟩ (.int .i64 e.2.2)) lo m (updV v e) := by
  refine ⟨fun k' p' b' hm => ?_, h.inj, fun k' p' hm => ?_, h.shut⟩
  · obtain ⟨hlo', hnode'⟩ := h.node k' p' b' hm
    refine ⟨hlo', ?_⟩
    by_cases hbb : b' = b
    · subst hbb
      obtain ⟨rfl, rfl⟩ := h.inj _ _ _ _ _ hm hb
      rw [set3 hnode']
      have e1 : updV v e k' (e.1 / sizeF e.2.1) = e.2.2 := by unfold updV; rw [if_pos ⟨hK, rfl⟩]
      rw [e1]; rfl
    · rw [Below.heap_setCell _ _ _ _ (by simpa using hbb), hnode']
      have e1 : updV v e k' p' = v k' p' := by
        unfold updV
        rw [if_neg]
        rintro ⟨e1, e2⟩
        obtain rfl : k' = K := by omega
        rw [← e2, hb] at hm
        simp only [Option.some.injEq] at hm
        exact hbb hm.symm
      rw [e1]
  · unfold updV
    rw [if_neg]
    · exact h.zero _ _ hm
    · rintro ⟨e1, e2⟩
      obtain rfl : k' = K := by omega
      rw [← e2, hb] at hm; cases hm
end Go.Proofs.YtlpibfafpljedaaGreatDoor
