/- A part of the proof; packed by a program of mine out of my texts. -/
import Derived.Test.YtnecdeaikmhanaaGreatDoorPE0
import Derived.Test.YtnecdeaikmhanaaGreatDoorPE1
import Derived.Test.YtnecdeaikmhanaaGreatDoorPE2
import Derived.Test.YtnecdeaikmhanaaGreatDoorPE3
import Derived.Test.YtnecdeaikmhanaaGreatDoorPE4
import Derived.Test.YtnecdeaikmhanaaGreatDoorPE5
import Derived.Test.YtnecdeaikmhanaaGreatDoorPE6
import Derived.Test.YtnecdeaikmhanaaGreatDoorPE7
import Derived.Test.YtnecdeaikmhanaaGreatDoorPE8
import Derived.Test.YtnecdeaikmhanaaGreatDoorPE9
import Derived.Test.YtnecdeaikmhanaaGreatDoorPE10
import Derived.Test.YtnecdeaikmhanaaGreatDoorPE12
import Derived.Test.YtnecdeaikmhanaaGreatDoorPE13
import Derived.Lib.ItoaWalk
import Derived.Lib.AtoiAllCases
import Derived.Lib.LaidTab
namespace Go.Proofs.YtnecdeaikmhanaaGreatDoor
open Go.RowKit
set_option linter.unusedVariables false
set_option maxRecDepth 100000
def StrNew (w : World) (lo : Nat) (v : Value) (ss : List Bs) : Prop := w.ownsRow lo 9 1 v ss.length (ss.map stV)
theorem StrNew.below {w w' : World} {lo : Nat} {v : Value} {ss : List Bs} (h : StrNew w lo v ss) (hb : Below w.heap.size w w') : StrNew w' lo v ss := owns_belowR h hb
theorem StrNew.form {w : World} {lo : Nat} {v : Value} {ss : List Bs} (h : StrNew w lo v ss) : ∃ a cap, v = .slice a ss.length cap ∧ ss.length ≤ cap ∧ cap ≤ 9223372036854775807 := owns_form h
theorem StrNew.strs {w : World} {lo : Nat} {v : Value} {ss : List Bs} (h : StrNew w lo v ss) : StrsAt w v ss := by
  have h2 := h
  rcases h2.2 with ⟨rfl, h'⟩ | ⟨g, cap, cur, rfl, hb, hg, hnc, hcm, hcs, htake⟩
  · exact ⟨none, 0, by rw [h'], by omega, Nat.zero_le _, .inl h'⟩
  · refine ⟨_, cap, rfl, hnc, hcm, .inr ⟨g, 0, rfl, heap_lt hg, fun i hi => ?_⟩⟩
    rw [Nat.zero_add, h2.cellAt i (by simpa using hi)]
    simp [List.getD_eq_getElem?_getD, hi]
theorem StrNew.get {w : World} {lo n : Nat} {v : Value} {ss : List Bs} (h : StrNew w lo v ss) (hn : ss.length = n) (i : Nat) (hi : i < n) :
    ∃ g cap, v = .slice (some ⟨g, 0, none⟩) n cap ∧ lo ≤ g ∧ g < w.heap.size ∧ w.cell? ⟨g, i, none⟩ = some (stV (ss.getD i [])) ∧ w.frozen? ⟨g, i, none⟩ = false := by
  have h2 := h
  subst hn
  rcases h2.2 with ⟨rfl, h'⟩ | ⟨g, cap, cur, rfl, hb, hg, hnc, hcm, hcs, htake⟩
  · omega
  · refine ⟨g, cap, rfl, hb, heap_lt hg, ?_, h2.frozenAt i⟩
    rw [h2.cellAt i (by simpa using hi)]
    simp [List.getD_eq_getElem?_getD, hi]
theorem StrNew.set {w : World} {lo n g cap : Nat} {ss : List Bs} (h : StrNew w lo (.slice (some ⟨g, 0, none⟩) n cap) ss) (hn : ss.length = n) (j : Nat) (hj : j < n) (s : Bs) :
    StrNew (w.setCell ⟨g, j, none⟩ (stV s)) lo (.slice (some ⟨g, 0, none⟩) n cap) (ss.set j s) := by
  have h2 := h
  subst hn
  obtain ⟨s1, s2⟩ := h2.stored j (stV s)
  unfold StrNew
  rw [List.length_set, List.map_set]
  exact s1
structure Within (lo hi : Nat) (w w' : World) : Prop where
  os : w'.os = w.os
  tape : w'.tape = w.tape
  output : w'.output = w.output
  size : w.heap.size ≤ w'.heap.size
  block : ∀ b, b < w.heap.size → (b < lo ∨ hi ≤ b) → w'.heap[b]? = w.heap[b]?
theorem Within.refl (lo hi : Nat) (w : World) : Within lo hi w w := ⟨rfl, rfl, rfl, Nat.le_refl _, fun _ _ _ => rfl⟩
theorem Within.trans {lo hi : Nat} {a b c : World} (h : Within lo hi a b) (g : Within lo hi b c) : Within lo hi a c :=
  ⟨g.os.trans h.os, g.tape.trans h.tape, g.output.trans h.output, Nat.le_trans h.size g.size, fun i hi hk => (g.block i (by have := h.size; omega) hk).trans (h.block i hi hk)⟩
theorem Within.of_below {lo hi : Nat} {w w' : World} (h : Below w.heap.size w w') : Within lo hi w w' := ⟨h.os, h.tape, h.output, h.size, fun i hi _ => h.block i hi⟩
theorem Within.below {lo hi B : Nat} {w w' : World} (h : Within lo hi w w') (hB : B ≤ lo) (hs : B ≤ w.heap.size) : Below B w w' :=
  ⟨h.os, h.tape, h.output, h.size, fun i hi => h.block i (by omega) (by omega)⟩
theorem Within.setCell {lo hi : Nat} {a w : World} (h : Within lo hi a w) {p : Addr} (h1 : lo ≤ p.block) (h2 : p.block < hi) (u : Value) : Within lo hi a (w.setCell p u) :=
  h.trans ⟨rfl, rfl, rfl, by simp [World.setCell], fun i hi hk => Below.heap_setCell _ _ _ _ (by omega)⟩
theorem Within.cell {lo hi : Nat} {w w' : World} (h : Within lo hi w w') {p : Addr} (hp : p.block < w.heap.size) (hk : p.block < lo ∨ hi ≤ p.block) : w'.cell? p = w.cell? p :=
  World.cell?_of_block (w := w) (h.block p.block hp hk)
theorem info_str : (Tryz.prog.info? 9).map (fun i => (i.zero, i.size, i.bytes)) = some (some (.string ByteArray.empty), 1, 16) := by kernel_rfl
variable {W : World}
theorem lit_str (W : World) (u : Value) (T : TypeId) : SliceAt (W.alloc (.cells #[u] T)) (.slice (some ⟨W.heap.size, 0, none⟩) 1 1) 1 (fun _ => u) :=
  ⟨_, 1, rfl, Nat.le_refl _, by unfold maxLen; omega, .inr ⟨W.heap.size, 0, rfl, by simp, fun i hi => by
    obtain rfl : i = 0 := by omega
    simp⟩⟩
theorem wpList_append_str {ops : Array Oper} {rest : List Oper} {o : Oper} {a : Act} {Q : Exit → Act → World → Prop} (hgd : o.guard = none) (s x : Operand)
    (ho : o.op = .call { callee := .builtin .append, args := #[s, x], argTypes := #[38, 38] })
    (B : Nat) (v : Value) (t : Bs) (ss : List Bs) (N : Nat) (hN : ss.length = N) (hs : a.eval s = v) (hO : StrNew W B v ss) (hB : B ≤ W.heap.size) (g : Nat) (hx : a.eval x = .slice (some ⟨g, 0, none⟩) 1 1) (hgW : g = W.heap.size) (hlen : N ≤ 1000000)
    (h : ∀ ad c w', StrNew w' B (.slice ad (N + 1) c) (ss ++ [t]) → Below B W w' → w'.heap.size ≥ W.heap.size → wpList Tryz.prog ops Q rest (a.put o.dst (.slice ad (N + 1) c)) w') : wpList Tryz.prog ops Q (o :: rest) a (W.alloc (.cells #[stV t] 9)) := by
  obtain ⟨i2, hi2, hy0, hy1, hy2⟩ := info_parts info_str
  subst hN
  subst hgW
  have hA := Below.alloc (Below.refl W.heap.size W) (Nat.le_refl _) (.cells #[stV t] 9)
  refine wpList_append_src hgd s x 38 ho B 9 i2 (.string ByteArray.empty) 16 Tryz.underlying38 hi2 hy0 hy1 hy2 rfl v ss.length (ss.map stV) hs (owns_belowR hO hA) (.slice (some ⟨W.heap.size, 0, none⟩) 1 1) 1 (fun _ => stV t) hx (lit_str W (stV t) 9) (fun j hj => rfl) (by unfold maxLen; omega) (by omega) (by simp; omega) ?_
  intro v' w' hown hgrow
  have hR : StrNew w' B v' (ss ++ [t]) := by
    unfold StrNew
    rw [List.map_append, List.length_append]
    exact hown
  obtain ⟨ad, c, rfl, _, _⟩ := hR.form
  rw [List.length_append] at hR ⊢
  exact h ad c w' hR (Below.grown (Below.alloc (Below.refl _ _) hB _) hgrow (by simp; omega) (fun g hg => (World.ownsRow.lt hO g hg).1)) (by have := hgrow.size; simp at this; omega)
theorem join_any (v : Value) (ss : List Bs) (sep : Bs) (w : World) (h : StrsAt w v ss) (hl : (Lib.join ss sep).length ≤ 1000000) (hn : ss.length ≤ 1000000) :
    Calls Tryz.prog 65 #[v, stV sep] w fun e w' => e = .returned (stV (Lib.join ss sep)) ∧ Below w.heap.size w w' := by
  obtain ⟨a, cap, rfl, hc, hm⟩ := h.form
  cases hss : ss with
  | nil =>
    subst hss
    refine (Go.Proofs.Tryz.strings_Join_none a cap ⟨sep.toArray⟩ w).mono ?_
    rintro e w' ⟨rfl, rfl⟩
    exact ⟨rfl, Below.refl _ _⟩
  | cons x t =>
    obtain ⟨b, off, rfl, hb, _⟩ := h.get 0 (by rw [hss]; simp)
    rw [← hss]
    have hmap : (ss.map fun s => (⟨s.toArray⟩ : ByteArray)).map (·.data.toList) = ss := by rw [List.map_map]; simp [Function.comp_def]
    have := Go.Proofs.Tryz.strings_Join b off cap (ss.map fun s => (⟨s.toArray⟩ : ByteArray)) ⟨sep.toArray⟩ w (fun j x hx => by
      rw [List.getElem?_map] at hx
      cases hj : ss[j]? with
      | none => rw [hj] at hx; cases hx
      | some s =>
        rw [hj] at hx
        simp only [Option.map_some, Option.some.injEq] at hx
        subst hx
        have hlt : j < ss.length := (List.getElem?_eq_some_iff.1 hj).1
        obtain ⟨b', off', e, _, hx⟩ := h.get j hlt
        simp only [Option.some.injEq, Addr.mk.injEq] at e
        obtain ⟨rfl, rfl, _⟩ := e
        rw [hx, List.getD_eq_getElem?_getD, hj]; rfl) hb (by simp; omega) (by simpa using hc) (by rw [hmap]; simp; omega)
    rw [hmap, List.length_map] at this
    exact this
theorem itoa_small (n : Nat) (h : n < 100) (w : World) : Calls Tryz.prog 21 #[.int .i64 (n : Int)] w fun e w' => e = .returned (stV (decF n)) ∧ w = w' := by
  refine (Go.Proofs.Tryz.strconv_Itoa_small n h w).mono ?_
  rintro e w' ⟨rfl, rfl⟩
  exact ⟨by rw [decDigits_dec (by omega)], rfl⟩
end Go.Proofs.YtnecdeaikmhanaaGreatDoor
namespace Go.Proofs.YtnecdeaikmhanaaGreatDoor
open Go.RowKit
set_option linter.unusedVariables false
theorem owns_self {w w' : World} {lo n size : Nat} {T : TypeId} {v : Value} {us : List Value} (h : w.ownsRow lo T size v n us) (hb : ∀ g, v.ownBlock = some g → w'.heap[g]? = w.heap[g]?) : w'.ownsRow lo T size v n us := by
  refine ⟨h.1, ?_⟩
  rcases h.2 with h | ⟨g, cap, cur, rfl, hb', hg, hr⟩
  · exact .inl h
  · exact .inr ⟨g, cap, cur, rfl, hb', by rw [hb g rfl]; exact hg, hr⟩
def MatB (w : World) (lo hi : Nat) (v : Value) (ll : List (List Int)) : Prop :=
  ∃ vs, vs.length = ll.length ∧ w.ownsRow lo 37 1 v ll.length vs ∧ (∀ i, i < ll.length → OwnInts w lo (vs.getD i undef) (ll.getD i [])) ∧
    (∀ g, v.ownBlock = some g → g < hi) ∧ (∀ i b, i < ll.length → (vs.getD i undef).ownBlock = some b → b < hi) ∧
    (∀ i j b c, i < j → j < ll.length → (vs.getD i undef).ownBlock = some b → (vs.getD j undef).ownBlock = some c → b < c)
theorem MatB.rowsL {w : World} {lo hi : Nat} {v : Value} {ll : List (List Int)} (h : MatB w lo hi v ll) : RowsL w lo v ll := by
  obtain ⟨vs, h1, h2, h3, _⟩ := h; exact ⟨vs, h1, h2, h3⟩
theorem MatB.rows {w : World} {lo hi : Nat} {v : Value} {ll : List (List Int)} (h : MatB w lo hi v ll) : RowsAt w v ll := h.rowsL.rows
theorem MatB.form {w : World} {lo hi : Nat} {v : Value} {ll : List (List Int)} (h : MatB w lo hi v ll) : ∃ a cap, v = .slice a ll.length cap ∧ ll.length ≤ cap ∧ cap ≤ 9223372036854775807 := h.rowsL.form
theorem MatB.below {w w' : World} {lo hi : Nat} {v : Value} {ll : List (List Int)} (h : MatB w lo hi v ll) (hb : Below w.heap.size w w') : MatB w' lo hi v ll := by
  obtain ⟨vs, h1, h2, h3, h4⟩ := h
  exact ⟨vs, h1, owns_belowR h2 hb, fun i hi => (h3 i hi).below hb, h4⟩
theorem MatB.up {w : World} {lo hi hi' : Nat} {v : Value} {ll : List (List Int)} (h : MatB w lo hi v ll) (hl : hi ≤ hi') : MatB w lo hi' v ll := by
  obtain ⟨vs, h1, h2, h3, h4, h5, h6⟩ := h
  exact ⟨vs, h1, h2, h3, fun g e => Nat.lt_of_lt_of_le (h4 g e) hl, fun i b hi e => Nat.lt_of_lt_of_le (h5 i b hi e) hl, h6⟩
theorem MatB.other {w w' : World} {lo hi : Nat} {v : Value} {ll : List (List Int)} (h : MatB w lo hi v ll) (hb : ∀ g cur T, w.heap[g]? = some (.cells cur T (0, 0)) → (T = 37 ∨ T = 3) → lo ≤ g → g < hi → w'.heap[g]? = w.heap[g]?) : MatB w' lo hi v ll := by
  obtain ⟨vs, h1, h2, h3, h4, h5, h6⟩ := h
  have key : ∀ (T : TypeId) (u : Value) (n : Nat) (us : List Value), (T = 37 ∨ T = 3) → w.ownsRow lo T 1 u n us → (∀ g, u.ownBlock = some g → g < hi) → w'.ownsRow lo T 1 u n us := by
    intro T u n us hT ho hlt
    refine ⟨ho.1, ?_⟩
    rcases ho.2 with h | ⟨g, cap, cur, rfl, hb', hg, hr⟩
    · exact .inl h
    · exact .inr ⟨g, cap, cur, rfl, hb', by rw [hb g cur T hg hT hb' (hlt g rfl)]; exact hg, hr⟩
  exact ⟨vs, h1, key _ _ _ _ (.inl rfl) h2 h4, fun i hi => key _ _ _ _ (.inr rfl) (h3 i hi) (fun g e => h5 i g hi e), h4, h5, h6⟩
theorem MatB.zero (w : World) : MatB (w.alloc (.cells #[] 37)) w.heap.size (w.heap.size + 1) (.slice (some ⟨w.heap.size, 0, none⟩) 0 0) [] :=
  ⟨[], rfl, World.ownsRow_lit (base := w.heap.size) (e := 37) (size := 1) w #[] 0 (Nat.le_refl _) (by simp [maxLen]) rfl, fun i hi => by simp at hi, fun g e => by simp [Value.ownBlock] at e; omega, fun i b hi => by simp at hi, fun i j b c _ hi => by simp at hi⟩
theorem MatB.nil (w : World) (lo hi : Nat) : MatB w lo hi (.slice none 0 0) [] :=
  ⟨[], rfl, World.ownsRow_nil _ _ _ _, fun i hi => by simp at hi, fun g e => by simp [Value.ownBlock] at e, fun i b hi => by simp at hi, fun i j b c _ hi => by simp at hi⟩
theorem getD_snoc_lt {α : Type} {vs : List α} {u d : α} {i : Nat} (h : i < vs.length) : (vs ++ [u]).getD i d = vs.getD i d := by simp only [List.getD_eq_getElem?_getD]; rw [List.getElem?_append_left h]
theorem getD_snoc_eq {α : Type} {vs : List α} {u d : α} {i : Nat} (h : i = vs.length) : (vs ++ [u]).getD i d = u := by subst h; simp [List.getD_eq_getElem?_getD]
theorem MatB.push {w w' : World} {lo m : Nat} {v v' u : Value} {ll : List (List Int)} {l : List Int} {vs : List Value} (h1 : vs.length = ll.length) (hm : ll.length = m) (h2 : w.ownsRow lo 37 1 v m vs) (h3 : ∀ i, i < m → OwnInts w lo (vs.getD i undef) (ll.getD i [])) (hu : OwnInts w lo u l)
    (h6 : ∀ i j b c, i < j → j < m → (vs.getD i undef).ownBlock = some b → (vs.getD j undef).ownBlock = some c → b < c) (hnew : ∀ i b c, i < m → (vs.getD i undef).ownBlock = some b → u.ownBlock = some c → b < c)
    (hg : w.grownBy w' v.ownBlock) (hown : w'.ownsRow lo 37 1 v' (m + 1) (vs ++ [u])) : MatB w' lo w'.heap.size v' (ll ++ [l]) := by
  have e0 : (ll ++ [l]).length = m + 1 := by simp [hm]
  have hv : ∀ i, i < m → (vs ++ [u]).getD i undef = vs.getD i undef := fun i hi => getD_snoc_lt (by omega)
  have hvm : (vs ++ [u]).getD m undef = u := getD_snoc_eq (by omega)
  have hO : ∀ i, i < m + 1 → OwnInts w' lo ((vs ++ [u]).getD i undef) ((ll ++ [l]).getD i []) := by
    intro i hi
    by_cases him : i < m
    · rw [hv i him, getD_snoc_lt (by omega)]; exact (h3 i him).grown h2 hg
    · obtain rfl : i = m := by omega
      rw [hvm, getD_snoc_eq (by omega)]; exact hu.grown h2 hg
  refine ⟨vs ++ [u], by simp [h1], by rw [e0]; exact hown, fun i hi => hO i (by omega), fun g e => (World.ownsRow.lt hown g e).2, fun i b hi e => (World.ownsRow.lt (hO i (by omega)) b e).2, fun i j b c hij hj hb hc => ?_⟩
  rw [hv i (by omega)] at hb
  by_cases hjm : j < m
  · rw [hv j hjm] at hc; exact h6 i j b c hij hjm hb hc
  · obtain rfl : j = m := by omega
    rw [hvm] at hc
    exact hnew i b c (by omega) hb hc
variable {W : World}
theorem wpList_append_mat {ops : Array Oper} {rest : List Oper} {o : Oper} {a : Act} {Q : Exit → Act → World → Prop} (hgd : o.guard = none) (s x : Operand)
    (ho : o.op = .call { callee := .builtin .append, args := #[s, x], argTypes := #[33, 33] })
    (B : Nat) (v u : Value) (ll : List (List Int)) (l : List Int) (N hi C : Nat) (hN : ll.length = N) (hs : a.eval s = v) (hO : MatB W B hi v ll) (hB : B ≤ W.heap.size) (g : Nat) (hx : a.eval x = .slice (some ⟨g, 0, none⟩) 1 1) (hgW : g = W.heap.size) (hu : OwnInts W C u l) (hC : hi ≤ C) (hBC : B ≤ C) (hu1 : ∃ ad n c, u = .slice ad n c) (hlen : N ≤ 1000000)
    (h : ∀ ad c w', MatB w' B w'.heap.size (.slice ad (N + 1) c) (ll ++ [l]) → Below B W w' → w'.heap.size ≥ W.heap.size → wpList Tryz.prog ops Q rest (a.put o.dst (.slice ad (N + 1) c)) w') : wpList Tryz.prog ops Q (o :: rest) a (W.alloc (.cells #[u] 37)) := by
  obtain ⟨i2, hi2, hy0, hy1, hy2⟩ := info_parts info_r2
  subst hN
  subst hgW
  obtain ⟨vs, h1, h2, h3, h4, h5, h6⟩ := hO
  have hA := Below.alloc (Below.refl W.heap.size W) (Nat.le_refl _) (.cells #[u] 37)
  refine wpList_append_src hgd s x 33 ho B 37 i2 (.slice none 0 0) 24 Tryz.underlying33 hi2 hy0 hy1 hy2 rfl v ll.length vs hs (owns_belowR h2 hA) (.slice (some ⟨W.heap.size, 0, none⟩) 1 1) 1 (fun _ => u) hx (lit_any W u 37) (fun j hj => by obtain ⟨ad, n, c, rfl⟩ := hu1; rfl) (by unfold maxLen; omega) (by omega) (by simp; omega) ?_
  intro v' w' hown hgrow
  have hR := MatB.push h1 rfl (owns_belowR h2 hA) (fun i hi => (h3 i hi).below hA) ((hu.lift hBC).below hA) h6 (fun i b c hi hb hc => by have := h5 i b hi hb; have := (World.ownsRow.lt hu c hc).1; omega) hgrow hown
  obtain ⟨ad, c, rfl, _, _⟩ := hR.form
  rw [List.length_append] at hR ⊢
  exact h ad c w' hR (Below.grown (Below.alloc (Below.refl _ _) hB _) hgrow (by simp; omega) (fun g hg => (World.ownsRow.lt h2 g hg).1)) (by have := hgrow.size; simp at this; omega)
theorem map_at {L : List Int} {j : Nat} (hj : j < L.length) : (L.map (Value.int .i64))[j]? = some (.int .i64 (L.getD j 0)) := by
  rw [List.getElem?_map, List.getElem?_eq_getElem hj, List.getD_eq_getElem?_getD, List.getElem?_eq_getElem hj]; rfl
theorem MatB.at {w : World} {lo hi n : Nat} {a : Option Addr} {cap : Nat} {ll : List (List Int)} (h : MatB w lo hi (.slice a n cap) ll) (hn : ll.length = n) (i j : Nat) (hi' : i < n) (hj : j < (ll.getD i []).length) :
    ∃ g b c, a = some ⟨g, 0, none⟩ ∧ lo ≤ g ∧ g < hi ∧ w.cell? ⟨g, i, none⟩ = some (.slice (some ⟨b, 0, none⟩) (ll.getD i []).length c) ∧ (ll.getD i []).length ≤ c ∧ c ≤ 9223372036854775807 ∧ lo ≤ b ∧ b < hi ∧ (∃ y, w.cell? ⟨b, j, none⟩ = some (.int .i64 y)) ∧ w.frozen? ⟨b, j, none⟩ = false ∧ (∃ cu, w.heap[b]? = some (.cells cu 3 (0, 0))) ∧ (∃ cu, w.heap[g]? = some (.cells cu 37 (0, 0))) ∧
      ∀ x : Int, MatB (w.setCell ⟨b, j, none⟩ (.int .i64 x)) lo hi (.slice a n cap) (relSet ll i j x) := by
  have hmat := h
  obtain ⟨g, cp, u, e, g1, g2, g3, g4, g5⟩ := h.rowsL.get hn i hi'
  simp only [Value.slice.injEq] at e
  obtain ⟨rfl, _, rfl⟩ := e
  obtain ⟨vs, h1, h2, h3, h4, h5, h6⟩ := h
  subst hn
  have hu : vs.getD i undef = u := by
    have := h2.cellAt i (by omega)
    rw [g3] at this
    have e2 : vs[i]? = some u := this.symm
    rw [List.getD_eq_getElem?_getD, e2]; rfl
  have g5' := g5
  rcases g5.2 with ⟨rfl, h'⟩ | ⟨b, c, cur, rfl, hb, hg, hnc, hcm, hcs, htake⟩
  · omega
  have hbhi : b < hi := h5 i b hi' (by rw [hu]; rfl)
  refine ⟨g, b, c, rfl, g1, h4 g rfl, g3, hnc, hcm, hb, hbhi, ⟨(ll.getD i []).getD j 0, ?_⟩, g5.frozenAt j, ⟨cur, hg⟩, owns_introw h2 rfl, fun x => ?_⟩
  · rw [g5.cellAt j (by simpa using hj)]
    exact map_at hj
  · obtain ⟨s1, s2⟩ := g5'.stored j (.int .i64 x)
    have hoth : ∀ k, k ≠ b → (w.setCell ⟨b, j, none⟩ (.int .i64 x)).heap[k]? = w.heap[k]? := fun k hk => Below.heap_setCell _ _ _ _ (by intro e; first | exact hk e | exact hk e.symm)
    have hE : (relSet ll i j x).length = ll.length := by simp [relSet]
    have hgb : g ≠ b := by
      intro e
      obtain ⟨cu, hc⟩ := owns_introw h2 rfl
      subst e
      rw [hg] at hc
      simp at hc
    refine ⟨vs, by rw [hE]; exact h1, by rw [hE]; exact owns_blk h2 (fun k cu hk hc => hoth k (by
      intro e; subst e
      rw [hg] at hc
      simp at hc)), fun k hk => ?_, h4, fun k b' hk => h5 k b' (by omega), fun k l b' c' hkl hl => h6 k l b' c' hkl (by omega)⟩
    rw [hE] at hk
    have e : (relSet ll i j x).getD k [] = if k = i then (ll.getD i []).set j x else ll.getD k [] := by
      unfold relSet
      by_cases h : k = i
      · subst h; simp [hk]
      · rw [if_neg h]; simp [Ne.symm h]
    rw [e]
    by_cases hki : k = i
    · subst hki
      rw [if_pos rfl, hu]
      unfold OwnInts
      rw [List.length_set, List.map_set]
      exact s1
    · rw [if_neg hki]
      refine owns_self (h3 k hk) (fun q hq => hoth q ?_)
      rintro rfl
      rcases Nat.lt_or_ge k i with hlt | hge
      · exact absurd (h6 k i q q hlt hi' hq (by rw [hu]; rfl)) (Nat.lt_irrefl _)
      · exact absurd (h6 i k q q (by omega) hk (by rw [hu]; rfl) hq) (Nat.lt_irrefl _)
theorem MatB.apart {w : World} {lo hi n g : Nat} {cap : Nat} {ll : List (List Int)} (h : MatB w lo hi (.slice (some ⟨g, 0, none⟩) n cap) ll) (hn : ll.length = n) {i j : Nat} (hi' : i < n) (hj : j < n) (hij : i ≠ j) {b1 b2 : Addr} {n1 c1 n2 c2 : Nat}
    (h1 : w.cell? ⟨g, i, none⟩ = some (.slice (some b1) n1 c1)) (h2 : w.cell? ⟨g, j, none⟩ = some (.slice (some b2) n2 c2)) : b1.block ≠ b2.block := by
  obtain ⟨vs, e1, e2, e3, e4, e5, e6⟩ := h
  subst hn
  have key : ∀ k, k < ll.length → ∀ v, w.cell? ⟨g, k, none⟩ = some v → vs.getD k undef = v := fun k hk v hv => by
    have := e2.cellAt k (by omega)
    rw [hv] at this
    have e : vs[k]? = some v := this.symm
    rw [List.getD_eq_getElem?_getD, e]; rfl
  have k1 := key i hi' _ h1
  have k2 := key j hj _ h2
  intro e
  rcases Nat.lt_or_ge i j with h | h
  · have := e6 i j b1.block b2.block h hj (by rw [k1]; rfl) (by rw [k2]; rfl); omega
  · have := e6 j i b2.block b1.block (by omega) hi' (by rw [k2]; rfl) (by rw [k1]; rfl); omega
theorem MatB.two {w : World} {lo hi : Nat} {v : Value} {ll : List (List Int)} (h : MatB w lo hi v ll) (hn : ll.length = 4) (hr : ∀ i, i < 4 → (ll.getD i []).length = 4) {i j : Nat} (hi' : i < 4) (hj : j < 4) (hij : i ≠ j) :
    ∃ g cap b1 c1 b2 c2, v = .slice (some ⟨g, 0, none⟩) 4 cap ∧ lo ≤ g ∧ g < hi ∧ w.cell? ⟨g, i, none⟩ = some (.slice (some ⟨b1, 0, none⟩) 4 c1) ∧ w.cell? ⟨g, j, none⟩ = some (.slice (some ⟨b2, 0, none⟩) 4 c2) ∧
      lo ≤ b1 ∧ b1 < hi ∧ lo ≤ b2 ∧ b2 < hi ∧ b1 ≠ b2 ∧ g ≠ b1 ∧ g ≠ b2 ∧ (∃ y, w.cell? ⟨b1, j, none⟩ = some (.int .i64 y)) ∧ w.frozen? ⟨b1, j, none⟩ = false ∧ (∃ y, w.cell? ⟨b2, i, none⟩ = some (.int .i64 y)) ∧ w.frozen? ⟨b2, i, none⟩ = false ∧
      (∃ cu, w.heap[b1]? = some (.cells cu 3 (0, 0))) ∧ (∃ cu, w.heap[b2]? = some (.cells cu 3 (0, 0))) ∧
      ∀ p q : Int, MatB ((w.setCell ⟨b1, j, none⟩ (.int .i64 p)).setCell ⟨b2, i, none⟩ (.int .i64 q)) lo hi v (relSet (relSet ll i j p) j i q) := by
  obtain ⟨a, cap, rfl, _, _⟩ := h.form
  rw [hn] at h ⊢
  obtain ⟨g, b1, c1, rfl, g1, g2, g3, g4, g5, g6, g7, g8, g9, g10, ⟨cg, g11⟩, g12⟩ := h.at hn i j hi' (by rw [hr i hi']; exact hj)
  obtain ⟨g', b2, c2, e, k1, k2, k3, k4, k5, k6, k7, k8, k9, k10, ⟨cg', k11⟩, k12⟩ := h.at hn j i hj (by rw [hr j hj]; exact hi')
  simp only [Option.some.injEq, Addr.mk.injEq] at e
  obtain ⟨rfl, _, _⟩ := e
  rw [hr i hi'] at g3
  rw [hr j hj] at k3
  have hb : b1 ≠ b2 := h.apart hn hi' hj hij g3 k3
  have t1 : g ≠ b1 := fun e => by
    obtain ⟨cu, hc⟩ := g10
    rw [← e, g11] at hc
    simp at hc
  have t2 : g ≠ b2 := fun e => by
    obtain ⟨cu, hc⟩ := k10
    rw [← e, g11] at hc
    simp at hc
  refine ⟨g, cap, b1, c1, b2, c2, rfl, g1, g2, g3, k3, g6, g7, k6, k7, hb, t1, t2, g8, g9, k8, k9, g10, k10, fun p q => ?_⟩
  have hm := g12 p
  have hlen : (relSet ll i j p).length = 4 := by unfold relSet; rw [List.length_set]; exact hn
  have hrl : ((relSet ll i j p).getD j []).length = 4 := by
    unfold relSet
    rw [List.getD_eq_getElem?_getD, List.getElem?_set_ne hij, ← List.getD_eq_getElem?_getD]
    exact hr j hj
  obtain ⟨g', b', c', e, _, _, m3, _, _, _, _, _, _, _, _, m12⟩ := hm.at hlen j i hj (by rw [hrl]; exact hi')
  simp only [Option.some.injEq, Addr.mk.injEq] at e
  obtain ⟨rfl, _, _⟩ := e
  rw [World.cell?_setCell_other _ _ _ _ (by first | (simp; done) | exact t1 | exact Ne.symm t1), k3, hrl] at m3
  simp only [Option.some.injEq, Value.slice.injEq, Addr.mk.injEq] at m3
  obtain ⟨⟨rfl, _⟩, _⟩ := m3
  exact m12 q
end Go.Proofs.YtnecdeaikmhanaaGreatDoor
namespace Go.Proofs.YtnecdeaikmhanaaGreatDoor
set_option linter.unusedVariables false
def joinL (ls : List Bs) : Bs := (ls.map (· ++ [10])).flatten
theorem joinL_cons (l : Bs) (t : List Bs) : joinL (l :: t) = l ++ 10 :: joinL t := by simp [joinL]
theorem joinL_append (a b : List Bs) : joinL (a ++ b) = joinL a ++ joinL b := by simp [joinL]
theorem cut_lines : ∀ {ls : List Bs}, (∀ l, l ∈ ls → (10 : UInt8) ∉ l) → cutR 10 (joinL ls) = ls ++ [[]]
  | [], _ => rfl
  | l :: t, h => by rw [joinL_cons, cutR_line (h l (List.mem_cons_self ..)), cut_lines (fun l' hl => h l' (List.mem_cons_of_mem _ hl))]; rfl
theorem linesF_join {ls : List Bs} (h : ∀ l, l ∈ ls → (10 : UInt8) ∉ l) (hl : (joinL ls).length ≤ 500) : linesF (joinL ls) = (runF ls).2 ++ decF (runF ls).1.homes.length ++ [10] := by
  unfold linesF
  rw [if_neg (by omega), cutC_R, cut_lines h, List.dropLast_concat]
def goF2 (x : LSt × Bs) (ls : List Bs) : LSt × Bs := ls.foldl lineStep x
theorem runF_append (a b : List Bs) : runF (a ++ b) = goF2 (runF a) b := by unfold runF goF2; rw [List.foldl_append]
theorem relAt_set {R : List (List Int)} {n i k i' k' : Nat} {x : Int} (hR : ∀ j, j < n → (R.getD j []).length = n) (hl : R.length = n) (hi : i < n) (hk : k < n) : relAt (relSet R i k x) i' k' = if i' = i ∧ k' = k then x else relAt R i' k' := by
  unfold relAt relSet
  by_cases h1 : i' = i
  · subst h1
    have e1 : (R.set i' ((R.getD i' []).set k x)).getD i' [] = (R.getD i' []).set k x := by simp [hl, hi]
    rw [e1]
    by_cases h2 : k' = k
    · subst h2
      rw [if_pos ⟨rfl, rfl⟩]
      have := hR i' hi
      rw [List.getD_eq_getElem?_getD, List.getElem?_set_self (by omega)]; rfl
    · rw [if_neg (fun h => h2 h.2), List.getD_eq_getElem?_getD, List.getElem?_set_ne (Ne.symm h2)]
      exact (List.getD_eq_getElem?_getD ..).symm
  · rw [if_neg (fun h => h1 h.1)]
    have e1 : (R.set i ((R.getD i []).set k x)).getD i' [] = R.getD i' [] := by rw [List.getD_eq_getElem?_getD, List.getElem?_set_ne (Ne.symm h1), List.getD_eq_getElem?_getD]
    rw [e1]
theorem relSet_len {R : List (List Int)} {n i k : Nat} {x : Int} (hR : ∀ j, j < n → (R.getD j []).length = n) (hl : R.length = n) (hi : i < n) : (relSet R i k x).length = n ∧ ∀ j, j < n → ((relSet R i k x).getD j []).length = n := by
  unfold relSet
  refine ⟨by rw [List.length_set]; exact hl, fun j hj => ?_⟩
  by_cases h1 : j = i
  · subst h1
    have e1 : (R.set j ((R.getD j []).set k x)).getD j [] = (R.getD j []).set k x := by simp [hl, hj]
    rw [e1, List.length_set]; exact hR j hj
  · have e1 : (R.set i ((R.getD i []).set k x)).getD j [] = R.getD j [] := by rw [List.getD_eq_getElem?_getD, List.getElem?_set_ne (Ne.symm h1), List.getD_eq_getElem?_getD]
    rw [e1]; exact hR j hj
theorem relsOk_parts {R : List (List Int)} {n : Nat} (hn : R.length = n) (h : relsOkF R = true) : (∀ i, i < n → (R.getD i []).length = n ∧ ∀ k, k < n → relOkF R n i k = true) ∧ 1 ≤ n ∧ n ≤ 5 := by
  subst hn
  unfold relsOkF at h
  rw [Bool.and_eq_true, List.all_eq_true, Bool.and_eq_true, decide_eq_true_eq, decide_eq_true_eq] at h
  refine ⟨fun i hi => ?_, h.2.1, h.2.2⟩
  have h1 := h.1 i (List.mem_range.2 hi)
  rw [Bool.and_eq_true, decide_eq_true_eq, List.all_eq_true] at h1
  exact ⟨h1.1, fun k hk => h1.2 k (List.mem_range.2 hk)⟩
theorem relOk_iff {R : List (List Int)} {n i k : Nat} : relOkF R n i k = true ↔ (R.getD k []).length = n ∧ 0 ≤ relAt R i k ∧ relAt R i k ≤ 3 ∧ relAt R k i = backF (relAt R i k) ∧ (i = k → relAt R i k = 0) := by
  unfold relOkF
  simp only [Bool.and_eq_true, Bool.or_eq_true, decide_eq_true_eq]
  constructor
  · rintro ⟨⟨⟨h1, h2, h3⟩, h4⟩, h5⟩
    exact ⟨h1, h2, h3, h4, fun e => by rcases h5 with h5 | h5; exact absurd e h5; exact h5⟩
  · rintro ⟨h1, h2, h3, h4, h5⟩
    refine ⟨⟨⟨h1, h2, h3⟩, h4⟩, ?_⟩
    by_cases e : i = k
    · exact .inr (h5 e)
    · exact .inl e
theorem backF_back {r : Int} (h0 : 0 ≤ r) (h3 : r ≤ 3) : backF (backF r) = r := by unfold backF; split <;> (try split) <;> (try split) <;> omega
theorem relF_ok {R : List (List Int)} {a b r : Int} (hl : R.length = 4) (h : relsOkF R = true) (ha : in14 a = true) (hb : in14 b = true) (hab : a ≠ b) (h0 : 0 ≤ r) (h3 : r ≤ 3) : (relF R a b r).length = 4 ∧ relsOkF (relF R a b r) = true := by
  obtain ⟨hp, _, _⟩ := relsOk_parts hl h
  unfold in14 at ha hb
  rw [Bool.and_eq_true, decide_eq_true_eq, decide_eq_true_eq] at ha hb
  obtain ⟨i, hi⟩ : ∃ i : Nat, (a - 1).toNat = i := ⟨_, rfl⟩
  obtain ⟨k, hk⟩ : ∃ k : Nat, (b - 1).toNat = k := ⟨_, rfl⟩
  have hi4 : i < 4 := by omega
  have hk4 : k < 4 := by omega
  have hik : i ≠ k := by omega
  unfold relF
  rw [hi, hk]
  obtain ⟨l1, r1⟩ := relSet_len (k := k) (x := r) (fun j hj => (hp j hj).1) hl hi4
  obtain ⟨l2, r2⟩ := relSet_len (k := i) (x := backF r) r1 l1 hk4
  have hat : ∀ x y, relAt (relSet (relSet R i k r) k i (backF r)) x y = if x = k ∧ y = i then backF r else if x = i ∧ y = k then r else relAt R x y := fun x y => by
    rw [relAt_set r1 l1 hk4 hi4, relAt_set (fun j hj => (hp j hj).1) hl hi4 hk4]
  have hbk := backF_in h0 h3
  refine ⟨l2, ?_⟩
  rw [relsOk_good l2 (fun x hx => ⟨r2 x hx, fun y hy => ?_⟩)]
  · rfl
  · rw [relOk_iff, hat, hat]
    have hxy := relOk_iff.1 ((hp x hx).2 y hy)
    refine ⟨r2 y hy, ?_⟩
    by_cases c1 : x = k ∧ y = i
    · obtain ⟨rfl, rfl⟩ := c1
      rw [if_pos ⟨rfl, rfl⟩, if_neg (fun h => hik h.1), if_pos ⟨rfl, rfl⟩]
      exact ⟨hbk.1, hbk.2, (backF_back h0 h3).symm, fun e => absurd e.symm hik⟩
    · rw [if_neg c1]
      by_cases c2 : x = i ∧ y = k
      · obtain ⟨rfl, rfl⟩ := c2
        rw [if_pos ⟨rfl, rfl⟩, if_pos ⟨rfl, rfl⟩]
        exact ⟨h0, h3, rfl, fun e => absurd e hik⟩
      · rw [if_neg c2, if_neg (fun h : y = k ∧ x = i => c2 ⟨h.2, h.1⟩), if_neg (fun h : y = i ∧ x = k => c1 ⟨h.2, h.1⟩)]
        exact ⟨hxy.2.1, hxy.2.2.1, hxy.2.2.2.1, hxy.2.2.2.2⟩
theorem homesOk_rels {R R' : List (List Int)} {H : List Ent} (h : homesOkF R H = true) (hl : R'.length = R.length) (h' : relsOkF R' = true) : homesOkF R' H = true := by
  obtain ⟨a1, a2, a3⟩ := homesOk_all h
  rw [homesOk_good hl (fun i hi => a3 i hi), h', Bool.true_and, decide_eq_true_eq]
  exact a2
theorem st0_ok : StOk st0 := ⟨rfl, by decide +kernel, by decide +kernel⟩
theorem relLine_ok {s : LSt} {w : List Bs} {r : Int} (h : StOk s) (h0 : 0 ≤ r) (h3 : r ≤ 3) : StOk (relLine s w r).1 := by
  unfold relLine
  split
  · rename_i hc
    obtain ⟨l, k⟩ := relF_ok h.len h.rel hc.1 hc.2.1 hc.2.2 h0 h3
    exact ⟨l, k, homesOk_rels h.hom (by rw [h.len]; exact l) k⟩
  · exact h
theorem homeLine_ok {s : LSt} {w : List Bs} (h : StOk s) : StOk (homeLine s w).1 := by
  unfold homeLine
  split
  · exact h
  · split
    · rename_i hc
      exact ⟨h.len, h.rel, hc⟩
    · exact h
theorem exec_ok {s : LSt} (h : StOk s) (l : Bs) : StOk (execF s l).1 := by
  unfold execF
  simp only
  split
  · exact relLine_ok h (by omega) (by omega)
  · split
    · exact relLine_ok h (by omega) (by omega)
    · split
      · exact relLine_ok h (by omega) (by omega)
      · split
        · exact homeLine_ok h
        · split
          · exact h
          · split
            · exact h
            · split <;> exact h
theorem go_ok : ∀ (ls : List Bs) {s : LSt} {o : Bs}, StOk s → StOk (goF2 (s, o) ls).1
  | [], _, _, h => h
  | l :: t, s, o, h => go_ok t (exec_ok h l)
theorem run_ok (ls : List Bs) : StOk (runF ls).1 := go_ok ls st0_ok
theorem rel_twice {R : List (List Int)} (hl : R.length = 4) (r : Int) : relF (relF R 1 2 r) 1 2 2 = relF R 1 2 2 ∧ relF (relF R 2 1 r) 1 2 2 = relF R 1 2 2 := by
  match R, hl with
  | [a, b, c, d], _ => exact ⟨by simp [relF, relSet], by simp [relF, relSet]⟩
def lnSells12 : Bs := [115, 101, 108, 108, 115, 32, 49, 32, 50]
def lnParts21 : Bs := [112, 97, 114, 116, 115, 32, 50, 32, 49]
def lnPeers12 : Bs := [112, 101, 101, 114, 115, 32, 49, 32, 50]
theorem ex_sells12 (s : LSt) : execF s lnSells12 = ({ s with rels := relF s.rels 1 2 1 }, []) := by
  have e : cutC 32 lnSells12 = [sSells, [49], [50]] := by decide +kernel
  have n1 : numF [49] = 1 := by decide +kernel
  have n2 : numF [50] = 2 := by decide +kernel
  unfold execF
  rw [e]
  show (if sSells = sSells then relLine s [sSells, [49], [50]] 1 else _) = _
  rw [if_pos rfl]
  unfold relLine
  show (if in14 (numF [49]) = true ∧ in14 (numF [50]) = true ∧ numF [49] ≠ numF [50] then ({ s with rels := relF s.rels (numF [49]) (numF [50]) 1 }, []) else (s, sWhat)) = _
  rw [n1, n2, if_pos (by decide)]
theorem ex_parts21 (s : LSt) : execF s lnParts21 = ({ s with rels := relF s.rels 2 1 0 }, []) := by
  have e : cutC 32 lnParts21 = [sParts, [50], [49]] := by decide +kernel
  have n1 : numF [49] = 1 := by decide +kernel
  have n2 : numF [50] = 2 := by decide +kernel
  unfold execF
  rw [e]
  show (if sParts = sSells then _ else if sParts = sPeers then _ else if sParts = sParts then relLine s [sParts, [50], [49]] 0 else _) = _
  rw [if_neg (by decide), if_neg (by decide), if_pos rfl]
  unfold relLine
  show (if in14 (numF [50]) = true ∧ in14 (numF [49]) = true ∧ numF [50] ≠ numF [49] then ({ s with rels := relF s.rels (numF [50]) (numF [49]) 0 }, []) else (s, sWhat)) = _
  rw [n1, n2, if_pos (by decide)]
theorem ex_peers12 (s : LSt) : execF s lnPeers12 = ({ s with rels := relF s.rels 1 2 2 }, []) := by
  have e : cutC 32 lnPeers12 = [sPeers, [49], [50]] := by decide +kernel
  have n1 : numF [49] = 1 := by decide +kernel
  have n2 : numF [50] = 2 := by decide +kernel
  unfold execF
  rw [e]
  show (if sPeers = sSells then _ else if sPeers = sPeers then relLine s [sPeers, [49], [50]] 2 else _) = _
  rw [if_neg (by decide), if_pos rfl]
  unfold relLine
  show (if in14 (numF [49]) = true ∧ in14 (numF [50]) = true ∧ numF [49] ≠ numF [50] then ({ s with rels := relF s.rels (numF [49]) (numF [50]) 2 }, []) else (s, sWhat)) = _
  rw [n1, n2, if_pos (by decide)]
theorem last_sells {ls : List Bs} (e : List Bs) : runF (ls ++ lnSells12 :: lnPeers12 :: e) = runF (ls ++ lnPeers12 :: e) ∧ runF (ls ++ lnParts21 :: lnPeers12 :: e) = runF (ls ++ lnPeers12 :: e) := by
  have h := run_ok ls
  rw [runF_append, runF_append, runF_append]
  generalize runF ls = x at h ⊢
  obtain ⟨s, o⟩ := x
  have step : ∀ s o l t, goF2 (s, o) (l :: t) = goF2 ((execF s l).1, o ++ (execF s l).2) t := fun _ _ _ _ => rfl
  obtain ⟨t1, _⟩ := rel_twice h.len 1
  obtain ⟨_, t2⟩ := rel_twice h.len 0
  simp only [step, ex_sells12, ex_parts21, ex_peers12, List.append_nil]
  rw [t1, t2]
  exact ⟨rfl, rfl⟩
end Go.Proofs.YtnecdeaikmhanaaGreatDoor
namespace Go.Proofs.YtnecdeaikmhanaaGreatDoor
open Go.RowKit
set_option linter.unusedVariables false
set_option maxHeartbeats 1000000 in
theorem house_yes (v : Value) (k : Int) (s : Bs) (w : World) (hat : Calls Tryz.prog 37 #[v, .int .i64 k] w fun e w' => e = .returned (stV s) ∧ w = w') (h : in14 (numF s) = true) :
    Calls Tryz.prog 56 #[v, .int .i64 k] w fun e w' => e = .returned (.int .i64 (numF s)) ∧ Below w.heap.size w w' := by
  have hn := number_of v k s w hat
  obtain ⟨X, hX⟩ : ∃ X, numF s = X := ⟨_, rfl⟩
  rw [hX] at hn h ⊢
  have h1 : 1 ≤ X ∧ X ≤ 4 := by unfold in14 at h; simpa using h
  obtain ⟨h1, h4⟩ := h1
  have HN := Lib.hid hn
  clear hn hX h hat
  go_enter Tryz.func56, Tryz.ntmps56
  go_wp2_with fail
  refine HN.out.mono ?_
  rintro e w1 ⟨rfl, hb1⟩
  have HB := Lib.hid hb1
  clear hb1 HN
  go_wp2_with fail
  refine (need_yes _).mono ?_
  rintro e w' ⟨rfl, rfl⟩
  go_wp2_with fail
  go_ret
  exact ⟨rfl, HB.out⟩
set_option maxHeartbeats 1000000 in
theorem house_no (v : Value) (k : Int) (s : Bs) (w : World) (hat : Calls Tryz.prog 37 #[v, .int .i64 k] w fun e w' => e = .returned (stV s) ∧ w = w') (h : in14 (numF s) = false) :
    Calls Tryz.prog 56 #[v, .int .i64 k] w fun e w' => e = .panicked badP ∧ Below w.heap.size w w' := by
  have hn := number_of v k s w hat
  obtain ⟨X, hX⟩ : ∃ X, numF s = X := ⟨_, rfl⟩
  rw [hX] at hn h
  have h1 : X < 1 ∨ 4 < X := by
    unfold in14 at h
    simp at h
    omega
  have HN := Lib.hid hn
  clear hn hX h hat
  rcases h1 with h1 | h1
  · go_enter Tryz.func56, Tryz.ntmps56
    go_wp2_with fail
    refine HN.out.mono ?_
    rintro e w1 ⟨rfl, hb1⟩
    have HB := Lib.hid hb1
    clear hb1 HN
    go_wp2_with fail
    refine (need_no _).mono ?_
    rintro e w' ⟨rfl, rfl⟩
    go_wp2_with fail
    exact ⟨rfl, rfl, HB.out⟩
  · have h2 : 1 ≤ X := by omega
    have h3 : decide (X ≤ 4) = false := by rw [decide_eq_false_iff_not]; omega
    clear h1
    go_enter Tryz.func56, Tryz.ntmps56
    go_wp2_with fail
    refine HN.out.mono ?_
    rintro e w1 ⟨rfl, hb1⟩
    have HB := Lib.hid hb1
    clear hb1 HN
    go_wp2_with fail
    refine (need_no _).mono ?_
    rintro e w' ⟨rfl, rfl⟩
    go_wp2_with fail
    exact ⟨rfl, rfl, HB.out⟩
theorem index_str (t : ByteArray) (s : Bs) (hs : t.data.toList = s) (j : Nat) (hj : j < s.length) (W : World) :
    (Instr.index 9 (.string t) (.int .i64 (j : Int))).run Tryz.prog W = .ok (.int .u8 ((s.getD j 0).toNat : Int)) W := by
  have hsz : t.size = s.length := by rw [← hs]; rfl
  have hlt : j < t.size := by omega
  have e := Lib.getD_at t j hlt
  rw [hs] at e
  have h2 : (0 : Int) ≤ (j : Int) ∧ (j : Int) < (t.size : Int) := ⟨by omega, by omega⟩
  have h1 := run_index_string (P := Tryz.prog) W 9 t .i64 (j : Int) Tryz.underlying9
  rw [h1, dif_pos h2, ← e]
  rfl
set_option maxHeartbeats 4000000 in
theorem l1Num_any (s : Bs) (w : World) : Calls Tryz.prog 72 #[stV s] w fun e w' => e = .returned (.int .i64 (numF s)) ∧ w = w' := by
  obtain ⟨t, ht⟩ : ∃ t : ByteArray, t = ⟨s.toArray⟩ := ⟨_, rfl⟩
  have hdl : t.data.toList = s := by rw [ht]
  have hsz : t.size = s.length := by rw [← hdl]; rfl
  unfold stV
  rw [← ht]
  clear ht
  obtain ⟨n, hn⟩ : ∃ n, s.length = n := ⟨_, rfl⟩
  rw [hn] at hsz
  by_cases h13 : 1 ≤ n ∧ n ≤ 3
  · obtain ⟨h1, h3⟩ := h13
    have hI := in_any (n : Int) 1 3 w
    rw [decide_eq_true (by omega), decide_eq_true (by omega)] at hI
    obtain ⟨R, hR⟩ : ∃ R, numF s = R := ⟨_, rfl⟩
    rw [hR]
    have hX : ∀ j, j < n → ∀ W, (Instr.index 9 (.string t) (.int .i64 (j : Int))).run Tryz.prog W = .ok (.int .u8 ((s.getD j 0).toNat : Int)) W := fun j hj W => index_str t s hdl j (by omega) W
    have HI := Lib.hid hI
    have HX := Lib.hid hX
    have HN := Lib.hid hn
    have HR := Lib.hid hR
    have H3 := Lib.hid h3
    have H1 := Lib.hid h1
    clear hn hR hX hI hdl h1 h3
    go_enter Tryz.func72, Tryz.ntmps72
    go_wp2_with fail
    refine HI.out.mono ?_
    rintro e w' ⟨rfl, hw⟩
    obtain rfl : w = w' := hw.symm
    clear HI
    go_wp2_with fail
    go_loopg [3, 4] n (fun g m i wr => ∃ j : Nat, m = .int .i64 (numTo s j) ∧ i = .int .i64 j ∧ j + g = n ∧ wr = w ∧ Hid (∀ i, i < j → isDg (s.getD i 0) = true))
    case atStart => exact ⟨0, by rw [numTo_zero], rfl, by omega, rfl, Lib.hid (fun j hj => by omega)⟩
    case round =>
      obtain ⟨j, rfl, rfl, hj, rfl, hd⟩ := hrel
      by_cases hg : gk = 0
      · subst hg
        obtain rfl : j = n := by omega
        have e : numTo s j = R := by rw [← HR.out, numF_good (by have := HN.out; have := H1.out; omega) (by have := HN.out; have := H3.out; omega) (fun i hi => hd.out i (by have := HN.out; omega)), HN.out]
        rw [e]
        clear e
        go_wp2_with fail
        go_ret
        exact ⟨rfl, rfl⟩
      · have hjn : j < n := by omega
        have hx := HX.out j hjn
        obtain ⟨y, hy⟩ : ∃ y : Int, ((s.getD j 0).toNat : Int) = y := ⟨_, rfl⟩
        have hy0 : 0 ≤ y := by omega
        have hy1 : y ≤ 255 := by have := (s.getD j 0).toNat_lt; omega
        rw [hy] at hx
        have HY := Lib.hid hy
        clear hy
        by_cases h1 : y < 48
        · have e : R = -1 := by
            rw [← HR.out, numF_bad (by rw [HN.out]; exact hjn)]
            unfold isDg
            rw [decide_eq_false (by have := HY.out; omega)]; rfl
          subst e
          obtain ⟨M, hM⟩ : ∃ M, numTo s j = M := ⟨_, rfl⟩
          rw [hM]
          clear hM
          go_wp2_with fail
          go_ret
          exact ⟨rfl, rfl⟩
        · by_cases h2 : 57 < y
          · have e : R = -1 := by
              rw [← HR.out, numF_bad (by rw [HN.out]; exact hjn)]
              unfold isDg
              rw [decide_eq_false (p := (s.getD j 0).toNat ≤ 57) (by have := HY.out; omega)]; simp
            subst e
            obtain ⟨M, hM⟩ : ∃ M, numTo s j = M := ⟨_, rfl⟩
            rw [hM]
            clear hM
            go_wp2_with fail
            go_ret
            exact ⟨rfl, rfl⟩
          · have hdg : isDg (s.getD j 0) = true := by
              unfold isDg
              rw [decide_eq_true (by have := HY.out; omega), decide_eq_true (by have := HY.out; omega)]; rfl
            have hm0 : 0 ≤ numTo s j ∧ numTo s j ≤ 99 := numTo_small (by have := HN.out; omega) (by have := H3.out; omega) (fun i hi => hd.out i hi)
            have hS : numTo s (j + 1) = 10 * numTo s j + (y - 48) := by rw [numTo_succ (by have := HN.out; omega)]; unfold dgF; rw [HY.out]
            obtain ⟨M, hM⟩ : ∃ M, numTo s j = M := ⟨_, rfl⟩
            rw [hM] at hm0 hS
            rw [hM]
            clear hM
            obtain ⟨m0, m1⟩ := hm0
            have hj4 : (j : Int) < 1000 := by have := H3.out; omega
            have HS := Lib.hid hS
            clear hS
            have hw : IntKind.u8.wrap (y - 48) = y - 48 := by rw [IntKind.wrap_u8]; omega
            go_wp2_with fail
            go_roundg (gk - 1)
            case measure => omega
            case rel =>
              refine ⟨j + 1, ?_, by go_num, by omega, rfl, Lib.hid (fun i hi => ?_)⟩
              · rw [HS.out]
              · by_cases hij : i = j
                · subst hij; exact hdg
                · exact hd.out i (by omega)
  · have e : numF s = -1 := numF_long (by omega)
    have hI := in_any (n : Int) 1 3 w
    have hb : (decide (1 ≤ (n : Int)) && decide ((n : Int) ≤ 3)) = false := by
      rw [Bool.and_eq_false_iff, decide_eq_false_iff_not, decide_eq_false_iff_not]; omega
    rw [hb] at hI
    rw [e]
    have HI := Lib.hid hI
    clear e hn hI hb hdl h13
    go_enter Tryz.func72, Tryz.ntmps72
    go_wp2_with fail
    refine HI.out.mono ?_
    rintro e w' ⟨rfl, hw⟩
    obtain rfl : w = w' := hw.symm
    go_wp2_with fail
    go_ret
    exact ⟨rfl, rfl⟩
set_option maxHeartbeats 1000000 in
theorem l61Num_any (v : Value) (ss : List Bs) (k : Nat) (w : World) (h : StrsAt w v ss) :
    Calls Tryz.prog 40 #[v, .int .i64 k] w fun e w' => e = .returned (.int .i64 (numF (ss.getD k []))) ∧ w = w' := by
  obtain ⟨a, cap, rfl, hc, hm⟩ := h.form
  obtain ⟨n, hn⟩ : ∃ n, ss.length = n := ⟨_, rfl⟩
  rw [hn] at hc h ⊢
  by_cases hkn : k < n
  · obtain ⟨b, off, rfl, hb, hx⟩ := h.get k hkn
    have h2 : ¬ n ≤ k := by omega
    obtain ⟨s, hs⟩ : ∃ s, ss.getD k [] = s := ⟨_, rfl⟩
    rw [hs] at hx ⊢
    have hL := l1Num_any s
    obtain ⟨R, hR⟩ : ∃ R, numF s = R := ⟨_, rfl⟩
    unfold stV at hL hx
    obtain ⟨t, ht⟩ : ∃ t : ByteArray, t = ⟨s.toArray⟩ := ⟨_, rfl⟩
    rw [hR] at hL ⊢
    rw [← ht] at hL hx
    have HL := Lib.hid hL
    clear hL hs hn h hR ht
    go_enter Tryz.func40, Tryz.ntmps40
    go_wp2_with fail
    refine (HL.out _).mono ?_
    rintro e w' ⟨rfl, rfl⟩
    go_wp2_with fail
    go_ret
    exact ⟨rfl, rfl⟩
  · have h2 : n ≤ k := by omega
    rw [getD_ge (by omega)]
    clear hn h
    go_enter Tryz.func40, Tryz.ntmps40
    go_wp2_with fail
    go_ret
    exact ⟨rfl, rfl⟩
theorem l61Num_1 (v : Value) (ss : List Bs) (w : World) (h : StrsAt w v ss) : Calls Tryz.prog 40 #[v, .int .i64 1] w fun e w' => e = .returned (.int .i64 (numF (ss.getD 1 []))) ∧ w = w' := l61Num_any v ss 1 w h
theorem l61Num_2 (v : Value) (ss : List Bs) (w : World) (h : StrsAt w v ss) : Calls Tryz.prog 40 #[v, .int .i64 2] w fun e w' => e = .returned (.int .i64 (numF (ss.getD 2 []))) ∧ w = w' := l61Num_any v ss 2 w h
set_option maxHeartbeats 1000000 in
theorem l61Word_any (v : Value) (ss : List Bs) (k : Nat) (w : World) (h : StrsAt w v ss) :
    Calls Tryz.prog 44 #[v, .int .i64 k] w fun e w' => e = .returned (stV (ss.getD k [])) ∧ w = w' := by
  obtain ⟨a, cap, rfl, hc, hm⟩ := h.form
  obtain ⟨n, hn⟩ : ∃ n, ss.length = n := ⟨_, rfl⟩
  rw [hn] at hc h ⊢
  by_cases hkn : k < n
  · obtain ⟨b, off, rfl, hb, hx⟩ := h.get k hkn
    obtain ⟨s, hs⟩ : ∃ s, ss.getD k [] = s := ⟨_, rfl⟩
    rw [hs] at hx ⊢
    clear hs hn h
    go_enter Tryz.func44, Tryz.ntmps44
    go_wp2_with fail
    go_ret
    exact ⟨rfl, rfl⟩
  · have h2 : n ≤ k := by omega
    rw [getD_ge (by omega)]
    clear hn h
    go_enter Tryz.func44, Tryz.ntmps44
    go_wp2_with fail
    go_ret
    exact ⟨rfl, rfl⟩
theorem l61Word_1 (v : Value) (ss : List Bs) (w : World) (h : StrsAt w v ss) : Calls Tryz.prog 44 #[v, .int .i64 1] w fun e w' => e = .returned (stV (ss.getD 1 [])) ∧ w = w' := l61Word_any v ss 1 w h
end Go.Proofs.YtnecdeaikmhanaaGreatDoor
namespace Go.Proofs.YtnecdeaikmhanaaGreatDoor
open Go.RowKit
set_option linter.unusedVariables false
set_option maxRecDepth 100000
theorem gTab : Tryz.prog.globalNamed "internal/strconv.uint64pow10" = some 2 := by kernel_rfl
theorem gSyn : Tryz.prog.globalNamed "strconv.ErrSyntax" = some 7 := by kernel_rfl
theorem gRng : Tryz.prog.globalNamed "strconv.ErrRange" = some 8 := by kernel_rfl
structure EnvOk (w : World) : Prop where
  err : ErrOk w
  max : ∃ m, w.cell? ⟨0, 0, none⟩ = some (.int .i64 m)
  tab : Lib.TabIs Tryz.prog w "internal/strconv.uint64pow10" .u64 Lib.pow10Tab
  syn : ∃ tp p, w.var? Tryz.prog "strconv.ErrSyntax" = some #[.iface tp p]
  rng : ∃ tp p, w.var? Tryz.prog "strconv.ErrRange" = some #[.iface tp p]
theorem var_kept {w w' : World} {n : String} {g : Nat} {cs : Array Value} (hg : Tryz.prog.globalNamed n = some g) (h : w.var? Tryz.prog n = some cs) (hb : w'.heap[g]? = w.heap[g]?) : w'.var? Tryz.prog n = some cs := by
  unfold World.var? at h ⊢
  rw [hg] at h ⊢
  simp only [Option.bind_some] at h ⊢
  rw [hb]; exact h
theorem var_lt {w : World} {n : String} {g : Nat} {cs : Array Value} (hg : Tryz.prog.globalNamed n = some g) (h : w.var? Tryz.prog n = some cs) : g < w.heap.size := by
  unfold World.var? at h
  rw [hg] at h
  simp only [Option.bind_some] at h
  rcases Nat.lt_or_ge g w.heap.size with h' | h'
  · exact h'
  · rw [Array.getElem?_eq_none h'] at h; cases h
theorem EnvOk.size {w : World} (h : EnvOk w) : 9 ≤ w.heap.size := by
  obtain ⟨tp, p, h⟩ := h.rng
  have := var_lt gRng h
  omega
theorem EnvOk.keep {w w' : World} (h : EnvOk w) (hb : ∀ b, b < 9 → w'.heap[b]? = w.heap[b]?) : EnvOk w' := by
  obtain ⟨h1, ⟨m, h2⟩, h3, ⟨tp, p, h4⟩, ⟨tq, q, h5⟩⟩ := h
  refine ⟨?_, ⟨m, ?_⟩, var_kept gTab h3 (hb _ (by decide)), ⟨tp, p, var_kept gSyn h4 (hb _ (by decide))⟩, ⟨tq, q, var_kept gRng h5 (hb _ (by decide))⟩⟩
  · obtain ⟨a, ha⟩ := h1
    exact ⟨a, (World.cell?_of_block (w := w) (hb _ (by show (1 : Nat) < 9; decide))).trans ha⟩
  · exact (World.cell?_of_block (w := w) (hb _ (by show (0 : Nat) < 9; decide))).trans h2
theorem EnvOk.below {w w' : World} (h : EnvOk w) {B : Nat} (hb : Below B w w') (hB : 9 ≤ B) : EnvOk w' := h.keep fun b hb' => hb.block b (by omega)
theorem EnvOk.next {w w' : World} (h : EnvOk w) (hb : Below w.heap.size w w') : EnvOk w' := h.below hb h.size
theorem EnvOk.within {w w' : World} (h : EnvOk w) {lo hi : Nat} (hw : Within lo hi w w') (hl : 9 ≤ lo) : EnvOk w' := h.keep fun b hb' => hw.block b (by have := h.size; omega) (.inl (by omega))
theorem atoi_good (s : Bs) (v : Int) (hs : s.length ≤ 1000000) (h : Lib.atoiAll s = .ok v) (w : World) : Calls Tryz.prog 126 #[stV s] w fun e w' => e = .returned (.tuple #[.int .i64 v, .nilIface]) ∧ Below w.heap.size w w' := by
  refine (Go.Proofs.Tryz.strconv_Atoi_ok ⟨s.toArray⟩ (by rw [show (⟨s.toArray⟩ : ByteArray).size = s.length from by simp [ByteArray.size]]; omega) v h w).mono ?_
  rintro e w' ⟨rfl, hw⟩
  refine ⟨rfl, ?_⟩
  rcases hw with rfl | ⟨t, rfl⟩
  · exact Below.refl _ _
  · exact Joins.below_bytesWorld _ _ _ _ (Nat.le_refl _)
def AtoiBad (w : World) (e : Ending) (w' : World) : Prop := ∃ (v : Int) (N : Nat), e = .returned (.tuple #[.int .i64 v, .iface 201 (.pointer (some ⟨N, 0, none⟩))]) ∧ Below w.heap.size w w'
theorem atoi_bad (s : Bs) (hs : s.length ≤ 1000000) (h : ∀ v, Lib.atoiAll s ≠ .ok v) (w : World) (E : EnvOk w) : Calls Tryz.prog 126 #[stV s] w (AtoiBad w) := by
  have hsz : (⟨s.toArray⟩ : ByteArray).size = s.length := by simp [ByteArray.size]
  obtain ⟨tp, p, hsyn⟩ := E.syn
  obtain ⟨tq, q, hrng⟩ := E.rng
  cases hA : Lib.atoiAll s with
  | ok v => exact absurd hA (h v)
  | range =>
    refine (Go.Proofs.Tryz.strconv_Atoi_range_var ⟨s.toArray⟩ (by rw [hsz]; omega) hA tq q w hrng).mono ?_
    rintro e w' ⟨N, rfl, _, _, hb⟩
    exact ⟨_, N, rfl, hb⟩
  | _ =>
    refine (Any.strconv_Atoi_syntax_var Go.Proofs.Tryz.laysC172 ⟨s.toArray⟩ (by rw [hsz]; omega) hA tp p w hsyn).mono ?_
    rintro e w' ⟨N, rfl, _, _, hb⟩
    exact ⟨_, N, rfl, hb⟩
theorem below_growS (w : World) (q : Nat) (os : Array Obj) : Below w.heap.size w (Sort.grow (w.drewN q) os) :=
  ⟨rfl, rfl, rfl, by simp [Sort.grow], fun i hi => by
    show (w.heap ++ os)[i]? = w.heap[i]?
    rw [Array.getElem?_append_left hi]⟩
theorem itoa_any (v : Int) (h0 : -9223372036854775808 ≤ v) (h1 : v ≤ 9223372036854775807) (w : World) (E : EnvOk w) : Calls Tryz.prog 21 #[.int .i64 v] w fun e w' => e = .returned (stV (Lib.itoa v)) ∧ Below w.heap.size w w' := by
  refine (Go.Proofs.Tryz.strconv_Itoa v h0 h1 w E.tab).mono ?_
  rintro e w' ⟨rfl, k, os, rfl⟩
  exact ⟨rfl, below_growS _ _ _⟩
def digF (s : Bs) : Option Int := match Lib.atoiAll s with
  | .ok v => if 0 ≤ v ∧ Lib.itoa v = s then some v else none
  | _ => none
theorem digF_ok {s : Bs} {v : Int} (h : Lib.atoiAll s = .ok v) : digF s = if 0 ≤ v ∧ Lib.itoa v = s then some v else none := by unfold digF; rw [h]
theorem digF_bad {s : Bs} (h : ∀ v, Lib.atoiAll s ≠ .ok v) : digF s = none := by
  unfold digF
  cases hA : Lib.atoiAll s with
  | ok v => exact absurd hA (h v)
  | _ => rfl
theorem digF_some {s : Bs} {v : Int} (h : digF s = some v) : 0 ≤ v ∧ Lib.itoa v = s := by
  unfold digF at h
  split at h
  · split at h
    · rename_i hc
      cases h
      exact hc
    · cases h
  · cases h
def DigPost (s : Bs) (w : World) (e : Ending) (w' : World) : Prop := ∃ (v : Int) (c : Bool), e = .returned (.tuple #[.int .i64 v, .bool c]) ∧ digF s = (if c = true then some v else none) ∧ Below w.heap.size w w'
theorem dig_no {s : Bs} {w w' : World} {v : Int} (h : digF s = none) (hb : Below w.heap.size w w') : DigPost s w (.returned (.tuple #[.int .i64 v, .bool false])) w' := ⟨v, false, rfl, h, hb⟩
theorem dig_c {s : Bs} {w w' : World} {v : Int} {c : Bool} (h : digF s = if c = true then some v else none) (hb : Below w.heap.size w w') : DigPost s w (.returned (.tuple #[.int .i64 v, .bool c])) w' := ⟨v, c, rfl, h, hb⟩
set_option maxHeartbeats 2000000 in
theorem digits_any (s : Bs) (hs : s.length ≤ 1000000) (w : World) (E : EnvOk w) : Calls Tryz.prog 91 #[stV s] w (DigPost s w) := by
  by_cases hA : ∃ v, Lib.atoiAll s = .ok v
  · obtain ⟨v, hA⟩ := hA
    have hI := fun W => atoi_good s v hs hA W
    have hbd := Lib.atoiAll_bounds hA
    have hT : ∀ W, Below w.heap.size w W → Calls Tryz.prog 21 #[.int .i64 v] W fun e w' => e = .returned (stV (Lib.itoa v)) ∧ Below W.heap.size W w' := fun W hb => itoa_any v hbd.1 hbd.2 W (E.next hb)
    have hd := digF_ok hA
    obtain ⟨t, ht⟩ : ∃ t : ByteArray, (⟨s.toArray⟩ : ByteArray) = t := ⟨_, rfl⟩
    have htl : t.toList = s := by rw [← ht]; simp
    unfold stV at hI hT ⊢
    rw [ht] at hI ⊢
    obtain ⟨T2, hT2⟩ : ∃ T : ByteArray, (⟨(Lib.itoa v).toArray⟩ : ByteArray) = T := ⟨_, rfl⟩
    rw [hT2] at hT
    have htl2 : T2.toList = Lib.itoa v := by rw [← hT2]; simp
    have HI := Lib.hid hI
    have HT := Lib.hid hT
    by_cases h0 : 0 ≤ v
    · by_cases he : Lib.itoa v = s
      · have hcmp : (T2.toList == t.toList) = true := by rw [htl, htl2, beq_iff_eq]; exact he
        rw [if_pos ⟨h0, he⟩] at hd
        have HD := Lib.hid hd
        clear hd hI hT hbd hA ht hT2 htl htl2 he E
        go_enter Tryz.func91, Tryz.ntmps91
        go_wp2_with fail
        refine (HI.out _).mono ?_
        rintro e w1 ⟨rfl, hb1⟩
        have HB1 := Lib.hid hb1
        clear hb1
        go_wp2_with fail
        refine (HT.out _ (by first | exact HB1.out | exact HB1.out.drew)).mono ?_
        rintro e w2 ⟨rfl, hb2⟩
        have HB2 : Hid (Below w.heap.size w w2) := Lib.hid (HB1.out.trans (hb2.mono HB1.out.size))
        clear hb2
        go_wp2_with fail
        go_ret2
        exact dig_c (c := true) HD.out HB2.out
      · have hcmp : (T2.toList == t.toList) = false := by rw [htl, htl2, beq_eq_false_iff_ne]; exact he
        rw [if_neg (fun h => he h.2)] at hd
        have HD := Lib.hid hd
        clear hd hI hT hbd hA ht hT2 htl htl2 he E
        go_enter Tryz.func91, Tryz.ntmps91
        go_wp2_with fail
        refine (HI.out _).mono ?_
        rintro e w1 ⟨rfl, hb1⟩
        have HB1 := Lib.hid hb1
        clear hb1
        go_wp2_with fail
        refine (HT.out _ (by first | exact HB1.out | exact HB1.out.drew)).mono ?_
        rintro e w2 ⟨rfl, hb2⟩
        have HB2 : Hid (Below w.heap.size w w2) := Lib.hid (HB1.out.trans (hb2.mono HB1.out.size))
        clear hb2
        go_wp2_with fail
        go_ret2
        exact dig_no HD.out HB2.out
    · rw [if_neg (fun h => h0 h.1)] at hd
      have HD := Lib.hid hd
      have h0' : decide (0 ≤ v) = false := by rw [decide_eq_false_iff_not]; exact h0
      clear hd hI hT hbd hA ht hT2 htl htl2 h0 E
      go_enter Tryz.func91, Tryz.ntmps91
      go_wp2_with fail
      refine (HI.out _).mono ?_
      rintro e w1 ⟨rfl, hb1⟩
      have HB1 := Lib.hid hb1
      clear hb1
      go_wp2_with fail
      go_ret2
      exact dig_no HD.out HB1.out
  · have hd := digF_bad (s := s) (fun v hv => hA ⟨v, hv⟩)
    have hI := atoi_bad s hs (fun v hv => hA ⟨v, hv⟩) w E
    have HI := Lib.hid hI
    have HD := Lib.hid hd
    clear hd hI hA E
    go_enter Tryz.func91, Tryz.ntmps91
    go_wp2_with fail
    refine HI.out.mono ?_
    rintro e w1 ⟨v, N, rfl, hb1⟩
    have HB1 := Lib.hid hb1
    clear hb1
    go_wp2_with fail
    go_ret2
    exact dig_no HD.out HB1.out
end Go.Proofs.YtnecdeaikmhanaaGreatDoor
namespace Go.Proofs.YtnecdeaikmhanaaGreatDoor
open Go.RowKit
set_option linter.unusedVariables false
set_option maxRecDepth 100000
def HomUp (w : World) (hi : Nat) (v : Value) (H : List Ent) : Prop := EntsAt w v H ∧ ∀ a n c, v = .slice (some a) n c → hi ≤ a.block
structure BoardAt (w : World) (lo hi k : Nat) (R : List (List Int)) (H : List Ent) : Prop where
  kIn : lo ≤ k ∧ k < hi
  hiIn : hi ≤ w.heap.size
  lo9 : 9 ≤ lo
  len : R.length = 4
  row : ∀ i, i < 4 → (R.getD i []).length = 4
  blk : ∃ cur mk, w.heap[k]? = some (.cells cur 36 mk)
  rels : ∃ v, w.cell? ⟨k, 0, none⟩ = some v ∧ MatB w lo hi v R
  f0 : w.frozen? ⟨k, 0, none⟩ = false
  homes : ∃ v, w.cell? ⟨k, 1, none⟩ = some v ∧ HomUp w hi v H
  f1 : w.frozen? ⟨k, 1, none⟩ = false
theorem HomUp.within {w w' : World} {lo hi : Nat} {v : Value} {H : List Ent} (h : HomUp w hi v H) (hw : Within lo hi w w') : HomUp w' hi v H := by
  obtain ⟨h1, h2⟩ := h
  refine ⟨?_, h2⟩
  obtain ⟨a, cap, rfl, hc, hm, hh⟩ := h1
  refine ⟨a, cap, rfl, hc, hm, ?_⟩
  rcases hh with hh | ⟨b, off, rfl, hlt, hcell⟩
  · exact .inl hh
  · have hb := h2 _ _ _ rfl
    refine .inr ⟨b, off, rfl, Nat.lt_of_lt_of_le hlt hw.size, fun i hi => ?_⟩
    obtain ⟨e1, e2, e3⟩ := hcell i hi
    exact ⟨(hw.cell (p := ⟨b, off + i * 3, none⟩) hlt (.inr hb)).trans e1, (hw.cell (p := ⟨b, off + i * 3 + 1, none⟩) hlt (.inr hb)).trans e2, (hw.cell (p := ⟨b, off + i * 3 + 2, none⟩) hlt (.inr hb)).trans e3⟩
theorem BoardAt.below {w w' : World} {lo hi k : Nat} {R : List (List Int)} {H : List Ent} (h : BoardAt w lo hi k R H) (hb : Below w.heap.size w w') : BoardAt w' lo hi k R H := by
  have hk : k < w.heap.size := by have := h.kIn; have := h.hiIn; omega
  obtain ⟨cur, mk, hblk⟩ := h.blk
  obtain ⟨v, hv, hM⟩ := h.rels
  obtain ⟨u, hu, hH⟩ := h.homes
  exact ⟨h.kIn, Nat.le_trans h.hiIn hb.size, h.lo9, h.len, h.row, ⟨cur, mk, (hb.block k hk).trans hblk⟩, ⟨v, (hb.cell (p := ⟨k, 0, none⟩) hk).trans hv, hM.below hb⟩, (hb.frozen (p := ⟨k, 0, none⟩) hk).trans h.f0,
    ⟨u, (hb.cell (p := ⟨k, 1, none⟩) hk).trans hu, hH.within (Within.of_below (lo := lo) hb)⟩, (hb.frozen (p := ⟨k, 1, none⟩) hk).trans h.f1⟩
def DoPost (lo hi k : Nat) (x : LSt × Bs) (w : World) (e : Ending) (w' : World) : Prop :=
  (e = .returned (stV x.2) ∨ (e = .panicked badP ∧ x.2 = sWhat)) ∧ BoardAt w' lo hi k x.1.rels x.1.homes ∧ Within lo hi w w'
theorem do_bad {lo hi k : Nat} {s : LSt} {w w' : World} (hB : BoardAt w lo hi k s.rels s.homes) (hb : Below w.heap.size w w') : DoPost lo hi k (s, sWhat) w (.panicked badP) w' :=
  ⟨.inr ⟨rfl, rfl⟩, hB.below hb, Within.of_below hb⟩
end Go.Proofs.YtnecdeaikmhanaaGreatDoor
namespace Go.Proofs.YtnecdeaikmhanaaGreatDoor
set_option linter.unusedVariables false
theorem rise_drop {l : List Ent} (hr : Rise l) {k : Nat} (hk : k < l.length) : Rise (l.take k ++ l.drop (k + 1)) ∧ (l.take k ++ l.drop (k + 1)).length = l.length - 1 ∧ ∀ i, i < l.length - 1 → (l.take k ++ l.drop (k + 1)).getD i (0, 0, 0) = l.getD (if i < k then i else i + 1) (0, 0, 0) := by
  have hlen : (l.take k ++ l.drop (k + 1)).length = l.length - 1 := by rw [List.length_append, List.length_take, List.length_drop]; omega
  have hget : ∀ i, i < l.length - 1 → (l.take k ++ l.drop (k + 1)).getD i (0, 0, 0) = l.getD (if i < k then i else i + 1) (0, 0, 0) := fun i hi => by
    rw [List.getD_eq_getElem?_getD, List.getD_eq_getElem?_getD]
    split
    · rename_i h
      rw [List.getElem?_append_left (by rw [List.length_take]; omega), List.getElem?_take, if_pos h]
    · rename_i h
      rw [List.getElem?_append_right (by rw [List.length_take]; omega), List.length_take, List.getElem?_drop]
      congr 2
      omega
  refine ⟨fun i j hij hj => ?_, hlen, hget⟩
  rw [hlen] at hj
  rw [hget i (by omega), hget j hj]
  exact hr _ _ (by split <;> split <;> omega) (by split <;> omega)
theorem homes_drop {rs : List (List Int)} {l : List Ent} (hok : homesOkF rs l = true) {k : Nat} (hk : k < l.length) : homesOkF rs (l.take k ++ l.drop (k + 1)) = true := by
  obtain ⟨hr, hlen, hget⟩ := rise_drop (homes_rise hok) hk
  obtain ⟨a1, a2, a3⟩ := homesOk_all hok
  rw [homesOk_good (n := rs.length) rfl (fun i hi => ?_)]
  · rw [a1, Bool.true_and, decide_eq_true_eq]; omega
  · rw [hlen] at hi
    refine ⟨by rw [hget i hi]; exact (a3 _ (by split <;> omega)).1, fun h0 => hr _ _ (by omega) (by omega)⟩
end Go.Proofs.YtnecdeaikmhanaaGreatDoor
