/- What impl.readRels puts into its map: plain words. -/
import Derived.Test.YtgpdkplpneklgaaCouple
import Derived.Test.YtgpdkplpneklgaaRelsState
namespace Go.Proofs.Ytgpdkplpneklgaa
open Go.RowKit Go.Maps
set_option linter.unusedVariables false
set_option maxRecDepth 100000

/-- what the map holds before house i + 1's k-th neighbour is read -/
def valTo (rs : List (List Int)) (n i k : Nat) (a b : Int) : Int := if 1 ≤ a ∧ 1 ≤ b ∧ b ≤ (n : Int) ∧ (a ≤ (i : Int) ∨ (a = (i : Int) + 1 ∧ b ≤ (k : Int))) then relAt rs (a - 1).toNat (b - 1).toNat else 0
theorem valTo_step {rs : List (List Int)} {n i k : Nat} (hk : k < n) : valTo rs n i (k + 1) = fun a b => if a = (i : Int) + 1 ∧ b = (k : Int) + 1 then relAt rs i k else valTo rs n i k a b := by
  funext a b
  unfold valTo
  by_cases h : a = (i : Int) + 1 ∧ b = (k : Int) + 1
  · obtain ⟨rfl, rfl⟩ := h
    rw [if_pos (by omega), if_pos ⟨rfl, rfl⟩]
    congr 1 <;> omega
  · rw [if_neg h]
    by_cases h2 : 1 ≤ a ∧ 1 ≤ b ∧ b ≤ (n : Int) ∧ (a ≤ (i : Int) ∨ (a = (i : Int) + 1 ∧ b ≤ (k : Int)))
    · rw [if_pos h2, if_pos (by omega)]
    · rw [if_neg h2, if_neg (by omega)]
theorem valTo_zero {rs : List (List Int)} {n i k : Nat} (hk : k < n) (h0 : relAt rs i k = 0) : valTo rs n i (k + 1) = valTo rs n i k := by
  rw [valTo_step hk]
  funext a b
  by_cases h : a = (i : Int) + 1 ∧ b = (k : Int) + 1
  · rw [if_pos h, h0]
    unfold valTo
    rw [if_neg (by omega)]
  · rw [if_neg h]
theorem valTo_row {rs : List (List Int)} {n i : Nat} : valTo rs n i n = valTo rs n (i + 1) 0 := by
  funext a b
  unfold valTo
  by_cases h : 1 ≤ a ∧ 1 ≤ b ∧ b ≤ (n : Int) ∧ (a ≤ (i : Int) ∨ (a = (i : Int) + 1 ∧ b ≤ (n : Int)))
  · rw [if_pos h, if_pos (by omega)]
  · rw [if_neg h, if_neg (by omega)]
theorem valTo_none {rs : List (List Int)} {n : Nat} : valTo rs n 0 0 = fun _ _ => 0 := by
  funext a b
  unfold valTo
  rw [if_neg (by omega)]
theorem valTo_all {rs : List (List Int)} {n i k : Nat} (hi : i < n) (hk : k < n) : valTo rs n n 0 ((i : Int) + 1) ((k : Int) + 1) = relAt rs i k := by
  unfold valTo
  rw [if_pos (by omega)]
  congr 1 <;> omega
theorem valTo_in {rs : List (List Int)} {n : Nat} {a b : Int} (h : valTo rs n n 0 a b ≠ 0) : ∃ i k : Nat, i < n ∧ k < n ∧ a = (i : Int) + 1 ∧ b = (k : Int) + 1 := by
  unfold valTo at h
  split at h
  · rename_i hc
    exact ⟨(a - 1).toNat, (b - 1).toNat, by omega, by omega, by omega, by omega⟩
  · exact absurd rfl h
/-- the map reads as that -/
def Reads (D : DataW Unit) (val : Int → Int → Int) : Prop := IsMap D ∧ ∀ a b zd, (Lit.int .i64 a).wf = true → (Lit.int .i64 b).wf = true → D.atKey (ck a b) zd = if val a b ≠ 0 then .lit (.int .i64 (val a b)) else zd
theorem reads_empty : Reads (.map []) (fun _ _ => 0) := ⟨isMap_empty, fun a b zd _ _ => by simp [DataW.atKey]⟩
theorem Reads.put {D : DataW Unit} {val : Int → Int → Int} (h : Reads D val) {i k c : Int} (hi : (Lit.int .i64 i).wf = true) (hk : (Lit.int .i64 k).wf = true) (hc : c ≠ 0) :
    Reads (D.put (ck i k) (.lit (.int .i64 c))) (fun a b => if a = i ∧ b = k then c else val a b) := by
  refine ⟨h.1.put _ _, fun a b zd ha hb => ?_⟩
  show _ = if (if a = i ∧ b = k then c else val a b) ≠ 0 then DataW.lit (.int .i64 (if a = i ∧ b = k then c else val a b)) else zd
  by_cases hab : a = i ∧ b = k
  · obtain ⟨rfl, rfl⟩ := hab
    have e : (if a = a ∧ b = b then c else val a b) = c := if_pos ⟨rfl, rfl⟩
    rw [atKey_put_same h.1 (cp_law.key (cp_key ha hb)), e, if_pos hc]
  · rw [atKey_put_other (fun e => hab (ck_inj ha hb hi hk e)), if_neg hab]
    exact h.2 a b zd ha hb
theorem Reads.look {D : DataW Unit} {val : Int → Int → Int} (h : Reads D val) {a b c : Int} (ha : (Lit.int .i64 a).wf = true) (hb : (Lit.int .i64 b).wf = true) (hat : D.atKey (ck a b) (.lit (.int .i64 0)) = .lit (.int .i64 c)) : c = val a b := by
  rw [h.2 a b _ ha hb] at hat
  split at hat
  · simpa using hat.symm
  · rename_i h0
    have : (0 : Int) = c := by simpa using hat
    have h0 : val a b = 0 := by simpa using h0
    omega
theorem Reads.here {D : DataW Unit} {val : Int → Int → Int} (h : Reads D val) {a b : Int} (ha : (Lit.int .i64 a).wf = true) (hb : (Lit.int .i64 b).wf = true) (hv : val a b ≠ 0) : Maps.has D (ck a b) = true :=
  has_true_of_atKey (y := .lit (.int .i64 (val a b))) fun z => by rw [h.2 a b z ha hb, if_pos hv]
theorem Reads.entry {D : DataW Unit} {val : Int → Int → Int} (h : Reads D val) {a b c : Int} (ha : (Lit.int .i64 a).wf = true) (hb : (Lit.int .i64 b).wf = true) (hat : ∀ zd, D.atKey (ck a b) zd = .lit (.int .i64 c)) : c = val a b ∧ val a b ≠ 0 := by
  have h0 := h.look ha hb (hat _)
  refine ⟨h0, fun hv => ?_⟩
  have := hat (.lit (.bool true))
  rw [h.2 a b _ ha hb, if_neg (by simpa using hv)] at this
  simp at this
/-- one couple is as it should be -/
def coupleOk (rs : List (List Int)) (n : Nat) (a b : Int) : Prop := a ≠ b ∧ valTo rs n n 0 b a = backF (valTo rs n n 0 a b)
theorem rels_all {rs : List (List Int)} {n : Nat} (hn : rs.length = n) (h1 : 1 ≤ n) (h5 : n ≤ 5) (hrow : ∀ i, i < n → (rs.getD i []).length = n ∧ ∀ k, k < n → 0 ≤ relAt rs i k ∧ relAt rs i k ≤ 3)
    (hall : ∀ i k : Nat, i < n → k < n → relAt rs i k ≠ 0 → coupleOk rs n ((i : Int) + 1) ((k : Int) + 1)) : relsOkF rs = true := by
  rw [relsOk_good hn (fun i hi => ⟨(hrow i hi).1, fun k hk => ?_⟩), decide_eq_true h1, decide_eq_true h5]; rfl
  have hr := (hrow i hi).2 k hk
  have hr2 := (hrow k hk).2 i hi
  unfold relOkF
  rw [(hrow k hk).1, decide_eq_true rfl, decide_eq_true hr.1, decide_eq_true hr.2]
  by_cases h0 : relAt rs i k = 0
  · have h0' : relAt rs k i = 0 := by
      by_cases hne : relAt rs k i = 0
      · exact hne
      · have := (hall k i hk hi hne).2
        rw [valTo_all hi hk, valTo_all hk hi, h0] at this
        unfold backF at this
        split at this
        · cases this
        · split at this
          · cases this
          · exact this.symm
    rw [h0, h0']
    simp [backF]
  · obtain ⟨c1, c2⟩ := hall i k hi hk h0
    rw [valTo_all hk hi, valTo_all hi hk] at c2
    have hik : i ≠ k := by intro e; subst e; exact c1 rfl
    simp [c2, hik]
theorem rels_bad {rs : List (List Int)} {n i k : Nat} (hn : rs.length = n) (hi : i < n) (hk : k < n) (h0 : relAt rs i k ≠ 0) (hb : ¬ coupleOk rs n ((i : Int) + 1) ((k : Int) + 1)) : relsOkF rs = false := by
  refine relsOk_bad2 hn hi hk ?_
  unfold relOkF
  by_cases hik : i = k
  · subst hik
    simp [h0]
  · have : ¬ relAt rs k i = backF (relAt rs i k) := fun e => hb ⟨by omega, by rw [valTo_all hk hi, valTo_all hi hk]; exact e⟩
    simp [this]
theorem rels_cell {rs : List (List Int)} {n i k : Nat} (hn : rs.length = n) (hi : i < n) (hk : k < n) (hb : ¬ (0 ≤ relAt rs i k ∧ relAt rs i k ≤ 3)) : relsOkF rs = false := by
  refine relsOk_bad2 hn hi hk ?_
  unfold relOkF
  have : (decide (0 ≤ relAt rs i k) && decide (relAt rs i k ≤ 3)) = false := by
    rw [Bool.and_eq_false_iff, decide_eq_false_iff_not, decide_eq_false_iff_not]
    omega
  simp only [this]
  simp
theorem rels_size {rs : List (List Int)} {n : Nat} (hn : rs.length = n) (hb : ¬ (1 ≤ n ∧ n ≤ 5)) : relsOkF rs = false := by
  unfold relsOkF
  rw [hn]
  have : (decide (1 ≤ n) && decide (n ≤ 5)) = false := by
    rw [Bool.and_eq_false_iff, decide_eq_false_iff_not, decide_eq_false_iff_not]
    omega
  rw [this, Bool.and_false]
/-- what readRels carries -/
structure RR (w W : World) (n cnt : Nat) (val : Int → Int → Int) : Prop where
  bel : Below w.heap.size w W
  big : w.heap.size + 3 ≤ W.heap.size
  r0 : W.cell? ⟨w.heap.size, 0, none⟩ = some (.int .i64 0)
  r1 : W.cell? ⟨w.heap.size, 1, none⟩ = some (.map none)
  q0 : W.frozen? ⟨w.heap.size, 0, none⟩ = false
  q1 : W.frozen? ⟨w.heap.size, 1, none⟩ = false
  c0 : W.cell? ⟨w.heap.size + 2, 0, none⟩ = some (.int .i64 n)
  c1 : W.cell? ⟨w.heap.size + 2, 1, none⟩ = some (.map (some (w.heap.size + 1)))
  own : ∃ D : DataW Unit, W.ownsMap Try.prog 101 (plainElem Try.prog 3) (w.heap.size + 1) cnt D ∧ Reads D val
theorem RR.grown {w W W' : World} {n cnt cnt' : Nat} {val val' : Int → Int → Int} (h : RR w W n cnt val) {g : Nat} (hg : W.grownBy W' (some g)) (hlo : g ≠ w.heap.size ∧ g ≠ w.heap.size + 2 ∧ w.heap.size ≤ g)
    (ho : ∃ D : DataW Unit, W'.ownsMap Try.prog 101 (plainElem Try.prog 3) (w.heap.size + 1) cnt' D ∧ Reads D val') : RR w W' n cnt' val' := by
  have hbig := h.big
  have k0 : W'.heap[w.heap.size]? = W.heap[w.heap.size]? := hg.block _ (by omega) (by intro e; cases e; exact hlo.1 rfl)
  have k2 : W'.heap[w.heap.size + 2]? = W.heap[w.heap.size + 2]? := hg.block _ (by omega) (by intro e; cases e; exact hlo.2.1 rfl)
  exact ⟨h.bel.grown hg h.bel.size (fun j hj => by cases hj; exact hlo.2.2), Nat.le_trans hbig hg.size,
    (World.cell?_of_block k0).trans h.r0, (World.cell?_of_block k0).trans h.r1, (World.frozen?_of_block k0).trans h.q0, (World.frozen?_of_block k0).trans h.q1,
    (World.cell?_of_block k2).trans h.c0, (World.cell?_of_block k2).trans h.c1, ho⟩
theorem RR.below {w W W' : World} {n cnt : Nat} {val : Int → Int → Int} (h : RR w W n cnt val) (hb : Below W.heap.size W W') : RR w W' n cnt val := by
  have hbig := h.big
  obtain ⟨D, o1, o2⟩ := h.own
  have hg : W.grownBy W' none := ⟨hb.os, hb.tape, hb.output, hb.size, fun k hk _ => hb.block k hk⟩
  exact ⟨h.bel.trans (hb.mono h.bel.size), Nat.le_trans hbig hb.size, (hb.cell (p := ⟨w.heap.size, 0, none⟩) (by simp; omega)).trans h.r0, (hb.cell (p := ⟨w.heap.size, 1, none⟩) (by simp; omega)).trans h.r1,
    (hb.frozen (p := ⟨w.heap.size, 0, none⟩) (by simp; omega)).trans h.q0, (hb.frozen (p := ⟨w.heap.size, 1, none⟩) (by simp; omega)).trans h.q1,
    (hb.cell (p := ⟨w.heap.size + 2, 0, none⟩) (by simp; omega)).trans h.c0, (hb.cell (p := ⟨w.heap.size + 2, 1, none⟩) (by simp; omega)).trans h.c1, D, o1.kept hg (by simp), o2⟩
theorem RR.mono {w W : World} {n cnt cnt' : Nat} {val : Int → Int → Int} (h : RR w W n cnt val) (hc : cnt ≤ cnt') : RR w W n cnt' val := by
  obtain ⟨D, o1, o2⟩ := h.own
  exact ⟨h.bel, h.big, h.r0, h.r1, h.q0, h.q1, h.c0, h.c1, D, o1.mono hc, o2⟩
theorem own_set2 {w : World} {b n g : Nat} {D : DataW Unit} {u0 u1 : Value} (h : w.ownsMap Try.prog 101 (plainElem Try.prog 3) b n D) (hne : b ≠ g) : ((w.setCell ⟨g, 0, none⟩ u0).setCell ⟨g, 1, none⟩ u1).ownsMap Try.prog 101 (plainElem Try.prog 3) b n D :=
  h.kept (row := some g) ⟨rfl, rfl, rfl, by simp [World.setCell], fun k _ hk => (Below.heap_setCell _ _ _ _ (by intro e; exact hk (by rw [e]))).trans (Below.heap_setCell _ _ _ _ (by intro e; exact hk (by rw [e])))⟩ (by simpa using hne)
theorem ranges_drew {W : World} {b r n cnt : Nat} {D : DataW Unit} {left : Lit → Bool} (h : W.ranges Try.prog 101 (plainElem Try.prog 3) b r n D left cnt) : W.drew.ranges Try.prog 101 (plainElem Try.prog 3) b r n D left cnt := h
theorem ranges_left_drew (W : World) (b r : Nat) : W.drew.rangeLeft b r = W.rangeLeft b r := rfl
/-- what readRels hands back -/
def ReadPost (rs : List (List Int)) (w : World) (e : Ending) (w' : World) : Prop :=
  ∃ (m : Int) (ob : Option Nat), e = .returned (.tuple #[.agg #[.int .i64 m, .map ob], .bool (relsOkF rs)]) ∧ Below w.heap.size w w' ∧
    (relsOkF rs = true → m = (rs.length : Int) ∧ ∃ (B cnt : Nat) (D : DataW Unit), ob = some B ∧ w.heap.size ≤ B ∧ cnt ≤ 100 ∧ w'.ownsMap Try.prog 101 (plainElem Try.prog 3) B cnt D ∧ Reads D (valTo rs rs.length rs.length 0))
theorem readPost_no {rs : List (List Int)} {w w' : World} (h : relsOkF rs = false) (hb : Below w.heap.size w w') : ReadPost rs w (.returned (.tuple #[.agg #[.int .i64 0, .map none], .bool false])) w' :=
  ⟨0, none, by rw [h], hb, fun h' => by rw [h] at h'; cases h'⟩
theorem readPost_yes {rs : List (List Int)} {w w' : World} {n B cnt : Nat} {D : DataW Unit} (h : relsOkF rs = true) (hn : rs.length = n) (hb : Below w.heap.size w w') (hB : w.heap.size ≤ B) (hc : cnt ≤ 100) (ho : w'.ownsMap Try.prog 101 (plainElem Try.prog 3) B cnt D) (hr : Reads D (valTo rs n n 0)) :
    ReadPost rs w (.returned (.tuple #[.agg #[.int .i64 (n : Int), .map (some B)], .bool true])) w' :=
  ⟨n, some B, by rw [h], hb, fun _ => ⟨by rw [hn], B, cnt, D, rfl, hB, hc, ho, by rw [hn]; exact hr⟩⟩
theorem cell_two0 (W : World) (x y : Value) (T : TypeId) : (W.alloc (.cells #[x, y] T)).cell? ⟨W.heap.size, 0, none⟩ = some x := by simp
theorem cell_two1 (W : World) (x y : Value) (T : TypeId) : (W.alloc (.cells #[x, y] T)).cell? ⟨W.heap.size, 1, none⟩ = some y := by simp
theorem rr_start (w : World) (n : Nat) : RR w (((w.alloc (.cells #[.int .i64 0, .map none] 67)).alloc (.map #[] 0)).alloc (.cells #[.int .i64 (n : Int), .map (some (w.heap.size + 1))] 67)) n 0 (fun _ _ => 0) := by
  have hA : (w.alloc (.cells #[.int .i64 0, .map none] 67)).heap.size = w.heap.size + 1 := World.size_alloc _ _
  have ho := World.ownsMap_made (w.alloc (.cells #[.int .i64 0, .map none] 67)) Try.prog 101 (plainElem (H := Unit) Try.prog 3)
  rw [hA] at ho
  have hM : ((w.alloc (.cells #[.int .i64 0, .map none] 67)).alloc (.map #[] 0)).heap.size = w.heap.size + 2 := by rw [World.size_alloc, hA]
  have c : ∀ j, (((w.alloc (.cells #[.int .i64 0, .map none] 67)).alloc (.map #[] 0)).alloc (.cells #[.int .i64 (n : Int), .map (some (w.heap.size + 1))] 67)).cell? ⟨w.heap.size, j, none⟩ = ((w.alloc (.cells #[.int .i64 0, .map none] 67)).alloc (.map #[] 0)).cell? ⟨w.heap.size, j, none⟩ := fun j => World.cell?_alloc_past _ _ _ (by rw [hM]; omega)
  have c' : ∀ j, ((w.alloc (.cells #[.int .i64 0, .map none] 67)).alloc (.map #[] 0)).cell? ⟨w.heap.size, j, none⟩ = (w.alloc (.cells #[.int .i64 0, .map none] 67)).cell? ⟨w.heap.size, j, none⟩ := fun j => World.cell?_alloc_past _ _ _ (by rw [hA]; omega)
  have f : ∀ j, (((w.alloc (.cells #[.int .i64 0, .map none] 67)).alloc (.map #[] 0)).alloc (.cells #[.int .i64 (n : Int), .map (some (w.heap.size + 1))] 67)).frozen? ⟨w.heap.size, j, none⟩ = ((w.alloc (.cells #[.int .i64 0, .map none] 67)).alloc (.map #[] 0)).frozen? ⟨w.heap.size, j, none⟩ := fun j => World.frozen?_alloc_past _ _ _ (by rw [hM]; omega)
  have f' : ∀ j, ((w.alloc (.cells #[.int .i64 0, .map none] 67)).alloc (.map #[] 0)).frozen? ⟨w.heap.size, j, none⟩ = (w.alloc (.cells #[.int .i64 0, .map none] 67)).frozen? ⟨w.heap.size, j, none⟩ := fun j => World.frozen?_alloc_past _ _ _ (by rw [hA]; omega)
  refine ⟨by repeat (first | exact Below.refl _ _ | assumption | refine Below.drew ?_ | refine belowDrewN ?_ _ | refine Below.alloc ?_ (by first | exact Nat.le_refl _ | omega | (simp; done) | (simp; omega)) _ | refine Below.setCell ?_ (by first | exact Nat.le_refl _ | omega | (simp; done) | (simp; omega)) _), by simp, (c 0).trans ((c' 0).trans (by simp)), (c 1).trans ((c' 1).trans (by simp)), (f 0).trans ((f' 0).trans (by simp)), (f 1).trans ((f' 1).trans (by simp)), ?_, ?_, .map [], ho.alloc _, reads_empty⟩
  · have := cell_two0 ((w.alloc (.cells #[.int .i64 0, .map none] 67)).alloc (.map #[] 0)) (.int .i64 (n : Int)) (.map (some (w.heap.size + 1))) 67; rw [hM] at this; exact this
  · have := cell_two1 ((w.alloc (.cells #[.int .i64 0, .map none] 67)).alloc (.map #[] 0)) (.int .i64 (n : Int)) (.map (some (w.heap.size + 1))) 67; rw [hM] at this; exact this
set_option maxHeartbeats 1000000 in
theorem mirror_any (x : Int) (w : World) : Calls Try.prog 65 #[.int .i64 x] w fun e w' => e = .returned (.int .i64 (backF x)) ∧ w' = w := by
  by_cases h1 : x = 1
  · subst h1
    go_enter Try.func65, Try.ntmps65
    go_wp2_with fail
    go_ret
    exact ⟨rfl, rfl⟩
  · have hb1 : (x == 1) = false := by simp [h1]
    by_cases h3 : x = 3
    · subst h3
      go_enter Try.func65, Try.ntmps65
      go_wp2_with fail
      go_ret
      exact ⟨rfl, rfl⟩
    · have hb3 : (x == 3) = false := by simp [h3]
      have hF : backF x = x := by unfold backF; rw [if_neg h1, if_neg h3]
      rw [hF]
      go_enter Try.func65, Try.ntmps65
      go_wp2_with fail
      go_ret
      exact ⟨rfl, rfl⟩
end Go.Proofs.Ytgpdkplpneklgaa
