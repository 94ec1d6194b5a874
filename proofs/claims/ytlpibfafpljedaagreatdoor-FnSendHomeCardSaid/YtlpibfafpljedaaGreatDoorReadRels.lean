/- Maps keyed by two houses. What impl.readRels puts into its map: plain words. impl.readRels, walked. -/
import Derived.Test.YtlpibfafpljedaaGreatDoorRelsP
import Derived.Maps.RangeWalk
import Derived.Maps.Views
import Derived.Maps.OwnOps
import Derived.DeepKeys4
import Derived.Test.YtlpibfafpljedaaGreatDoorDrawRng
import Derived.Carry
import Derived.LoopTactic
namespace Go.Proofs.YtlpibfafpljedaaGreatDoor
open Go.RowKit Go.Maps
set_option linter.unusedVariables false
set_option maxRecDepth 100000

theorem cp_laid : laidOutB Tryz.prog = true := by kernel_rfl
theorem cp_row : (87 : TypeId) < Tryz.prog.types.size := of_decide_eq_true (by kernel_rfl)
theorem cp_deep : Tryz.prog.keyTypeAt (Tryz.prog.types.size + 1) 87 = true := by kernel_rfl
theorem cp_wide : (match Tryz.prog.underlying 87 with | some (.array _ _) | some (.struct _) => true | _ => false) = true := by kernel_rfl
set_option maxRecDepth 100000 in
theorem cp_law : Keyed Tryz.prog 87 := Keyed.of_law (deep_law_laid cp_laid (m := 2) (by omega) cp_row (by kernel_rfl) cp_wide)
theorem cp_cells : Tryz.prog.cellsOf 87 = 2 := by kernel_rfl
theorem cp_int : Tryz.prog.cellsOf 3 = 1 := by kernel_rfl
theorem cp_zero (w : World) : (zeroValue 3).run Tryz.prog w = .ok (.int .i64 0) w := by kernel_rfl
theorem succ_of {n m : Nat} (h : n < m) : ∃ d, m = d + 1 := ⟨m - 1, by omega⟩
set_option maxRecDepth 100000 in
theorem cp_size : ∃ d, Tryz.prog.types.size = d + 1 := succ_of cp_row
def ck (a b : Int) : Lit := .string (keyBytes [.int .i64 a, .int .i64 b])
theorem cp_key {a b : Int} (ha : (Lit.int .i64 a).wf = true) (hb : (Lit.int .i64 b).wf = true) : keyOf Tryz.prog 87 (.agg #[.int .i64 a, .int .i64 b]) = some (ck a b) := by
  unfold keyOf
  simp only [Tryz.underlying87]
  have h1 : Tryz.prog.keyType 87 = true := cp_deep
  have h2 : (Value.agg #[.int .i64 a, .int .i64 b]).formed Tryz.prog 87 = true := by simp [Value.formed, Tryz.underlying87, cp_cells]
  rw [h1, h2]
  obtain ⟨d, hd⟩ := cp_size
  rw [hd]
  simp [Program.keyLits, Tryz.underlying87, Tryz.underlying3, cp_cells, cp_int, ha, hb, ck, Value.cells]
theorem ck_inj {a b a' b' : Int} (ha : (Lit.int .i64 a).wf = true) (hb : (Lit.int .i64 b).wf = true) (ha' : (Lit.int .i64 a').wf = true) (hb' : (Lit.int .i64 b').wf = true) (h : ck a b = ck a' b') : a = a' ∧ b = b' := by
  have e1 := cp_key ha hb
  have e2 := cp_key ha' hb'
  rw [h] at e1
  have := cp_law.inj e1 e2
  simpa using this
theorem cp_inv {key : Value} {kl : Lit} (h : keyOf Tryz.prog 87 key = some kl) : ∃ x : Int × Int, key = .agg #[.int .i64 x.1, .int .i64 x.2] ∧ kl = ck x.1 x.2 ∧ (Lit.int .i64 x.1).wf = true ∧ (Lit.int .i64 x.2).wf = true := by
  unfold keyOf at h
  simp only [Tryz.underlying87] at h
  split at h
  · rename_i hf
    rw [Bool.and_eq_true] at hf
    have hform := hf.2
    unfold Value.formed at hform
    split at hform
    · simp only [Tryz.underlying87, cp_cells, beq_iff_eq] at hform
      rename_i cs
      obtain ⟨l⟩ := cs
      match l, hform with
      | [c0, c1], _ =>
        obtain ⟨d, hd⟩ := cp_size
        rw [hd] at h
        simp [Program.keyLits, Tryz.underlying87, Tryz.underlying3, cp_cells, cp_int, Value.cells] at h
        cases c0 <;> simp at h
        rename_i q0 a _
        by_cases hc : q0 = IntKind.i64 ∧ (Lit.int IntKind.i64 a).wf = true
        · obtain ⟨rfl, hwa⟩ := hc
          simp [hwa] at h
          cases c1 <;> simp at h
          rename_i q1 b _
          by_cases hc : q1 = IntKind.i64 ∧ (Lit.int IntKind.i64 b).wf = true
          · obtain ⟨rfl, hwb⟩ := hc
            simp [hwb] at h
            exact ⟨(a, b), rfl, h.symm, hwa, hwb⟩
          · simp [hc] at h
        · simp [hc] at h
    · cases hform
    · rw [Tryz.underlying87] at hform
      cases hform
  · cases h
end Go.Proofs.YtlpibfafpljedaaGreatDoor

namespace Go.Proofs.YtlpibfafpljedaaGreatDoor
open Go.RowKit Go.Maps
set_option linter.unusedVariables false
set_option maxRecDepth 100000

/-- what the map holds before house i + 1's k-th neighbour is read -/
def valTo (rs : List (List Int)) (n i k : Nat) (a b : Int) : Int := if 1 ≤ a ∧ 1 ≤ b ∧ b ≤ (n : Int) ∧ (a ≤ (i : Int) ∨ (a = (i : Int) + 1 ∧ b ≤ (k : Int))) then relAt rs (a - 1).toNat (b - 1).toNat else 0
theorem valTo_step {rs : List (List Int)} {n i k : Nat} (hk : k < n) : valTo rs n i (k + 1) = fun a b => if a = (i : Int) + 1 ∧ b = (k : Int) + 1 then relAt rs i k else valTo rs n i k a b := by
  funext a b
  unfold valTo
  by_cases h : a = (i : Int) + 1 ∧ b = (k : Int) + 1
  · obtain ⟨rfl, rfl⟩ := h
    rw [if_pos (by omega), if_pos ⟨rfl, rfl⟩]
    congr 1 <;> omega
  · rw [if_neg h]
    by_cases h2 : 1 ≤ a ∧ 1 ≤ b ∧ b ≤ (n : Int) ∧ (a ≤ (i : Int) ∨ (a = (i : Int) + 1 ∧ b ≤ (k : Int)))
    · rw [if_pos h2, if_pos (by omega)]
    · rw [if_neg h2, if_neg (by omega)]
theorem valTo_zero {rs : List (List Int)} {n i k : Nat} (hk : k < n) (h0 : relAt rs i k = 0) : valTo rs n i (k + 1) = valTo rs n i k := by
  rw [valTo_step hk]
  funext a b
  by_cases h : a = (i : Int) + 1 ∧ b = (k : Int) + 1
  · rw [if_pos h, h0]
    unfold valTo
    rw [if_neg (by omega)]
  · rw [if_neg h]
theorem valTo_row {rs : List (List Int)} {n i : Nat} : valTo rs n i n = valTo rs n (i + 1) 0 := by
  funext a b
  unfold valTo
  by_cases h : 1 ≤ a ∧ 1 ≤ b ∧ b ≤ (n : Int) ∧ (a ≤ (i : Int) ∨ (a = (i : Int) + 1 ∧ b ≤ (n : Int)))
  · rw [if_pos h, if_pos (by omega)]
  · rw [if_neg h, if_neg (by omega)]
theorem valTo_none {rs : List (List Int)} {n : Nat} : valTo rs n 0 0 = fun _ _ => 0 := by
  funext a b
  unfold valTo
  rw [if_neg (by omega)]
theorem valTo_all {rs : List (List Int)} {n i k : Nat} (hi : i < n) (hk : k < n) : valTo rs n n 0 ((i : Int) + 1) ((k : Int) + 1) = relAt rs i k := by
  unfold valTo
  rw [if_pos (by omega)]
  congr 1 <;> omega
theorem valTo_in {rs : List (List Int)} {n : Nat} {a b : Int} (h : valTo rs n n 0 a b ≠ 0) : ∃ i k : Nat, i < n ∧ k < n ∧ a = (i : Int) + 1 ∧ b = (k : Int) + 1 := by
  unfold valTo at h
  split at h
  · rename_i hc
    exact ⟨(a - 1).toNat, (b - 1).toNat, by omega, by omega, by omega, by omega⟩
  · exact absurd rfl h
/-- the map reads as that -/
def Reads (D : DataW Unit) (val : Int → Int → Int) : Prop := IsMap D ∧ ∀ a b zd, (Lit.int .i64 a).wf = true → (Lit.int .i64 b).wf = true → D.atKey (ck a b) zd = if val a b ≠ 0 then .lit (.int .i64 (val a b)) else zd
theorem reads_empty : Reads (.map []) (fun _ _ => 0) := ⟨isMap_empty, fun a b zd _ _ => by simp [DataW.atKey]⟩
theorem Reads.put {D : DataW Unit} {val : Int → Int → Int} (h : Reads D val) {i k c : Int} (hi : (Lit.int .i64 i).wf = true) (hk : (Lit.int .i64 k).wf = true) (hc : c ≠ 0) :
    Reads (D.put (ck i k) (.lit (.int .i64 c))) (fun a b => if a = i ∧ b = k then c else val a b) := by
  refine ⟨h.1.put _ _, fun a b zd ha hb => ?_⟩
  show _ = if (if a = i ∧ b = k then c else val a b) ≠ 0 then DataW.lit (.int .i64 (if a = i ∧ b = k then c else val a b)) else zd
  by_cases hab : a = i ∧ b = k
  · obtain ⟨rfl, rfl⟩ := hab
    have e : (if a = a ∧ b = b then c else val a b) = c := if_pos ⟨rfl, rfl⟩
    rw [atKey_put_same h.1 (cp_law.key (cp_key ha hb)), e, if_pos hc]
  · rw [atKey_put_other (fun e => hab (ck_inj ha hb hi hk e)), if_neg hab]
    exact h.2 a b zd ha hb
theorem Reads.look {D : DataW Unit} {val : Int → Int → Int} (h : Reads D val) {a b c : Int} (ha : (Lit.int .i64 a).wf = true) (hb : (Lit.int .i64 b).wf = true) (hat : D.atKey (ck a b) (.lit (.int .i64 0)) = .lit (.int .i64 c)) : c = val a b := by
  rw [h.2 a b _ ha hb] at hat
  split at hat
  · simpa using hat.symm
  · rename_i h0
    have : (0 : Int) = c := by simpa using hat
    have h0 : val a b = 0 := by simpa using h0
    omega
theorem Reads.here {D : DataW Unit} {val : Int → Int → Int} (h : Reads D val) {a b : Int} (ha : (Lit.int .i64 a).wf = true) (hb : (Lit.int .i64 b).wf = true) (hv : val a b ≠ 0) : Maps.has D (ck a b) = true :=
  has_true_of_atKey (y := .lit (.int .i64 (val a b))) fun z => by rw [h.2 a b z ha hb, if_pos hv]
theorem Reads.entry {D : DataW Unit} {val : Int → Int → Int} (h : Reads D val) {a b c : Int} (ha : (Lit.int .i64 a).wf = true) (hb : (Lit.int .i64 b).wf = true) (hat : ∀ zd, D.atKey (ck a b) zd = .lit (.int .i64 c)) : c = val a b ∧ val a b ≠ 0 := by
  have h0 := h.look ha hb (hat _)
  refine ⟨h0, fun hv => ?_⟩
  have := hat (.lit (.bool true))
  rw [h.2 a b _ ha hb, if_neg (by simpa using hv)] at this
  simp at this
/-- one couple is as it should be -/
def coupleOk (rs : List (List Int)) (n : Nat) (a b : Int) : Prop := a ≠ b ∧ valTo rs n n 0 b a = backF (valTo rs n n 0 a b)
theorem rels_all {rs : List (List Int)} {n : Nat} (hn : rs.length = n) (h1 : 1 ≤ n) (h5 : n ≤ 5) (hrow : ∀ i, i < n → (rs.getD i []).length = n ∧ ∀ k, k < n → 0 ≤ relAt rs i k ∧ relAt rs i k ≤ 3)
    (hall : ∀ i k : Nat, i < n → k < n → relAt rs i k ≠ 0 → coupleOk rs n ((i : Int) + 1) ((k : Int) + 1)) : relsOkF rs = true := by
  rw [relsOk_good hn (fun i hi => ⟨(hrow i hi).1, fun k hk => ?_⟩), decide_eq_true h1, decide_eq_true h5]; rfl
  have hr := (hrow i hi).2 k hk
  have hr2 := (hrow k hk).2 i hi
  unfold relOkF
  rw [(hrow k hk).1, decide_eq_true rfl, decide_eq_true hr.1, decide_eq_true hr.2]
  by_cases h0 : relAt rs i k = 0
  · have h0' : relAt rs k i = 0 := by
      by_cases hne : relAt rs k i = 0
      · exact hne
      · have := (hall k i hk hi hne).2
        rw [valTo_all hi hk, valTo_all hk hi, h0] at this
        unfold backF at this
        split at this
        · cases this
        · split at this
          · cases this
          · exact this.symm
    rw [h0, h0']
    simp [backF]
  · obtain ⟨c1, c2⟩ := hall i k hi hk h0
    rw [valTo_all hk hi, valTo_all hi hk] at c2
    have hik : i ≠ k := by intro e; subst e; exact c1 rfl
    simp [c2, hik]
theorem rels_bad {rs : List (List Int)} {n i k : Nat} (hn : rs.length = n) (hi : i < n) (hk : k < n) (h0 : relAt rs i k ≠ 0) (hb : ¬ coupleOk rs n ((i : Int) + 1) ((k : Int) + 1)) : relsOkF rs = false := by
  refine relsOk_bad2 hn hi hk ?_
  unfold relOkF
  by_cases hik : i = k
  · subst hik
    simp [h0]
  · have : ¬ relAt rs k i = backF (relAt rs i k) := fun e => hb ⟨by omega, by rw [valTo_all hk hi, valTo_all hi hk]; exact e⟩
    simp [this]
theorem rels_cell {rs : List (List Int)} {n i k : Nat} (hn : rs.length = n) (hi : i < n) (hk : k < n) (hb : ¬ (0 ≤ relAt rs i k ∧ relAt rs i k ≤ 3)) : relsOkF rs = false := by
  refine relsOk_bad2 hn hi hk ?_
  unfold relOkF
  have : (decide (0 ≤ relAt rs i k) && decide (relAt rs i k ≤ 3)) = false := by
    rw [Bool.and_eq_false_iff, decide_eq_false_iff_not, decide_eq_false_iff_not]
    omega
  simp only [this]
  simp
theorem rels_size {rs : List (List Int)} {n : Nat} (hn : rs.length = n) (hb : ¬ (1 ≤ n ∧ n ≤ 5)) : relsOkF rs = false := by
  unfold relsOkF
  rw [hn]
  have : (decide (1 ≤ n) && decide (n ≤ 5)) = false := by
    rw [Bool.and_eq_false_iff, decide_eq_false_iff_not, decide_eq_false_iff_not]
    omega
  rw [this, Bool.and_false]
/-- what readRels carries -/
structure RR (w W : World) (n cnt : Nat) (val : Int → Int → Int) : Prop where
  bel : Below w.heap.size w W
  big : w.heap.size + 3 ≤ W.heap.size
  r0 : W.cell? ⟨w.heap.size, 0, none⟩ = some (.int .i64 0)
  r1 : W.cell? ⟨w.heap.size, 1, none⟩ = some (.map none)
  q0 : W.frozen? ⟨w.heap.size, 0, none⟩ = false
  q1 : W.frozen? ⟨w.heap.size, 1, none⟩ = false
  c0 : W.cell? ⟨w.heap.size + 2, 0, none⟩ = some (.int .i64 n)
  c1 : W.cell? ⟨w.heap.size + 2, 1, none⟩ = some (.map (some (w.heap.size + 1)))
  own : ∃ D : DataW Unit, W.ownsMap Tryz.prog 87 (plainElem Tryz.prog 3) (w.heap.size + 1) cnt D ∧ Reads D val
theorem RR.grown {w W W' : World} {n cnt cnt' : Nat} {val val' : Int → Int → Int} (h : RR w W n cnt val) {g : Nat} (hg : W.grownBy W' (some g)) (hlo : g ≠ w.heap.size ∧ g ≠ w.heap.size + 2 ∧ w.heap.size ≤ g)
    (ho : ∃ D : DataW Unit, W'.ownsMap Tryz.prog 87 (plainElem Tryz.prog 3) (w.heap.size + 1) cnt' D ∧ Reads D val') : RR w W' n cnt' val' := by
  have hbig := h.big
  have k0 : W'.heap[w.heap.size]? = W.heap[w.heap.size]? := hg.block _ (by omega) (by intro e; cases e; exact hlo.1 rfl)
  have k2 : W'.heap[w.heap.size + 2]? = W.heap[w.heap.size + 2]? := hg.block _ (by omega) (by intro e; cases e; exact hlo.2.1 rfl)
  exact ⟨h.bel.grown hg h.bel.size (fun j hj => by cases hj; exact hlo.2.2), Nat.le_trans hbig hg.size,
    (World.cell?_of_block k0).trans h.r0, (World.cell?_of_block k0).trans h.r1, (World.frozen?_of_block k0).trans h.q0, (World.frozen?_of_block k0).trans h.q1,
    (World.cell?_of_block k2).trans h.c0, (World.cell?_of_block k2).trans h.c1, ho⟩
theorem RR.below {w W W' : World} {n cnt : Nat} {val : Int → Int → Int} (h : RR w W n cnt val) (hb : Below W.heap.size W W') : RR w W' n cnt val := by
  have hbig := h.big
  obtain ⟨D, o1, o2⟩ := h.own
  have hg : W.grownBy W' none := ⟨hb.os, hb.tape, hb.output, hb.size, fun k hk _ => hb.block k hk⟩
  exact ⟨h.bel.trans (hb.mono h.bel.size), Nat.le_trans hbig hb.size, (hb.cell (p := ⟨w.heap.size, 0, none⟩) (by simp; omega)).trans h.r0, (hb.cell (p := ⟨w.heap.size, 1, none⟩) (by simp; omega)).trans h.r1,
    (hb.frozen (p := ⟨w.heap.size, 0, none⟩) (by simp; omega)).trans h.q0, (hb.frozen (p := ⟨w.heap.size, 1, none⟩) (by simp; omega)).trans h.q1,
    (hb.cell (p := ⟨w.heap.size + 2, 0, none⟩) (by simp; omega)).trans h.c0, (hb.cell (p := ⟨w.heap.size + 2, 1, none⟩) (by simp; omega)).trans h.c1, D, o1.kept hg (by simp), o2⟩
theorem RR.mono {w W : World} {n cnt cnt' : Nat} {val : Int → Int → Int} (h : RR w W n cnt val) (hc : cnt ≤ cnt') : RR w W n cnt' val := by
  obtain ⟨D, o1, o2⟩ := h.own
  exact ⟨h.bel, h.big, h.r0, h.r1, h.q0, h.q1, h.c0, h.c1, D, o1.mono hc, o2⟩
theorem own_set2 {w : World} {b n g : Nat} {D : DataW Unit} {u0 u1 : Value} (h : w.ownsMap Tryz.prog 87 (plainElem Tryz.prog 3) b n D) (hne : b ≠ g) : ((w.setCell ⟨g, 0, none⟩ u0).setCell ⟨g, 1, none⟩ u1).ownsMap Tryz.prog 87 (plainElem Tryz.prog 3) b n D :=
  h.kept (row := some g) ⟨rfl, rfl, rfl, by simp [World.setCell], fun k _ hk => (Below.heap_setCell _ _ _ _ (by intro e; exact hk (by rw [e]))).trans (Below.heap_setCell _ _ _ _ (by intro e; exact hk (by rw [e])))⟩ (by simpa using hne)
theorem ranges_drew {W : World} {b r n cnt : Nat} {D : DataW Unit} {left : Lit → Bool} (h : W.ranges Tryz.prog 87 (plainElem Tryz.prog 3) b r n D left cnt) : W.drew.ranges Tryz.prog 87 (plainElem Tryz.prog 3) b r n D left cnt := h
theorem ranges_left_drew (W : World) (b r : Nat) : W.drew.rangeLeft b r = W.rangeLeft b r := rfl
/-- what readRels hands back -/
def ReadPost (rs : List (List Int)) (w : World) (e : Ending) (w' : World) : Prop :=
  ∃ (m : Int) (ob : Option Nat), e = .returned (.tuple #[.agg #[.int .i64 m, .map ob], .bool (relsOkF rs)]) ∧ Below w.heap.size w w' ∧
    (relsOkF rs = true → m = (rs.length : Int) ∧ ∃ (B cnt : Nat) (D : DataW Unit), ob = some B ∧ w.heap.size ≤ B ∧ cnt ≤ 100 ∧ w'.ownsMap Tryz.prog 87 (plainElem Tryz.prog 3) B cnt D ∧ Reads D (valTo rs rs.length rs.length 0))
theorem readPost_no {rs : List (List Int)} {w w' : World} (h : relsOkF rs = false) (hb : Below w.heap.size w w') : ReadPost rs w (.returned (.tuple #[.agg #[.int .i64 0, .map none], .bool false])) w' :=
  ⟨0, none, by rw [h], hb, fun h' => by rw [h] at h'; cases h'⟩
theorem readPost_yes {rs : List (List Int)} {w w' : World} {n B cnt : Nat} {D : DataW Unit} (h : relsOkF rs = true) (hn : rs.length = n) (hb : Below w.heap.size w w') (hB : w.heap.size ≤ B) (hc : cnt ≤ 100) (ho : w'.ownsMap Tryz.prog 87 (plainElem Tryz.prog 3) B cnt D) (hr : Reads D (valTo rs n n 0)) :
    ReadPost rs w (.returned (.tuple #[.agg #[.int .i64 (n : Int), .map (some B)], .bool true])) w' :=
  ⟨n, some B, by rw [h], hb, fun _ => ⟨by rw [hn], B, cnt, D, rfl, hB, hc, ho, by rw [hn]; exact hr⟩⟩
theorem cell_two0 (W : World) (x y : Value) (T : TypeId) : (W.alloc (.cells #[x, y] T)).cell? ⟨W.heap.size, 0, none⟩ = some x := by simp
theorem cell_two1 (W : World) (x y : Value) (T : TypeId) : (W.alloc (.cells #[x, y] T)).cell? ⟨W.heap.size, 1, none⟩ = some y := by simp
theorem rr_start (w : World) (n : Nat) : RR w (((w.alloc (.cells #[.int .i64 0, .map none] 55)).alloc (.map #[] 0)).alloc (.cells #[.int .i64 (n : Int), .map (some (w.heap.size + 1))] 55)) n 0 (fun _ _ => 0) := by
  have hA : (w.alloc (.cells #[.int .i64 0, .map none] 55)).heap.size = w.heap.size + 1 := World.size_alloc _ _
  have ho := World.ownsMap_made (w.alloc (.cells #[.int .i64 0, .map none] 55)) Tryz.prog 87 (plainElem (H := Unit) Tryz.prog 3)
  rw [hA] at ho
  have hM : ((w.alloc (.cells #[.int .i64 0, .map none] 55)).alloc (.map #[] 0)).heap.size = w.heap.size + 2 := by rw [World.size_alloc, hA]
  have c : ∀ j, (((w.alloc (.cells #[.int .i64 0, .map none] 55)).alloc (.map #[] 0)).alloc (.cells #[.int .i64 (n : Int), .map (some (w.heap.size + 1))] 55)).cell? ⟨w.heap.size, j, none⟩ = ((w.alloc (.cells #[.int .i64 0, .map none] 55)).alloc (.map #[] 0)).cell? ⟨w.heap.size, j, none⟩ := fun j => World.cell?_alloc_past _ _ _ (by rw [hM]; omega)
  have c' : ∀ j, ((w.alloc (.cells #[.int .i64 0, .map none] 55)).alloc (.map #[] 0)).cell? ⟨w.heap.size, j, none⟩ = (w.alloc (.cells #[.int .i64 0, .map none] 55)).cell? ⟨w.heap.size, j, none⟩ := fun j => World.cell?_alloc_past _ _ _ (by rw [hA]; omega)
  have f : ∀ j, (((w.alloc (.cells #[.int .i64 0, .map none] 55)).alloc (.map #[] 0)).alloc (.cells #[.int .i64 (n : Int), .map (some (w.heap.size + 1))] 55)).frozen? ⟨w.heap.size, j, none⟩ = ((w.alloc (.cells #[.int .i64 0, .map none] 55)).alloc (.map #[] 0)).frozen? ⟨w.heap.size, j, none⟩ := fun j => World.frozen?_alloc_past _ _ _ (by rw [hM]; omega)
  have f' : ∀ j, ((w.alloc (.cells #[.int .i64 0, .map none] 55)).alloc (.map #[] 0)).frozen? ⟨w.heap.size, j, none⟩ = (w.alloc (.cells #[.int .i64 0, .map none] 55)).frozen? ⟨w.heap.size, j, none⟩ := fun j => World.frozen?_alloc_past _ _ _ (by rw [hA]; omega)
  refine ⟨by repeat (first | exact Below.refl _ _ | assumption | refine Below.drew ?_ | refine belowDrewN ?_ _ | refine Below.alloc ?_ (by first | exact Nat.le_refl _ | omega | (simp; done) | (simp; omega)) _ | refine Below.setCell ?_ (by first | exact Nat.le_refl _ | omega | (simp; done) | (simp; omega)) _), by simp, (c 0).trans ((c' 0).trans (by simp)), (c 1).trans ((c' 1).trans (by simp)), (f 0).trans ((f' 0).trans (by simp)), (f 1).trans ((f' 1).trans (by simp)), ?_, ?_, .map [], ho.alloc _, reads_empty⟩
  · have := cell_two0 ((w.alloc (.cells #[.int .i64 0, .map none] 55)).alloc (.map #[] 0)) (.int .i64 (n : Int)) (.map (some (w.heap.size + 1))) 55; rw [hM] at this; exact this
  · have := cell_two1 ((w.alloc (.cells #[.int .i64 0, .map none] 55)).alloc (.map #[] 0)) (.int .i64 (n : Int)) (.map (some (w.heap.size + 1))) 55; rw [hM] at this; exact this
set_option maxHeartbeats 1000000 in
theorem mirror_any (x : Int) (w : World) : Calls Tryz.prog 43 #[.int .i64 x] w fun e w' => e = .returned (.int .i64 (backF x)) ∧ w' = w := by
  by_cases h1 : x = 1
  · subst h1
    go_enter Tryz.func43, Tryz.ntmps43
    go_wp2_with fail
    go_ret
    exact ⟨rfl, rfl⟩
  · have hb1 : (x == 1) = false := by simp [h1]
    by_cases h3 : x = 3
    · subst h3
      go_enter Tryz.func43, Tryz.ntmps43
      go_wp2_with fail
      go_ret
      exact ⟨rfl, rfl⟩
    · have hb3 : (x == 3) = false := by simp [h3]
      have hF : backF x = x := by unfold backF; rw [if_neg h1, if_neg h3]
      rw [hF]
      go_enter Tryz.func43, Tryz.ntmps43
      go_wp2_with fail
      go_ret
      exact ⟨rfl, rfl⟩
end Go.Proofs.YtlpibfafpljedaaGreatDoor

namespace Go.Proofs.YtlpibfafpljedaaGreatDoor
open Go.RowKit Go.Maps
set_option linter.unusedVariables false

set_option maxRecDepth 100000 in
set_option maxHeartbeats 8000000 in
theorem readRels_any (v : Value) (rs : List (List Int)) (w : World) (hv : RowsAt w v rs) :
    Calls Tryz.prog 22 #[v] w (ReadPost rs w) := by
  obtain ⟨a, cap, rfl, hc, hm⟩ := hv.form
  obtain ⟨n, hn⟩ : ∃ n, rs.length = n := ⟨_, rfl⟩
  rw [hn] at hc hv ⊢
  have HN := Lib.hid hn
  have H := Lib.hid hv
  clear hn hv
  have hmm := @run_makeMap Tryz.prog
  go_enter Tryz.func22, Tryz.ntmps22
  by_cases hn1 : n < 1
  · have e := Lib.hid (rels_size HN.out (by omega))
    have hnI : (n : Int) < 1 := by omega
    go_wp2_with fail
    refine bodyPost_ret (v := .tuple #[.agg #[.int .i64 0, .map none], .bool false]) (by simp [results, Tryz.results22, go_sem]) rfl ?_
    exact readPost_no e.out (by repeat (first | exact Below.refl _ _ | assumption | refine Below.drew ?_ | refine belowDrewN ?_ _ | refine Below.alloc ?_ (by first | exact Nat.le_refl _ | omega | (simp; done) | (simp; omega)) _ | refine Below.setCell ?_ (by first | exact Nat.le_refl _ | omega | (simp; done) | (simp; omega)) _))
  · by_cases hn5 : 5 < n
    · have e := Lib.hid (rels_size HN.out (by omega))
      have hnI : ¬ (n : Int) < 1 := by omega
      have hnI5 : 5 < (n : Int) := by omega
      go_wp2_with fail
      refine bodyPost_ret (v := .tuple #[.agg #[.int .i64 0, .map none], .bool false]) (by simp [results, Tryz.results22, go_sem]) rfl ?_
      exact readPost_no e.out (by repeat (first | exact Below.refl _ _ | assumption | refine Below.drew ?_ | refine belowDrewN ?_ _ | refine Below.alloc ?_ (by first | exact Nat.le_refl _ | omega | (simp; done) | (simp; omega)) _ | refine Below.setCell ?_ (by first | exact Nat.le_refl _ | omega | (simp; done) | (simp; omega)) _))
    · have hnI : ¬ (n : Int) < 1 := by omega
      have hnI5 : ¬ 5 < (n : Int) := by omega
      have S0 := Lib.hid (rr_start w n)
      go_wp2_with fail
      go_loopg [26] n (fun gk s26 wr => ∃ i : Nat, s26 = .int .i64 (i : Int) ∧ i + gk = n ∧ Hid (RR w wr n (5 * i) (valTo rs n i 0)) ∧ Hid (∀ j, j < i → (rs.getD j []).length = n ∧ ∀ k, k < n → 0 ≤ relAt rs j k ∧ relAt rs j k ≤ 3))
      case atStart => exact ⟨0, rfl, by omega, Lib.hid (by rw [valTo_none]; exact S0.out), Lib.hid fun j hj => by omega⟩
      case round =>
        clear S0
        obtain ⟨i, rfl, hi, S, hno⟩ := hrel
        have hbig := S.out.big
        have r0 := S.out.r0
        have r1 := S.out.r1
        have q0 := S.out.q0
        have q1 := S.out.q1
        have c0 := S.out.c0
        have c1 := S.out.c1
        have hbel := S.out.bel
        by_cases hg : gk = 0
        · subst hg
          obtain rfl : i = n := by omega
          have hdn : decide ((i : Int) < (i : Int)) = false := by simp
          obtain ⟨D, hown, hrd⟩ := S.out.own
          have HRD := Lib.hid hrd
          obtain ⟨w9, hw9⟩ : ∃ W, W = wr := ⟨_, rfl⟩
          subst hw9
          clear hrd
          go_wp2_with (first
            | (at_range; refine wpList_range_own _ rfl _ 53 rfl 87 3 cp_law Tryz.underlying53 (plainElem Tryz.prog 3) (w.heap.size + 1) (5 * i) D rfl hown ?_; intro w0 hrg0 hg0 hs0)
            | go_in)
          go_frame
          have S0 : Hid (RR w w0 i (5 * i) (valTo rs i i 0)) := Lib.hid (S.out.below ⟨hg0.os, hg0.tape, hg0.output, hg0.size, fun b hb => hg0.block b hb (by simp)⟩)
          have L0 : Hid (∀ p q : Nat, p < i → q < i → relAt rs p q ≠ 0 → Maps.has D (ck ((p : Int) + 1) ((q : Int) + 1)) = true ∨ coupleOk rs i ((p : Int) + 1) ((q : Int) + 1)) := Lib.hid fun p q hp hq h0 => .inl (HRD.out.here (WalkArith.wf_i64 (by omega)) (WalkArith.wf_i64 (by omega)) (by rw [valTo_all hp hq]; exact h0))
          have hs9 : w.heap.size + 3 ≤ w9.heap.size := hbig
          clear S r0 r1 q0 q1 c0 c1 hbel hbig hown hg0 hs0
          go_loopw [10] (fun _ wr => ∃ (left : Lit → Bool) (cnt : Nat), wr.ranges Tryz.prog 87 (plainElem Tryz.prog 3) (w.heap.size + 1) w9.heap.size (5 * i) D left cnt ∧ Hid (RR w wr i (5 * i) (valTo rs i i 0)) ∧ Hid (∀ p q : Nat, p < i → q < i → relAt rs p q ≠ 0 → left (ck ((p : Int) + 1) ((q : Int) + 1)) = true ∨ coupleOk rs i ((p : Int) + 1) ((q : Int) + 1)))
            (fun _ wr => wr.rangeLeft (w.heap.size + 1) w9.heap.size)
          case atStart => exact ⟨_, _, hrg0, S0, L0⟩
          case round =>
            clear S0 L0 hrg0
            obtain ⟨left, cnt, hrg, S, HL⟩ := hrel
            have hbig := S.out.big
            have r0 := S.out.r0
            have r1 := S.out.r1
            have q0 := S.out.q0
            have q1 := S.out.q1
            have c0 := S.out.c0
            have c1 := S.out.c1
            have hbel := S.out.bel
            go_wp2_with (first
              | (at_next; refine wpList_next_ranges _ rfl _ rfl 87 cp_law (plainElem Tryz.prog 3) (fun x : Int × Int => .agg #[.int .i64 x.1, .int .i64 x.2]) (Value.int .i64) (fun key kl h => by obtain ⟨x, h1, _⟩ := cp_inv h; exact ⟨x, h1⟩) (fun v y h => by obtain ⟨c, h1, _⟩ := plainElem_int_inv Tryz.underlying3 h; exact ⟨c, h1⟩) (w.heap.size + 1) w9.heap.size (5 * i) _ _ _ rfl hrg ?_ ?_)
              | go_in)
            · intro _ hl0
              have hok := Lib.hid (rels_all HN.out (by omega) (by omega) hno.out (fun p q hp hq h0 => by
                rcases HL.out p q hp hq h0 with h | h
                · rw [hl0] at h; cases h
                · exact h))
              have hown := Lib.hid hrg.owns
              clear hl0
              obtain ⟨z0, z1⟩ := stores2 (v0 := .int .i64 (i : Int)) (v1 := .map (some (w.heap.size + 1))) r0 r1
              go_wp2_with fail
              refine bodyPost_ret (v := .tuple #[.agg #[.int .i64 (i : Int), .map (some (w.heap.size + 1))], .bool true]) (by simp [results, Tryz.results22, go_sem, z0, z1]) rfl ?_
              exact readPost_yes hok.out HN.out (by repeat (first | exact Below.refl _ _ | assumption | refine Below.drew ?_ | refine belowDrewN ?_ _ | refine Below.alloc ?_ (by first | exact Nat.le_refl _ | omega | (simp; done) | (simp; omega)) _ | refine Below.setCell ?_ (by first | exact Nat.le_refl _ | omega | (simp; done) | (simp; omega)) _)) (by omega) (by omega) (own_set2 hown.out (by omega)) HRD.out
            · intro a1 b1 c kl yd yp w1 cnt1 hkey hlx hRy hat hrg1 hlt hg1 hs1 hen
              obtain ⟨⟨a', b'⟩, ex, rfl, hwa, hwb⟩ := cp_inv hkey
              simp only [Value.agg.injEq, Array.mk.injEq, List.cons.injEq, Value.int.injEq, true_and, and_true] at ex
              obtain ⟨rfl, rfl⟩ := ex
              obtain ⟨c', ec, ey, hwc⟩ := plainElem_int_inv Tryz.underlying3 hRy
              cases ec
              simp only [Prod.mk.injEq] at ey
              obtain ⟨rfl, rfl⟩ := ey
              obtain ⟨hcv, hv0⟩ := HRD.out.entry hwa hwb hat
              obtain ⟨p, q, hp, hq, ea, eb⟩ := valTo_in hv0
              simp only at ea eb
              subst ea
              subst eb
              rw [valTo_all hp hq] at hcv hv0
              have S1 : Hid (RR w w1 i (5 * i) (valTo rs i i 0)) := Lib.hid (S.out.grown hg1 ⟨by omega, by omega, by omega⟩ ⟨D, hrg1.owns, HRD.out⟩)
              have wp' : (Lit.int .i64 ((p : Int) + 1)).wf = true := WalkArith.wf_i64 (by omega)
              have wq' : (Lit.int .i64 ((q : Int) + 1)).wf = true := WalkArith.wf_i64 (by omega)
              have hlk : ∀ W : World, W.ownsMap Tryz.prog 87 (plainElem Tryz.prog 3) (w.heap.size + 1) (5 * i) D → (Instr.lookup 53 (.map (some (w.heap.size + 1))) (.agg #[.int .i64 ((q : Int) + 1), .int .i64 ((p : Int) + 1)]) false).run Tryz.prog W = .ok (.int .i64 (relAt rs q p)) W := fun W hW => by
                obtain ⟨c2, hrun, hat2, _⟩ := hW.lookup_int cp_law Tryz.underlying53 Tryz.underlying3 (cp_zero W) (cp_key wq' wp')
                rw [hrun, HRD.out.look wq' wp' hat2, valTo_all hq hp]
              obtain ⟨z, hz⟩ : ∃ z, relAt rs q p = z := ⟨_, rfl⟩
              rw [hz] at hlk
              have ownA := hrg1.owns.alloc (.cells #[.int .i64 ((p : Int) + 1), .int .i64 ((q : Int) + 1)] 87)
              have d0 := cell_two0 w1 (.int .i64 ((p : Int) + 1)) (.int .i64 ((q : Int) + 1)) 87
              have d1 := cell_two1 w1 (.int .i64 ((p : Int) + 1)) (.int .i64 ((q : Int) + 1)) 87
              have S2 : Hid (RR w (w1.alloc (.cells #[.int .i64 ((p : Int) + 1), .int .i64 ((q : Int) + 1)] 87)) i (5 * i) (valTo rs i i 0)) := Lib.hid (S1.out.below (Below.alloc (Below.refl _ _) (Nat.le_refl _) _))
              have e1 := S2.out.c1
              have HRG := Lib.hid (hrg1.alloc (.cells #[.int .i64 ((p : Int) + 1), .int .i64 ((q : Int) + 1)] 87))
              have HG := Lib.hid hrg
              have HV := Lib.hid hcv
              have HV0 := Lib.hid hv0
              have HZ := Lib.hid hz
              have HMI := Lib.hid (mirror_any c)
              have s0 := S2.out.r0
              have s1 := S2.out.r1
              have t0 := S2.out.q0
              have t1 := S2.out.q1
              have hbel2 := S2.out.bel
              have hbig2 := S2.out.big
              have HLX := Lib.hid hlx
              clear hkey hRy hat hlx hz hcv hv0 hrg r0 r1 q0 q1 c0 c1 hbel hbig hg1 hs1
              by_cases hpq : p = q
              · have hbad := Lib.hid (rels_bad HN.out hp hq HV0.out (fun h => h.1 (by omega)))
                have hqb : ((p : Int) + 1 == (q : Int) + 1) = true := by simp [hpq]
                clear hpq
                go_wp2_with fail
                refine wp_region_noPanic ?_
                refine wp_region_held_drew (S := (fun w' => w'.cell? ⟨w1.heap.size, 0, none⟩ = some (.int .i64 ((p : Int) + 1)) ∧ w'.cell? ⟨w1.heap.size, 1, none⟩ = some (.int .i64 ((q : Int) + 1)) ∧ w'.cell? ⟨w.heap.size + 2, 1, none⟩ = some (.map (some (w.heap.size + 1))) ∧ w'.ownsMap Tryz.prog 87 (plainElem Tryz.prog 3) (w.heap.size + 1) (5 * i) D)) (by kernel_rfl) (by exact ⟨d0, d1, e1, ownA⟩) (fun hHeld => ?_)
                refine wpAnyH_take (i := 0) (v := _) (by (simp only [List.getElem?_toArray, List.getElem?_cons_zero]) <;> rfl) (by kernel_rfl) (by kernel_rfl) (by kernel_rfl) (fun _ _ _ h => h) (Or.inl ⟨by rfl, fun w hSw => by ((try dsimp only at hSw); go_simp) <;> with_reducible rfl⟩) (by assumption) ?_
                (try simp only [Act.put, List.setIfInBounds_toArray, List.set_cons_zero, List.set_cons_succ])
                refine wpAnyH_take (i := 1) (v := _) (by (simp only [List.getElem?_toArray, List.getElem?_cons_succ, List.getElem?_cons_zero]) <;> rfl) (by kernel_rfl) (by kernel_rfl) (by kernel_rfl) (fun _ _ _ h => h) (Or.inl ⟨by rfl, fun w hSw => by ((try dsimp only at hSw); go_simp) <;> with_reducible rfl⟩) (by assumption) ?_
                (try simp only [Act.put, List.setIfInBounds_toArray, List.set_cons_zero, List.set_cons_succ])
                refine wpAnyH_take (i := 2) (v := _) (by (simp only [List.getElem?_toArray, List.getElem?_cons_succ, List.getElem?_cons_zero]) <;> rfl) (by kernel_rfl) (by kernel_rfl) (by kernel_rfl) (fun _ _ _ h => h) (Or.inl ⟨by rfl, fun w hSw => by ((try dsimp only at hSw); go_simp) <;> with_reducible rfl⟩) (by assumption) ?_
                (try simp only [Act.put, List.setIfInBounds_toArray, List.set_cons_zero, List.set_cons_succ])
                refine wpAnyH_take (i := 3) (v := _) (by (simp only [List.getElem?_toArray, List.getElem?_cons_succ, List.getElem?_cons_zero]) <;> rfl) (by kernel_rfl) (by kernel_rfl) (by kernel_rfl) (fun _ _ _ h => h) (Or.inl ⟨by rfl, fun w hSw => by ((try dsimp only at hSw); go_simp) <;> with_reducible rfl⟩) (by assumption) ?_
                (try simp only [Act.put, List.setIfInBounds_toArray, List.set_cons_zero, List.set_cons_succ])
                refine wpAnyH_take (i := 4) (v := _) (by (simp only [List.getElem?_toArray, List.getElem?_cons_succ, List.getElem?_cons_zero]) <;> rfl) (by kernel_rfl) (by kernel_rfl) (by kernel_rfl) (fun _ _ _ h => h) (Or.inl ⟨by rfl, fun w hSw => by ((try dsimp only at hSw); go_simp) <;> with_reducible rfl⟩) (by assumption) ?_
                (try simp only [Act.put, List.setIfInBounds_toArray, List.set_cons_zero, List.set_cons_succ])
                refine wpAnyH_take (i := 5) (v := _) (by (simp only [List.getElem?_toArray, List.getElem?_cons_succ, List.getElem?_cons_zero]) <;> rfl) (by kernel_rfl) (by kernel_rfl) (by kernel_rfl) (fun _ _ _ h => h) (Or.inl ⟨by rfl, fun w hSw => by ((try dsimp only at hSw); go_simp) <;> with_reducible rfl⟩) (by assumption) ?_
                (try simp only [Act.put, List.setIfInBounds_toArray, List.set_cons_zero, List.set_cons_succ])
                refine wpAnyH_take (i := 6) (v := _) (by (simp only [List.getElem?_toArray, List.getElem?_cons_succ, List.getElem?_cons_zero]) <;> rfl) (by kernel_rfl) (by kernel_rfl) (by kernel_rfl) (fun _ _ _ h => h) (Or.inr ⟨by rfl, rfl⟩) (by assumption) ?_
                (try simp only [Act.put, List.setIfInBounds_toArray, List.set_cons_zero, List.set_cons_succ])
                refine wpAnyH_take (i := 7) (v := _) (by (simp only [List.getElem?_toArray, List.getElem?_cons_succ, List.getElem?_cons_zero]) <;> rfl) (by kernel_rfl) (by kernel_rfl) (by kernel_rfl) (fun _ _ _ h => h) (Or.inr ⟨by rfl, rfl⟩) (by assumption) ?_
                (try simp only [Act.put, List.setIfInBounds_toArray, List.set_cons_zero, List.set_cons_succ])
                refine wpAnyH_take (i := 8) (v := _) (by (simp only [List.getElem?_toArray, List.getElem?_cons_succ, List.getElem?_cons_zero]) <;> rfl) (by kernel_rfl) (by kernel_rfl) (by kernel_rfl) (fun _ _ _ h => h) (Or.inr ⟨by rfl, rfl⟩) (by assumption) ?_
                (try simp only [Act.put, List.setIfInBounds_toArray, List.set_cons_zero, List.set_cons_succ])
                refine wpAnyH_take (i := 9) (v := _) (by (simp only [List.getElem?_toArray, List.getElem?_cons_succ, List.getElem?_cons_zero]) <;> rfl) (by kernel_rfl) (by kernel_rfl) (by kernel_rfl) (fun _ _ _ h => h) (Or.inr ⟨by rfl, rfl⟩) (by assumption) ?_
                (try simp only [Act.put, List.setIfInBounds_toArray, List.set_cons_zero, List.set_cons_succ])
                refine wpAnyH_take (i := 10) (v := _) (by (simp only [List.getElem?_toArray, List.getElem?_cons_succ, List.getElem?_cons_zero]) <;> rfl) (by kernel_rfl) (by kernel_rfl) (by kernel_rfl) (fun _ _ _ h => h) (Or.inr ⟨by rfl, rfl⟩) (by assumption) ?_
                (try simp only [Act.put, List.setIfInBounds_toArray, List.set_cons_zero, List.set_cons_succ])
                refine wpAnyH_take (i := 11) (v := _) (by (simp only [List.getElem?_toArray, List.getElem?_cons_succ, List.getElem?_cons_zero]) <;> rfl) (by kernel_rfl) (by kernel_rfl) (by kernel_rfl) (fun _ _ _ h => h) (Or.inr ⟨by rfl, rfl⟩) (by assumption) ?_
                (try simp only [Act.put, List.setIfInBounds_toArray, List.set_cons_zero, List.set_cons_succ])
                refine wpAnyH_take (i := 12) (v := _) (by (simp only [List.getElem?_toArray, List.getElem?_cons_succ, List.getElem?_cons_zero]) <;> rfl) (by kernel_rfl) (by kernel_rfl) (by kernel_rfl) (fun _ _ _ h => h) (Or.inr ⟨by rfl, rfl⟩) (by assumption) ?_
                (try simp only [Act.put, List.setIfInBounds_toArray, List.set_cons_zero, List.set_cons_succ])
                refine wpAnyH_take (i := 13) (v := _) (by (simp only [List.getElem?_toArray, List.getElem?_cons_succ, List.getElem?_cons_zero]) <;> rfl) (by kernel_rfl) (by kernel_rfl) (by kernel_rfl) (fun _ _ _ h => h) (Or.inr ⟨by rfl, rfl⟩) (by assumption) ?_
                (try simp only [Act.put, List.setIfInBounds_toArray, List.set_cons_zero, List.set_cons_succ])
                refine wpAnyH_take (i := 14) (v := _) (by (simp only [List.getElem?_toArray, List.getElem?_cons_succ, List.getElem?_cons_zero]) <;> rfl) (by kernel_rfl) (by kernel_rfl) (by kernel_rfl) (fun _ _ _ h => h) (Or.inr ⟨by rfl, rfl⟩) (by assumption) ?_
                (try simp only [Act.put, List.setIfInBounds_toArray, List.set_cons_zero, List.set_cons_succ])
                refine wpAnyH_take (i := 15) (v := _) (by (simp only [List.getElem?_toArray, List.getElem?_cons_succ, List.getElem?_cons_zero]) <;> rfl) (by kernel_rfl) (by kernel_rfl) (by kernel_rfl) (fun _ _ _ h => h) (Or.inr ⟨by rfl, rfl⟩) (by assumption) ?_
                (try simp only [Act.put, List.setIfInBounds_toArray, List.set_cons_zero, List.set_cons_succ])
                refine wpAnyH_take (i := 16) (v := _) (by (simp only [List.getElem?_toArray, List.getElem?_cons_succ, List.getElem?_cons_zero]) <;> rfl) (by kernel_rfl) (by kernel_rfl) (by kernel_rfl) (fun _ _ _ h => h) (Or.inr ⟨by rfl, rfl⟩) (by assumption) ?_
                (try simp only [Act.put, List.setIfInBounds_toArray, List.set_cons_zero, List.set_cons_succ])
                refine wpAnyH_take (i := 17) (v := _) (by (simp only [List.getElem?_toArray, List.getElem?_cons_succ, List.getElem?_cons_zero]) <;> rfl) (by kernel_rfl) (by kernel_rfl) (by kernel_rfl) (fun _ _ _ h => h) (Or.inl ⟨by rfl, fun w hSw => by ((try dsimp only at hSw); go_simp) <;> with_reducible rfl⟩) (by assumption) ?_
                (try simp only [Act.put, List.setIfInBounds_toArray, List.set_cons_zero, List.set_cons_succ])
                refine wpAnyH_done (by kernel_rfl) ?_ _
                refine NoPanic.normal ?_
                go_wp2_with fail
                obtain ⟨z0, z1⟩ := stores2 (w1 := (w1.alloc (.cells #[.int .i64 ((p : Int) + 1), .int .i64 ((q : Int) + 1)] 87))) (v0 := .int .i64 0) (v1 := .map none) s0 s1
                replace z0 : (((w1.alloc (.cells #[.int .i64 ((p : Int) + 1), .int .i64 ((q : Int) + 1)] 87)).setCell ⟨w.heap.size, 0, none⟩ (.int .i64 0)).setCell ⟨w.heap.size, 1, none⟩ (.map none)).drew.cell? ⟨w.heap.size, 0, none⟩ = some (.int .i64 0) := z0
                replace z1 : (((w1.alloc (.cells #[.int .i64 ((p : Int) + 1), .int .i64 ((q : Int) + 1)] 87)).setCell ⟨w.heap.size, 0, none⟩ (.int .i64 0)).setCell ⟨w.heap.size, 1, none⟩ (.map none)).drew.cell? ⟨w.heap.size, 1, none⟩ = some (.map none) := z1
                refine bodyPost_ret (v := .tuple #[.agg #[.int .i64 0, .map none], .bool false]) (by simp [results, Tryz.results22, go_sem, z0, z1]) rfl ?_
                exact readPost_no hbad.out (by repeat (first | exact Below.refl _ _ | assumption | refine Below.drew ?_ | refine belowDrewN ?_ _ | refine Below.alloc ?_ (by first | exact Nat.le_refl _ | omega | (simp; done) | (simp; omega)) _ | refine Below.setCell ?_ (by first | exact Nat.le_refl _ | omega | (simp; done) | (simp; omega)) _))
              · have hqb : ((p : Int) + 1 == (q : Int) + 1) = false := by simp; omega
                obtain ⟨mc, hmc⟩ : ∃ m, backF c = m := ⟨_, rfl⟩
                rw [hmc] at HMI
                have HMC := Lib.hid hmc
                by_cases hzm : z = mc
                · have hcok : Hid (coupleOk rs i ((p : Int) + 1) ((q : Int) + 1)) := Lib.hid ⟨by omega, by rw [valTo_all hq hp, valTo_all hp hq, HZ.out, ← HV.out, HMC.out]; exact hzm⟩
                  clear hmc
                  subst hzm
                  have hzb : (z != z) = false := by simp
                  go_wp2_with fail
                  refine wp_region_noPanic ?_
                  refine wp_region_held_drew (S := (fun w' => w'.cell? ⟨w1.heap.size, 0, none⟩ = some (.int .i64 ((p : Int) + 1)) ∧ w'.cell? ⟨w1.heap.size, 1, none⟩ = some (.int .i64 ((q : Int) + 1)) ∧ w'.cell? ⟨w.heap.size + 2, 1, none⟩ = some (.map (some (w.heap.size + 1))) ∧ w'.ownsMap Tryz.prog 87 (plainElem Tryz.prog 3) (w.heap.size + 1) (5 * i) D)) (by kernel_rfl) (by exact ⟨d0, d1, e1, ownA⟩) (fun hHeld => ?_)
                  refine wpAnyH_take (i := 0) (v := _) (by (simp only [List.getElem?_toArray, List.getElem?_cons_zero]) <;> rfl) (by kernel_rfl) (by kernel_rfl) (by kernel_rfl) (fun _ _ _ h => h) (Or.inl ⟨by rfl, fun w hSw => by ((try dsimp only at hSw); go_simp) <;> with_reducible rfl⟩) (by assumption) ?_
                  (try simp only [Act.put, List.setIfInBounds_toArray, List.set_cons_zero, List.set_cons_succ])
                  refine wpAnyH_take (i := 1) (v := _) (by (simp only [List.getElem?_toArray, List.getElem?_cons_succ, List.getElem?_cons_zero]) <;> rfl) (by kernel_rfl) (by kernel_rfl) (by kernel_rfl) (fun _ _ _ h => h) (Or.inl ⟨by rfl, fun w hSw => by ((try dsimp only at hSw); go_simp) <;> with_reducible rfl⟩) (by assumption) ?_
                  (try simp only [Act.put, List.setIfInBounds_toArray, List.set_cons_zero, List.set_cons_succ])
                  refine wpAnyH_take (i := 2) (v := _) (by (simp only [List.getElem?_toArray, List.getElem?_cons_succ, List.getElem?_cons_zero]) <;> rfl) (by kernel_rfl) (by kernel_rfl) (by kernel_rfl) (fun _ _ _ h => h) (Or.inl ⟨by rfl, fun w hSw => by ((try dsimp only at hSw); go_simp) <;> with_reducible rfl⟩) (by assumption) ?_
                  (try simp only [Act.put, List.setIfInBounds_toArray, List.set_cons_zero, List.set_cons_succ])
                  refine wpAnyH_take (i := 3) (v := _) (by (simp only [List.getElem?_toArray, List.getElem?_cons_succ, List.getElem?_cons_zero]) <;> rfl) (by kernel_rfl) (by kernel_rfl) (by kernel_rfl) (fun _ _ _ h => h) (Or.inl ⟨by rfl, fun w hSw => by ((try dsimp only at hSw); go_simp) <;> with_reducible rfl⟩) (by assumption) ?_
                  (try simp only [Act.put, List.setIfInBounds_toArray, List.set_cons_zero, List.set_cons_succ])
                  refine wpAnyH_take (i := 4) (v := _) (by (simp only [List.getElem?_toArray, List.getElem?_cons_succ, List.getElem?_cons_zero]) <;> rfl) (by kernel_rfl) (by kernel_rfl) (by kernel_rfl) (fun _ _ _ h => h) (Or.inl ⟨by rfl, fun w hSw => by ((try dsimp only at hSw); go_simp) <;> with_reducible rfl⟩) (by assumption) ?_
                  (try simp only [Act.put, List.setIfInBounds_toArray, List.set_cons_zero, List.set_cons_succ])
                  refine wpAnyH_take (i := 5) (v := _) (by (simp only [List.getElem?_toArray, List.getElem?_cons_succ, List.getElem?_cons_zero]) <;> rfl) (by kernel_rfl) (by kernel_rfl) (by kernel_rfl) (fun _ _ _ h => h) (Or.inl ⟨by rfl, fun w hSw => by ((try dsimp only at hSw); go_simp) <;> with_reducible rfl⟩) (by assumption) ?_
                  (try simp only [Act.put, List.setIfInBounds_toArray, List.set_cons_zero, List.set_cons_succ])
                  refine wpAnyH_take (i := 6) (v := _) (by (simp only [List.getElem?_toArray, List.getElem?_cons_succ, List.getElem?_cons_zero]) <;> rfl) (by kernel_rfl) (by kernel_rfl) (by kernel_rfl) (fun _ _ _ h => h) (Or.inl ⟨by rfl, fun w hSw => by ((try dsimp only at hSw); go_simp) <;> with_reducible rfl⟩) (by assumption) ?_
                  (try simp only [Act.put, List.setIfInBounds_toArray, List.set_cons_zero, List.set_cons_succ])
                  refine wpAnyH_take (i := 7) (v := _) (by (simp only [List.getElem?_toArray, List.getElem?_cons_succ, List.getElem?_cons_zero]) <;> rfl) (by kernel_rfl) (by kernel_rfl) (by kernel_rfl) (fun _ _ _ h => h) (Or.inl ⟨by rfl, fun w hSw => by ((try dsimp only at hSw); go_simp) <;> with_reducible rfl⟩) (by assumption) ?_
                  (try simp only [Act.put, List.setIfInBounds_toArray, List.set_cons_zero, List.set_cons_succ])
                  refine wpAnyH_take (i := 8) (v := _) (by (simp only [List.getElem?_toArray, List.getElem?_cons_succ, List.getElem?_cons_zero]) <;> rfl) (by kernel_rfl) (by kernel_rfl) (by kernel_rfl) (fun _ _ _ h => h) (Or.inl ⟨by rfl, fun w hSw => by ((try dsimp only at hSw); go_simp) <;> with_reducible rfl⟩) (by assumption) ?_
                  (try simp only [Act.put, List.setIfInBounds_toArray, List.set_cons_zero, List.set_cons_succ])
                  refine wpAnyH_take (i := 9) (v := _) (by (simp only [List.getElem?_toArray, List.getElem?_cons_succ, List.getElem?_cons_zero]) <;> rfl) (by kernel_rfl) (by kernel_rfl) (by kernel_rfl) (fun _ _ _ h => h) (Or.inl ⟨by rfl, fun w hSw => by ((try dsimp only at hSw); go_simp) <;> with_reducible rfl⟩) (by assumption) ?_
                  (try simp only [Act.put, List.setIfInBounds_toArray, List.set_cons_zero, List.set_cons_succ])
                  refine wpAnyH_take (i := 10) (v := _) (by (simp only [List.getElem?_toArray, List.getElem?_cons_succ, List.getElem?_cons_zero]) <;> rfl) (by kernel_rfl) (by kernel_rfl) (by kernel_rfl) (fun _ _ _ h => h) (Or.inl ⟨by rfl, fun w hSw => by ((try dsimp only at hSw); go_simp) <;> with_reducible rfl⟩) (by assumption) ?_
                  (try simp only [Act.put, List.setIfInBounds_toArray, List.set_cons_zero, List.set_cons_succ])
                  refine wpAnyH_take (i := 11) (v := _) (by (simp only [List.getElem?_toArray, List.getElem?_cons_succ, List.getElem?_cons_zero]) <;> rfl) (by kernel_rfl) (by kernel_rfl) (by kernel_rfl) (fun _ _ _ h => h) (Or.inl ⟨by rfl, fun w hSw => by ((try dsimp only at hSw); go_simp) <;> with_reducible rfl⟩) (by assumption) ?_
                  (try simp only [Act.put, List.setIfInBounds_toArray, List.set_cons_zero, List.set_cons_succ])
                  refine wpAnyH_take (i := 12) (v := _) (by (simp only [List.getElem?_toArray, List.getElem?_cons_succ, List.getElem?_cons_zero]) <;> rfl) (by kernel_rfl) (by kernel_rfl) (by kernel_rfl) (fun _ _ _ h => h) (Or.inl ⟨by rfl, fun w hSw => by ((try dsimp only at hSw); go_simp) <;> with_reducible rfl⟩) (by assumption) ?_
                  (try simp only [Act.put, List.setIfInBounds_toArray, List.set_cons_zero, List.set_cons_succ])
                  refine wpAnyH_take (i := 13) (v := _) (by (simp only [List.getElem?_toArray, List.getElem?_cons_succ, List.getElem?_cons_zero]) <;> rfl) (by kernel_rfl) (by kernel_rfl) (by kernel_rfl) (fun _ _ _ h => h) (Or.inl ⟨by rfl, fun w hSw => by ((try dsimp only at hSw); go_simp) <;> with_reducible rfl⟩) (by assumption) ?_
                  (try simp only [Act.put, List.setIfInBounds_toArray, List.set_cons_zero, List.set_cons_succ])
                  refine wpAnyH_take (i := 14) (v := _) (by (simp only [List.getElem?_toArray, List.getElem?_cons_succ, List.getElem?_cons_zero]) <;> rfl) (by kernel_rfl) (by kernel_rfl) (by kernel_rfl) (fun _ _ _ h => h) (Or.inl ⟨by rfl, fun w hSw => by ((try dsimp only at hSw); go_simp) <;> with_reducible rfl⟩) (by assumption) ?_
                  (try simp only [Act.put, List.setIfInBounds_toArray, List.set_cons_zero, List.set_cons_succ])
                  refine wpAnyH_ready (rs := [15]) (by kernel_rfl) (by simp) ?_
                  refine AllReadyH.cons (by (simp only [List.getElem?_toArray, List.getElem?_cons_succ, List.getElem?_cons_zero]) <;> rfl) (fun K hK => ?_) AllReadyH.nil
                  go_simp
                  (go_at_call 43; refine (HMI.out _).mono ?_; rintro r w2 ⟨rfl, rfl⟩)
                  refine hK.out _ _ (by exact ⟨d0, d1, e1, ownA⟩) (fun hHeld => ?_)
                  (try simp only [Act.put, List.setIfInBounds_toArray, List.set_cons_zero, List.set_cons_succ])
                  refine wpAnyH_take (i := 16) (v := _) (by (simp only [List.getElem?_toArray, List.getElem?_cons_succ, List.getElem?_cons_zero]) <;> rfl) (by kernel_rfl) (by kernel_rfl) (by kernel_rfl) (fun _ _ _ h => h) (Or.inl ⟨by rfl, fun w hSw => by ((try dsimp only at hSw); go_simp) <;> with_reducible rfl⟩) (by assumption) ?_
                  (try simp only [Act.put, List.setIfInBounds_toArray, List.set_cons_zero, List.set_cons_succ])
                  refine wpAnyH_take (i := 17) (v := _) (by (simp only [List.getElem?_toArray, List.getElem?_cons_succ, List.getElem?_cons_zero]) <;> rfl) (by kernel_rfl) (by kernel_rfl) (by kernel_rfl) (fun _ _ _ h => h) (Or.inl ⟨by rfl, fun w hSw => by ((try dsimp only at hSw); go_simp) <;> with_reducible rfl⟩) (by assumption) ?_
                  (try simp only [Act.put, List.setIfInBounds_toArray, List.set_cons_zero, List.set_cons_succ])
                  refine wpAnyH_done (by kernel_rfl) ?_ _
                  refine NoPanic.normal ?_
                  go_wp2_with fail
                  go_roundw
                  case rel =>
                    refine ⟨_, cnt1, ranges_drew HRG.out, Lib.hid (S2.out.below (Below.drew (Below.refl _ _))), Lib.hid fun p' q' hp' hq' h0 => ?_⟩
                    rcases HL.out p' q' hp' hq' h0 with h | h
                    · by_cases hpq' : p' = p ∧ q' = q
                      · right; rw [hpq'.1, hpq'.2]; exact hcok.out
                      · left
                        have hwp : (Lit.int .i64 ((p' : Int) + 1)).wf = true := WalkArith.wf_i64 (by omega)
                        have hwq : (Lit.int .i64 ((q' : Int) + 1)).wf = true := WalkArith.wf_i64 (by omega)
                        rw [h, Maps.sameKey_ne (fun e => hpq' (by obtain ⟨e1, e2⟩ := ck_inj hwp hwq wp' wq' e; omega))]; rfl
                    · exact .inr h
                  case measure =>
                    rw [ranges_left_drew]
                    rw [HRG.out.left_eq, HG.out.left_eq]; exact hlt
                · have hbad := Lib.hid (rels_bad HN.out hp hq HV0.out (fun h => hzm (by have := h.2; rw [valTo_all hq hp, valTo_all hp hq, HZ.out, ← HV.out, hmc] at this; exact this)))
                  have hzb : (z != mc) = true := by simp [hzm]
                  clear hmc
                  go_wp2_with fail
                  refine wp_region_noPanic ?_
                  refine wp_region_held_drew (S := (fun w' => w'.cell? ⟨w1.heap.size, 0, none⟩ = some (.int .i64 ((p : Int) + 1)) ∧ w'.cell? ⟨w1.heap.size, 1, none⟩ = some (.int .i64 ((q : Int) + 1)) ∧ w'.cell? ⟨w.heap.size + 2, 1, none⟩ = some (.map (some (w.heap.size + 1))) ∧ w'.ownsMap Tryz.prog 87 (plainElem Tryz.prog 3) (w.heap.size + 1) (5 * i) D)) (by kernel_rfl) (by exact ⟨d0, d1, e1, ownA⟩) (fun hHeld => ?_)
                  refine wpAnyH_take (i := 0) (v := _) (by (simp only [List.getElem?_toArray, List.getElem?_cons_zero]) <;> rfl) (by kernel_rfl) (by kernel_rfl) (by kernel_rfl) (fun _ _ _ h => h) (Or.inl ⟨by rfl, fun w hSw => by ((try dsimp only at hSw); go_simp) <;> with_reducible rfl⟩) (by assumption) ?_
                  (try simp only [Act.put, List.setIfInBounds_toArray, List.set_cons_zero, List.set_cons_succ])
                  refine wpAnyH_take (i := 1) (v := _) (by (simp only [List.getElem?_toArray, List.getElem?_cons_succ, List.getElem?_cons_zero]) <;> rfl) (by kernel_rfl) (by kernel_rfl) (by kernel_rfl) (fun _ _ _ h => h) (Or.inl ⟨by rfl, fun w hSw => by ((try dsimp only at hSw); go_simp) <;> with_reducible rfl⟩) (by assumption) ?_
                  (try simp only [Act.put, List.setIfInBounds_toArray, List.set_cons_zero, List.set_cons_succ])
                  refine wpAnyH_take (i := 2) (v := _) (by (simp only [List.getElem?_toArray, List.getElem?_cons_succ, List.getElem?_cons_zero]) <;> rfl) (by kernel_rfl) (by kernel_rfl) (by kernel_rfl) (fun _ _ _ h => h) (Or.inl ⟨by rfl, fun w hSw => by ((try dsimp only at hSw); go_simp) <;> with_reducible rfl⟩) (by assumption) ?_
                  (try simp only [Act.put, List.setIfInBounds_toArray, List.set_cons_zero, List.set_cons_succ])
                  refine wpAnyH_take (i := 3) (v := _) (by (simp only [List.getElem?_toArray, List.getElem?_cons_succ, List.getElem?_cons_zero]) <;> rfl) (by kernel_rfl) (by kernel_rfl) (by kernel_rfl) (fun _ _ _ h => h) (Or.inl ⟨by rfl, fun w hSw => by ((try dsimp only at hSw); go_simp) <;> with_reducible rfl⟩) (by assumption) ?_
                  (try simp only [Act.put, List.setIfInBounds_toArray, List.set_cons_zero, List.set_cons_succ])
                  refine wpAnyH_take (i := 4) (v := _) (by (simp only [List.getElem?_toArray, List.getElem?_cons_succ, List.getElem?_cons_zero]) <;> rfl) (by kernel_rfl) (by kernel_rfl) (by kernel_rfl) (fun _ _ _ h => h) (Or.inl ⟨by rfl, fun w hSw => by ((try dsimp only at hSw); go_simp) <;> with_reducible rfl⟩) (by assumption) ?_
                  (try simp only [Act.put, List.setIfInBounds_toArray, List.set_cons_zero, List.set_cons_succ])
                  refine wpAnyH_take (i := 5) (v := _) (by (simp only [List.getElem?_toArray, List.getElem?_cons_succ, List.getElem?_cons_zero]) <;> rfl) (by kernel_rfl) (by kernel_rfl) (by kernel_rfl) (fun _ _ _ h => h) (Or.inl ⟨by rfl, fun w hSw => by ((try dsimp only at hSw); go_simp) <;> with_reducible rfl⟩) (by assumption) ?_
                  (try simp only [Act.put, List.setIfInBounds_toArray, List.set_cons_zero, List.set_cons_succ])
                  refine wpAnyH_take (i := 6) (v := _) (by (simp only [List.getElem?_toArray, List.getElem?_cons_succ, List.getElem?_cons_zero]) <;> rfl) (by kernel_rfl) (by kernel_rfl) (by kernel_rfl) (fun _ _ _ h => h) (Or.inl ⟨by rfl, fun w hSw => by ((try dsimp only at hSw); go_simp) <;> with_reducible rfl⟩) (by assumption) ?_
                  (try simp only [Act.put, List.setIfInBounds_toArray, List.set_cons_zero, List.set_cons_succ])
                  refine wpAnyH_take (i := 7) (v := _) (by (simp only [List.getElem?_toArray, List.getElem?_cons_succ, List.getElem?_cons_zero]) <;> rfl) (by kernel_rfl) (by kernel_rfl) (by kernel_rfl) (fun _ _ _ h => h) (Or.inl ⟨by rfl, fun w hSw => by ((try dsimp only at hSw); go_simp) <;> with_reducible rfl⟩) (by assumption) ?_
                  (try simp only [Act.put, List.setIfInBounds_toArray, List.set_cons_zero, List.set_cons_succ])
                  refine wpAnyH_take (i := 8) (v := _) (by (simp only [List.getElem?_toArray, List.getElem?_cons_succ, List.getElem?_cons_zero]) <;> rfl) (by kernel_rfl) (by kernel_rfl) (by kernel_rfl) (fun _ _ _ h => h) (Or.inl ⟨by rfl, fun w hSw => by ((try dsimp only at hSw); go_simp) <;> with_reducible rfl⟩) (by assumption) ?_
                  (try simp only [Act.put, List.setIfInBounds_toArray, List.set_cons_zero, List.set_cons_succ])
                  refine wpAnyH_take (i := 9) (v := _) (by (simp only [List.getElem?_toArray, List.getElem?_cons_succ, List.getElem?_cons_zero]) <;> rfl) (by kernel_rfl) (by kernel_rfl) (by kernel_rfl) (fun _ _ _ h => h) (Or.inl ⟨by rfl, fun w hSw => by ((try dsimp only at hSw); go_simp) <;> with_reducible rfl⟩) (by assumption) ?_
                  (try simp only [Act.put, List.setIfInBounds_toArray, List.set_cons_zero, List.set_cons_succ])
                  refine wpAnyH_take (i := 10) (v := _) (by (simp only [List.getElem?_toArray, List.getElem?_cons_succ, List.getElem?_cons_zero]) <;> rfl) (by kernel_rfl) (by kernel_rfl) (by kernel_rfl) (fun _ _ _ h => h) (Or.inl ⟨by rfl, fun w hSw => by ((try dsimp only at hSw); go_simp) <;> with_reducible rfl⟩) (by assumption) ?_
                  (try simp only [Act.put, List.setIfInBounds_toArray, List.set_cons_zero, List.set_cons_succ])
                  refine wpAnyH_take (i := 11) (v := _) (by (simp only [List.getElem?_toArray, List.getElem?_cons_succ, List.getElem?_cons_zero]) <;> rfl) (by kernel_rfl) (by kernel_rfl) (by kernel_rfl) (fun _ _ _ h => h) (Or.inl ⟨by rfl, fun w hSw => by ((try dsimp only at hSw); go_simp) <;> with_reducible rfl⟩) (by assumption) ?_
                  (try simp only [Act.put, List.setIfInBounds_toArray, List.set_cons_zero, List.set_cons_succ])
                  refine wpAnyH_take (i := 12) (v := _) (by (simp only [List.getElem?_toArray, List.getElem?_cons_succ, List.getElem?_cons_zero]) <;> rfl) (by kernel_rfl) (by kernel_rfl) (by kernel_rfl) (fun _ _ _ h => h) (Or.inl ⟨by rfl, fun w hSw => by ((try dsimp only at hSw); go_simp) <;> with_reducible rfl⟩) (by assumption) ?_
                  (try simp only [Act.put, List.setIfInBounds_toArray, List.set_cons_zero, List.set_cons_succ])
                  refine wpAnyH_take (i := 13) (v := _) (by (simp only [List.getElem?_toArray, List.getElem?_cons_succ, List.getElem?_cons_zero]) <;> rfl) (by kernel_rfl) (by kernel_rfl) (by kernel_rfl) (fun _ _ _ h => h) (Or.inl ⟨by rfl, fun w hSw => by ((try dsimp only at hSw); go_simp) <;> with_reducible rfl⟩) (by assumption) ?_
                  (try simp only [Act.put, List.setIfInBounds_toArray, List.set_cons_zero, List.set_cons_succ])
                  refine wpAnyH_take (i := 14) (v := _) (by (simp only [List.getElem?_toArray, List.getElem?_cons_succ, List.getElem?_cons_zero]) <;> rfl) (by kernel_rfl) (by kernel_rfl) (by kernel_rfl) (fun _ _ _ h => h) (Or.inl ⟨by rfl, fun w hSw => by ((try dsimp only at hSw); go_simp) <;> with_reducible rfl⟩) (by assumption) ?_
                  (try simp only [Act.put, List.setIfInBounds_toArray, List.set_cons_zero, List.set_cons_succ])
                  refine wpAnyH_ready (rs := [15]) (by kernel_rfl) (by simp) ?_
                  refine AllReadyH.cons (by (simp only [List.getElem?_toArray, List.getElem?_cons_succ, List.getElem?_cons_zero]) <;> rfl) (fun K hK => ?_) AllReadyH.nil
                  go_simp
                  (go_at_call 43; refine (HMI.out _).mono ?_; rintro r w2 ⟨rfl, rfl⟩)
                  refine hK.out _ _ (by exact ⟨d0, d1, e1, ownA⟩) (fun hHeld => ?_)
                  (try simp only [Act.put, List.setIfInBounds_toArray, List.set_cons_zero, List.set_cons_succ])
                  refine wpAnyH_take (i := 16) (v := _) (by (simp only [List.getElem?_toArray, List.getElem?_cons_succ, List.getElem?_cons_zero]) <;> rfl) (by kernel_rfl) (by kernel_rfl) (by kernel_rfl) (fun _ _ _ h => h) (Or.inl ⟨by rfl, fun w hSw => by ((try dsimp only at hSw); go_simp) <;> with_reducible rfl⟩) (by assumption) ?_
                  (try simp only [Act.put, List.setIfInBounds_toArray, List.set_cons_zero, List.set_cons_succ])
                  refine wpAnyH_take (i := 17) (v := _) (by (simp only [List.getElem?_toArray, List.getElem?_cons_succ, List.getElem?_cons_zero]) <;> rfl) (by kernel_rfl) (by kernel_rfl) (by kernel_rfl) (fun _ _ _ h => h) (Or.inl ⟨by rfl, fun w hSw => by ((try dsimp only at hSw); go_simp) <;> with_reducible rfl⟩) (by assumption) ?_
                  (try simp only [Act.put, List.setIfInBounds_toArray, List.set_cons_zero, List.set_cons_succ])
                  refine wpAnyH_done (by kernel_rfl) ?_ _
                  refine NoPanic.normal ?_
                  go_wp2_with fail
                  obtain ⟨z0, z1⟩ := stores2 (w1 := (w1.alloc (.cells #[.int .i64 ((p : Int) + 1), .int .i64 ((q : Int) + 1)] 87))) (v0 := .int .i64 0) (v1 := .map none) s0 s1
                  replace z0 : (((w1.alloc (.cells #[.int .i64 ((p : Int) + 1), .int .i64 ((q : Int) + 1)] 87)).setCell ⟨w.heap.size, 0, none⟩ (.int .i64 0)).setCell ⟨w.heap.size, 1, none⟩ (.map none)).drew.cell? ⟨w.heap.size, 0, none⟩ = some (.int .i64 0) := z0
                  replace z1 : (((w1.alloc (.cells #[.int .i64 ((p : Int) + 1), .int .i64 ((q : Int) + 1)] 87)).setCell ⟨w.heap.size, 0, none⟩ (.int .i64 0)).setCell ⟨w.heap.size, 1, none⟩ (.map none)).drew.cell? ⟨w.heap.size, 1, none⟩ = some (.map none) := z1
                  refine bodyPost_ret (v := .tuple #[.agg #[.int .i64 0, .map none], .bool false]) (by simp [results, Tryz.results22, go_sem, z0, z1]) rfl ?_
                  exact readPost_no hbad.out (by repeat (first | exact Below.refl _ _ | assumption | refine Below.drew ?_ | refine belowDrewN ?_ _ | refine Below.alloc ?_ (by first | exact Nat.le_refl _ | omega | (simp; done) | (simp; omega)) _ | refine Below.setCell ?_ (by first | exact Nat.le_refl _ | omega | (simp; done) | (simp; omega)) _))
        · have hin : i < n := by omega
          have hiI : (i : Int) < (n : Int) := by omega
          have i0 : (0 : Int) ≤ (i : Int) := by omega
          have hgk : 1 ≤ gk := by omega
          have HI := Lib.hid hi
          obtain ⟨b, off, u, rfl, hb, hx0, hu⟩ := H.out.get i hin
          obtain ⟨ai, ci, e, hci, hcm⟩ := hu.form
          subst e
          obtain ⟨ni, hni⟩ : ∃ ni, (rs.getD i []).length = ni := ⟨_, rfl⟩
          rw [hni] at hx0 hci hu
          have hx := (hbel.cell (p := ⟨b, off + i, none⟩) hb).trans hx0
          have HNI := Lib.hid hni
          clear hi hni hg
          by_cases hnn : ni = n
          · subst hnn
            have hne : ((ni : Int) != (ni : Int)) = false := by simp
            have HU := Lib.hid hu
            clear hu
            obtain ⟨w0, hw0⟩ : ∃ W, W = wr := ⟨_, rfl⟩
            subst hw0
            obtain ⟨G, hG⟩ : ∃ G, G = gk := ⟨_, rfl⟩
            go_wp2_with fail
            go_loopg [39] ni (fun g2 s39 wr => ∃ k : Nat, s39 = .int .i64 (k : Int) ∧ k + g2 = ni ∧ Hid (RR w wr ni (5 * i + k) (valTo rs ni i k)) ∧ Hid (∀ j, j < k → 0 ≤ relAt rs i j ∧ relAt rs i j ≤ 3))
            case atStart => exact ⟨0, rfl, by omega, S, Lib.hid fun j hj => by omega⟩
            case round =>
              clear S r0 r1 q0 q1 c0 c1 hbel hbig
              obtain ⟨k, rfl, hk, S, hno2⟩ := hrel
              have hbig := S.out.big
              have r0 := S.out.r0
              have r1 := S.out.r1
              have q0 := S.out.q0
              have q1 := S.out.q1
              have c0 := S.out.c0
              have c1 := S.out.c1
              have hbel := S.out.bel
              by_cases hg : gk = 0
              · subst hg
                obtain rfl : k = ni := by omega
                have hdn : decide ((k : Int) < (k : Int)) = false := by simp
                go_wp2_with fail
                go_roundg (G - 1)
                case measure => omega
                case rel =>
                  refine ⟨i + 1, by go_num, by have := HI.out; omega, Lib.hid (by rw [← valTo_row]; exact S.out.mono (by omega)), Lib.hid fun j hj => ?_⟩
                  by_cases hji : j = i
                  · subst hji; exact ⟨HNI.out, hno2.out⟩
                  · exact hno.out j (by omega)
              · have hkn : k < ni := by omega
                have hkI : (k : Int) < (ni : Int) := by omega
                have k0 : (0 : Int) ≤ (k : Int) := by omega
                have hgk2 : 1 ≤ gk := by omega
                have HK := Lib.hid hk
                obtain ⟨bi, offi, rfl, hbi, hz⟩ := (HU.out.below hbel).get k hkn
                replace hz : wr.cell? ⟨bi, offi + k, none⟩ = some (.int .i64 (relAt rs i k)) := hz
                obtain ⟨x, hxx⟩ : ∃ x, relAt rs i k = x := ⟨_, rfl⟩
                rw [hxx] at hz
                have HX := Lib.hid hxx
                clear hxx hk hg
                by_cases hx3 : 0 ≤ x ∧ x ≤ 3
                · obtain ⟨x0, x3⟩ := hx3
                  by_cases hxz : x = 0
                  · subst hxz
                    go_wp2_with fail
                    go_roundg (gk - 1)
                    case measure => omega
                    case rel => exact ⟨k + 1, by go_num, by have := HK.out; omega, Lib.hid (by rw [valTo_zero hkn HX.out]; exact S.out.mono (by omega)), Lib.hid fun j hj => by
                      by_cases hjk : j = k
                      · subst hjk; rw [HX.out]; omega
                      · exact hno2.out j (by omega)⟩
                  · have hxb : (x != 0) = true := by simp [hxz]
                    have HXZ := Lib.hid hxz
                    obtain ⟨D, hown, hrd⟩ := S.out.own
                    have HRD := Lib.hid hrd
                    clear hrd hxz
                    go_wp2_with (at_mapUpdate; refine wpList_mapUpdate_own _ rfl _ _ _ 53 rfl 87 3 cp_law Tryz.underlying53 (plainElem Tryz.prog 3) (w.heap.size + 1) (5 * i + k) D rfl hown (by unfold maxLen; omega) _ _ (ck ((i : Int) + 1) ((k : Int) + 1)) rfl rfl (cp_key (WalkArith.wf_i64 (by omega)) (WalkArith.wf_i64 (by omega))) (.lit (.int .i64 x)) [] (plainElem_int Tryz.underlying3 (WalkArith.wf_i64 (by omega))) ?_; intro w1 hown1 hgrow1; have S1 : Hid (RR w w1 ni (5 * i + k + 1) (valTo rs ni i (k + 1))) := Lib.hid (S.out.grown hgrow1 ⟨by omega, by omega, by omega⟩ ⟨_, hown1, by rw [valTo_step hkn, HX.out]; exact HRD.out.put (WalkArith.wf_i64 (by omega)) (WalkArith.wf_i64 (by omega)) HXZ.out⟩); clear hown1 hgrow1)
                    go_roundg (gk - 1)
                    case measure => omega
                    case rel => exact ⟨k + 1, by go_num, by have := HK.out; omega, S1, Lib.hid fun j hj => by
                      by_cases hjk : j = k
                      · subst hjk; rw [HX.out]; omega
                      · exact hno2.out j (by omega)⟩
                · have e := Lib.hid (rels_cell HN.out hin hkn (by rw [HX.out]; exact hx3))
                  by_cases hx0 : x < 0
                  · go_wp2_with fail
                    refine bodyPost_ret (v := .tuple #[.agg #[.int .i64 0, .map none], .bool false]) (by simp [results, Tryz.results22, go_sem, r0, r1]) rfl ?_
                    exact readPost_no e.out (by repeat (first | exact Below.refl _ _ | assumption | refine Below.drew ?_ | refine belowDrewN ?_ _ | refine Below.alloc ?_ (by first | exact Nat.le_refl _ | omega | (simp; done) | (simp; omega)) _ | refine Below.setCell ?_ (by first | exact Nat.le_refl _ | omega | (simp; done) | (simp; omega)) _))
                  · have hx4 : 3 < x := by omega
                    go_wp2_with fail
                    refine bodyPost_ret (v := .tuple #[.agg #[.int .i64 0, .map none], .bool false]) (by simp [results, Tryz.results22, go_sem, r0, r1]) rfl ?_
                    exact readPost_no e.out (by repeat (first | exact Below.refl _ _ | assumption | refine Below.drew ?_ | refine belowDrewN ?_ _ | refine Below.alloc ?_ (by first | exact Nat.le_refl _ | omega | (simp; done) | (simp; omega)) _ | refine Below.setCell ?_ (by first | exact Nat.le_refl _ | omega | (simp; done) | (simp; omega)) _))
          · have hne : ((ni : Int) != (n : Int)) = true := by simp; omega
            have e := Lib.hid (relsOk_bad1 HN.out hin (by rw [HNI.out]; exact hnn))
            go_wp2_with fail
            refine bodyPost_ret (v := .tuple #[.agg #[.int .i64 0, .map none], .bool false]) (by simp [results, Tryz.results22, go_sem, r0, r1]) rfl ?_
            exact readPost_no e.out (by repeat (first | exact Below.refl _ _ | assumption | refine Below.drew ?_ | refine belowDrewN ?_ _ | refine Below.alloc ?_ (by first | exact Nat.le_refl _ | omega | (simp; done) | (simp; omega)) _ | refine Below.setCell ?_ (by first | exact Nat.le_refl _ | omega | (simp; done) | (simp; omega)) _))
end Go.Proofs.YtlpibfafpljedaaGreatDoor
