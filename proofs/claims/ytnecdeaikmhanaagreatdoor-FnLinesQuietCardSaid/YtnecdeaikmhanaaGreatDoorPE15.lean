/- A part of the proof; packed by a program of mine out of my texts. -/
import Derived.Test.YtnecdeaikmhanaaGreatDoorPE0
import Derived.Test.YtnecdeaikmhanaaGreatDoorPE1
import Derived.Test.YtnecdeaikmhanaaGreatDoorPE2
import Derived.Test.YtnecdeaikmhanaaGreatDoorPE3
import Derived.Test.YtnecdeaikmhanaaGreatDoorPE4
import Derived.Test.YtnecdeaikmhanaaGreatDoorPE5
import Derived.Test.YtnecdeaikmhanaaGreatDoorPE7
import Derived.Test.YtnecdeaikmhanaaGreatDoorPE8
import Derived.Test.YtnecdeaikmhanaaGreatDoorPE9
import Derived.Test.YtnecdeaikmhanaaGreatDoorPE10
import Derived.Test.YtnecdeaikmhanaaGreatDoorPE12
import Derived.Test.YtnecdeaikmhanaaGreatDoorPE13
import Derived.Test.YtnecdeaikmhanaaGreatDoorPE14
import Derived.WalkSpells
import Derived.Laws.CopyOwn
import Derived.Lib.AppendZeros
import Derived.Lib.AppendZerosOnto
import Derived.Lib.Overlaps
import Derived.Laws.Externs
import Derived.Laws.IdiomStrings
import Derived.Deep.RegionLawGrows
import Derived.Deep.RegionHeld3
namespace Go.Proofs.YtnecdeaikmhanaaGreatDoor
open Go.RowKit
set_option linter.unusedVariables false
set_option maxRecDepth 100000
def PlaceAt (l : List Ent) (f b : Int) (i : Nat) : Prop := i ≤ l.length ∧ (∀ j, j < i → ordF (l.getD j (0, 0, 0)) (f, b, 0) < 0) ∧ ∀ j, i ≤ j → j < l.length → 0 ≤ ordF (l.getD j (0, 0, 0)) (f, b, 0)
def foundF (l : List Ent) (f b : Int) (i : Nat) : Bool := decide (i < l.length) && decide (ordF (l.getD i (0, 0, 0)) (f, b, 0) = 0)
theorem rcmp_zero {f b f2 b2 : Int} (h : rcmpF f b f2 b2 = 0) : f = f2 ∧ b = b2 := by
  unfold rcmpF cmpI at h
  split at h <;> split at h <;> (try split at h) <;> (try split at h) <;> omega
theorem ord_zero {e : Ent} {f b : Int} (h : ordF e (f, b, 0) = 0) : e.1 = f ∧ e.2.1 = b := rcmp_zero h
theorem ord_left {a b c : Ent} (h1 : ordF a b < 0) (h2 : 0 ≤ ordF a c) : 0 ≤ ordF b c := by
  rcases Int.lt_or_le (ordF b c) 0 with h | h
  · have := ord_trans h1 h; omega
  · exact h
set_option maxHeartbeats 4000000 in
theorem homeCmp_any (x y u f b z : Int) (h1 : rangeOkF x y = true) (h2 : rangeOkF f b = true) (w : World) :
    Calls Tryz.prog 58 #[.agg #[.int .i64 x, .int .i64 y, .int .i64 u], .agg #[.int .i64 f, .int .i64 b, .int .i64 z]] w fun e w' => e = .returned (.int .i64 (rcmpF x y f b)) ∧ Below w.heap.size w w' := by
  have HC := Lib.hid (fun W => rangeCmp_any x y f b h1 h2 W)
  clear h1 h2
  go_enter Tryz.func58, Tryz.ntmps58
  go_wp2_with fail
  refine (HC.out _).mono ?_
  rintro e w1 ⟨rfl, hb1⟩
  have B1 : Below w.heap.size w w1 := by refine Below.trans ?_ (hb1.mono (by first | exact Nat.le_refl _ | omega | (simp; done) | (simp; omega))); exact bw
  clear hb1
  go_wp2_with fail
  go_ret
  exact ⟨rfl, B1⟩
def SearchPost (l : List Ent) (f b : Int) (w : World) (e : Ending) (w' : World) : Prop := ∃ i : Nat, e = .returned (.tuple #[.int .i64 (i : Int), .bool (foundF l f b i)]) ∧ PlaceAt l f b i ∧ Below w.heap.size w w'
theorem search_no {l : List Ent} {f b : Int} {i : Nat} {w w' : World} (h : foundF l f b i = false) (hp : PlaceAt l f b i) (hb : Below w.heap.size w w') : SearchPost l f b w (.returned (.tuple #[.int .i64 (i : Int), .bool false])) w' := ⟨i, by rw [h], hp, hb⟩
theorem search_at {l : List Ent} {f b : Int} {i : Nat} {w w' : World} {x : Bool} (h : foundF l f b i = x) (hp : PlaceAt l f b i) (hb : Below w.heap.size w w') : SearchPost l f b w (.returned (.tuple #[.int .i64 (i : Int), .bool x])) w' := ⟨i, by rw [h], hp, hb⟩
theorem half_facts (i j : Nat) (h : i < j) (hj : j ≤ 1000) : ∃ m : Nat, i ≤ m ∧ m < j ∧ IntKind.i64.wrap ((i : Int) + (j : Int)) = (i : Int) + (j : Int) ∧ IntKind.u64.wrap ((i : Int) + (j : Int)) = (i : Int) + (j : Int) ∧ ((i : Int) + (j : Int)) / 2 = (m : Int) ∧ IntKind.i64.wrap (m : Int) = (m : Int) ∧ IntKind.u64.wrap (m : Int) = (m : Int) ∧ IntKind.i64.wrap ((m : Int) + 1) = (m : Int) + 1 := by
  refine ⟨(i + j) / 2, by omega, by omega, IntWalk.i64_in _ (by omega), ?_, by omega, IntWalk.i64_in _ (by omega), ?_, IntWalk.i64_in _ (by omega)⟩
  · unfold IntKind.wrap IntKind.bits; simp; omega
  · unfold IntKind.wrap IntKind.bits; simp; omega
set_option maxHeartbeats 8000000 in
theorem searchH_any (v : Value) (l : List Ent) (f b z : Int) (w : World) (h : EntsAt w v l) (hr : Rise l) (hok : ∀ i, i < l.length → rangeOkF (l.getD i (0, 0, 0)).1 (l.getD i (0, 0, 0)).2.1 = true) (hfb : rangeOkF f b = true) (hl : l.length ≤ 1000) :
    Calls Tryz.prog 57 #[v, .agg #[.int .i64 f, .int .i64 b, .int .i64 z], .func (.func 58) #[] #[]] w (SearchPost l f b w) := by
  obtain ⟨a, cap, rfl, hc, hm⟩ := h.form
  obtain ⟨n, hn⟩ : ∃ n, l.length = n := ⟨_, rfl⟩
  rw [hn] at hc h hl ⊢
  have hsz : (w.alloc (.cells #[.int .i64 f, .int .i64 b, .int .i64 z] 83)).heap.size = w.heap.size + 1 := World.size_alloc _ _
  have hal : Below w.heap.size w (w.alloc (.cells #[.int .i64 f, .int .i64 b, .int .i64 z] 83)) := Below.alloc (Below.refl _ _) (Nat.le_refl _) _
  have hcell : ∀ W, Below (w.heap.size + 1) (w.alloc (.cells #[.int .i64 f, .int .i64 b, .int .i64 z] 83)) W → W.cell? ⟨w.heap.size, 0, none⟩ = some (.int .i64 f) ∧ W.cell? ⟨w.heap.size, 1, none⟩ = some (.int .i64 b) ∧ W.cell? ⟨w.heap.size, 2, none⟩ = some (.int .i64 z) ∧ Below w.heap.size w W ∧ EntsAt W (.slice a n cap) l := fun W hW =>
    ⟨(hW.cell (p := ⟨w.heap.size, 0, none⟩) (by show w.heap.size < w.heap.size + 1; omega)).trans (by simp), (hW.cell (p := ⟨w.heap.size, 1, none⟩) (by show w.heap.size < w.heap.size + 1; omega)).trans (by simp), (hW.cell (p := ⟨w.heap.size, 2, none⟩) (by show w.heap.size < w.heap.size + 1; omega)).trans (by simp), hal.trans (hW.mono (by omega)), h.below (hal.trans (hW.mono (by omega)))⟩
  have HCE := Lib.hid hcell
  have HN := Lib.hid hn
  have HR := Lib.hid hr
  have hcmp : ∀ i, i < n → ∀ W, Calls Tryz.prog 58 #[.agg #[.int .i64 (l.getD i (0, 0, 0)).1, .int .i64 (l.getD i (0, 0, 0)).2.1, .int .i64 (l.getD i (0, 0, 0)).2.2], .agg #[.int .i64 f, .int .i64 b, .int .i64 z]] W fun e w' => e = .returned (.int .i64 (ordF (l.getD i (0, 0, 0)) (f, b, 0))) ∧ Below W.heap.size W w' := fun i hi W => homeCmp_any _ _ _ f b z (hok i (by rw [hn]; exact hi)) hfb W
  have HCM := Lib.hid hcmp
  have HB0 : Hid (Below (w.heap.size + 1) (w.alloc (.cells #[.int .i64 f, .int .i64 b, .int .i64 z] 83)) (w.alloc (.cells #[.int .i64 f, .int .i64 b, .int .i64 z] 83))) := Lib.hid (Below.refl _ _)
  clear h hn hr hok hfb hcell hcmp hal
  go_enter Tryz.func57, Tryz.ntmps57
  go_wp2_with fail
  go_loopg [9, 10] n (fun gk s9 s10 wr => ∃ i j : Nat, s9 = .int .i64 (i : Int) ∧ s10 = .int .i64 (j : Int) ∧ j = i + gk ∧ j ≤ n ∧ Hid (∀ q, q < i → ordF (l.getD q (0, 0, 0)) (f, b, 0) < 0) ∧ Hid (∀ q, j ≤ q → q < n → 0 ≤ ordF (l.getD q (0, 0, 0)) (f, b, 0)) ∧ Hid (Below (w.heap.size + 1) (w.alloc (.cells #[.int .i64 f, .int .i64 b, .int .i64 z] 83)) wr))
  case atStart => exact ⟨0, n, rfl, rfl, by omega, by omega, Lib.hid (fun q hq => absurd hq (by omega)), Lib.hid (fun q h1 h2 => absurd h2 (by omega)), HB0⟩
  case round =>
    clear HB0
    obtain ⟨i, j, rfl, rfl, hj, hjn, HLO, HHI, BB⟩ := hrel
    obtain ⟨c0, c1, c2, bw, hE⟩ := HCE.out wr BB.out
    have hsr := BB.out.size
    rw [hsz] at hsr
    by_cases hg : gk = 0
    · subst hg
      obtain rfl : j = i := by omega
      have hdn : decide ((j : Int) < (j : Int)) = false := by simp
      by_cases hjl : j < n
      · obtain ⟨eb, eoff, rfl, heb, x0, x1, x2⟩ := hE.get j hjl
        have hd2 : decide ((j : Int) < (n : Int)) = true := decide_eq_true (by omega)
        have hjI : (j : Int) < (n : Int) := by omega
        have j0 : (0 : Int) ≤ (j : Int) := by omega
        have hcm := HCM.out j hjl
        have hfd : foundF l f b j = decide (ordF (l.getD j (0, 0, 0)) (f, b, 0) = 0) := by unfold foundF; rw [HN.out, decide_eq_true hjl, Bool.true_and]
        obtain ⟨c, hcc⟩ : ∃ c, ordF (l.getD j (0, 0, 0)) (f, b, 0) = c := ⟨_, rfl⟩
        obtain ⟨ent, hent⟩ : ∃ e, l.getD j (0, 0, 0) = e := ⟨_, rfl⟩
        rw [hcc] at hcm hfd
        rw [hent] at x0 x1 x2 hcm
        obtain ⟨ex, ey, ez⟩ := ent
        simp only at x0 x1 x2 hcm
        have HC := Lib.hid hcm
        have HFD := Lib.hid hfd
        have hceq : (c == 0) = decide (c = 0) := rfl
        clear hcm hfd hcc hent hE hj
        go_wp2_with fail
        refine wp_region_noPanic ?_
        refine wp_region_held_drew (S := (fun W => W.cell? ⟨eb, eoff + j * 3, none⟩ = some (.int .i64 ex) ∧ W.cell? ⟨eb, eoff + j * 3 + 1, none⟩ = some (.int .i64 ey) ∧ W.cell? ⟨eb, eoff + j * 3 + 2, none⟩ = some (.int .i64 ez) ∧ W.cell? ⟨w.heap.size, 0, none⟩ = some (.int .i64 f) ∧ W.cell? ⟨w.heap.size, 1, none⟩ = some (.int .i64 b) ∧ W.cell? ⟨w.heap.size, 2, none⟩ = some (.int .i64 z))) (by kernel_rfl) (by exact ⟨x0, x1, x2, c0, c1, c2⟩) (fun hHeld => ?_)
        refine tkT (i := 0) (h := ?_)
        (try simp only [Act.put, pB, pC, pD])
        refine tkT (i := 1) (h := ?_)
        (try simp only [Act.put, pB, pC, pD])
        refine tkT (i := 2) (h := ?_)
        (try simp only [Act.put, pB, pC, pD])
        refine tkT (i := 3) (h := ?_)
        (try simp only [Act.put, pB, pC, pD])
        refine tkT (i := 4) (h := ?_)
        (try simp only [Act.put, pB, pC, pD])
        refine tkT (i := 5) (h := ?_)
        (try simp only [Act.put, pB, pC, pD])
        refine tkT (i := 6) (h := ?_)
        (try simp only [Act.put, pB, pC, pD])
        refine tkT (i := 7) (h := ?_)
        (try simp only [Act.put, pB, pC, pD])
        refine tkT (i := 8) (h := ?_)
        (try simp only [Act.put, pB, pC, pD])
        refine tkT (i := 9) (h := ?_)
        (try simp only [Act.put, pB, pC, pD])
        refine tkT (i := 10) (h := ?_)
        (try simp only [Act.put, pB, pC, pD])
        refine wpAnyH_ready (rs := [11]) (by kernel_rfl) (by simp) ?_
        refine AllReadyH.cons (by (simp only [List.getElem?_toArray, List.getElem?_cons_succ, List.getElem?_cons_zero]) <;> rfl) (fun K hK => ?_) AllReadyH.nil
        go_simp
        (go_at_call 58; refine (HC.out _).mono ?_; rintro e w3 ⟨rfl, hb3⟩; have hb4 : Below wr.heap.size wr w3 := (Below.drew (Below.refl _ _)).trans hb3; have B3 : Hid (Below w.heap.size w w3) := Lib.hid (bw.trans (hb4.mono bw.size)); have z0 := (hb4.cell (p := ⟨eb, eoff + j * 3, none⟩) heb).trans x0; have z1 := (hb4.cell (p := ⟨eb, eoff + j * 3 + 1, none⟩) heb).trans x1; have z2 := (hb4.cell (p := ⟨eb, eoff + j * 3 + 2, none⟩) heb).trans x2; have d0 := (hb4.cell (p := ⟨w.heap.size, 0, none⟩) (by show w.heap.size < wr.heap.size; omega)).trans c0; have d1 := (hb4.cell (p := ⟨w.heap.size, 1, none⟩) (by show w.heap.size < wr.heap.size; omega)).trans c1; have d2 := (hb4.cell (p := ⟨w.heap.size, 2, none⟩) (by show w.heap.size < wr.heap.size; omega)).trans c2; clear hb3 hb4)
        refine hK.out _ _ (by exact ⟨z0, z1, z2, d0, d1, d2⟩) (fun hHeld => ?_)
        (try simp only [Act.put, pB, pC, pD])
        refine tkT (i := 12) (h := ?_)
        (try simp only [Act.put, pB, pC, pD])
        refine tkT (i := 13) (h := ?_)
        (try simp only [Act.put, pB, pC, pD])
        refine tkT (i := 14) (h := ?_)
        (try simp only [Act.put, pB, pC, pD])
        refine tkT (i := 15) (h := ?_)
        (try simp only [Act.put, pB, pC, pD])
        refine wpAnyH_done (by kernel_rfl) ?_ _
        refine NoPanic.normal ?_
        go_wp2_with fail
        refine bodyPost_ret (results_tmp2 rfl _ _ _) rfl ?_
        exact search_at (by rw [HFD.out]) ⟨by rw [HN.out]; omega, HLO.out, by rw [HN.out]; exact HHI.out⟩ B3.out
      · have hd2 : decide ((j : Int) < (n : Int)) = false := decide_eq_false (by omega)
        have hfd : foundF l f b j = false := by unfold foundF; rw [HN.out, decide_eq_false hjl, Bool.false_and]
        have HFD := Lib.hid hfd
        clear hfd hE hj
        go_wp2_with fail
        refine wp_region_noPanic ?_
        refine wp_region_held_drew (S := (fun W => W.cell? ⟨w.heap.size, 0, none⟩ = some (.int .i64 f))) (by kernel_rfl) (by exact c0) (fun hHeld => ?_)
        refine tkT (i := 0) (h := ?_)
        (try simp only [Act.put, pB, pC, pD])
        refine tkT (i := 1) (h := ?_)
        (try simp only [Act.put, pB, pC, pD])
        refine tkT (i := 2) (h := ?_)
        (try simp only [Act.put, pB, pC, pD])
        refine tkT (i := 3) (h := ?_)
        (try simp only [Act.put, pB, pC, pD])
        refine tkT (i := 4) (h := ?_)
        (try simp only [Act.put, pB, pC, pD])
        refine tkS (i := 5) (h := ?_)
        (try simp only [Act.put, pB, pC, pD])
        refine tkS (i := 6) (h := ?_)
        (try simp only [Act.put, pB, pC, pD])
        refine tkS (i := 7) (h := ?_)
        (try simp only [Act.put, pB, pC, pD])
        refine tkS (i := 8) (h := ?_)
        (try simp only [Act.put, pB, pC, pD])
        refine tkS (i := 9) (h := ?_)
        (try simp only [Act.put, pB, pC, pD])
        refine tkS (i := 10) (h := ?_)
        (try simp only [Act.put, pB, pC, pD])
        refine tkS (i := 11) (h := ?_)
        (try simp only [Act.put, pB, pC, pD])
        refine tkS (i := 12) (h := ?_)
        (try simp only [Act.put, pB, pC, pD])
        refine tkT (i := 13) (h := ?_)
        (try simp only [Act.put, pB, pC, pD])
        refine tkT (i := 14) (h := ?_)
        (try simp only [Act.put, pB, pC, pD])
        refine tkT (i := 15) (h := ?_)
        (try simp only [Act.put, pB, pC, pD])
        refine wpAnyH_done (by kernel_rfl) ?_ _
        refine NoPanic.normal ?_
        go_wp2_with fail
        refine bodyPost_ret (results_tmp2 rfl _ _ _) rfl ?_
        exact search_no HFD.out ⟨by rw [HN.out]; omega, HLO.out, by rw [HN.out]; exact HHI.out⟩ (Below.drew bw)
    · have hij : i < j := by omega
      obtain ⟨m, m1, m2, q1, q2, q3, q4, q5, q6⟩ := half_facts i j hij (by omega)
      have hmn : m < n := by omega
      have hdd : decide ((i : Int) < (j : Int)) = true := decide_eq_true (by omega)
      have hmI : (m : Int) < (n : Int) := by omega
      have m0 : (0 : Int) ≤ (m : Int) := by omega
      obtain ⟨eb, eoff, rfl, heb, x0, x1, x2⟩ := hE.get m hmn
      have hcm := HCM.out m hmn
      have hup : ∀ q, m < q → q < n → ordF (l.getD m (0, 0, 0)) (l.getD q (0, 0, 0)) < 0 := fun q h1 h2 => HR.out m q h1 (by rw [HN.out]; exact h2)
      have hdo : ∀ q, q < m → ordF (l.getD q (0, 0, 0)) (l.getD m (0, 0, 0)) < 0 := fun q h1 => HR.out q m h1 (by rw [HN.out]; exact hmn)
      obtain ⟨c, hcc⟩ : ∃ c, ordF (l.getD m (0, 0, 0)) (f, b, 0) = c := ⟨_, rfl⟩
      have HLO2 : c < 0 → ∀ q, q < m + 1 → ordF (l.getD q (0, 0, 0)) (f, b, 0) < 0 := fun hlt q hq => by
        by_cases hqm : q = m
        · subst hqm; rw [hcc]; exact hlt
        · exact ord_trans (hdo q (by omega)) (by rw [hcc]; exact hlt)
      have HHI2 : ¬ c < 0 → ∀ q, m ≤ q → q < n → 0 ≤ ordF (l.getD q (0, 0, 0)) (f, b, 0) := fun hlt q h1 h2 => by
        by_cases hqm : q = m
        · subst hqm; rw [hcc]; omega
        · exact ord_left (hup q (by omega) h2) (by rw [hcc]; omega)
      have KLO := Lib.hid HLO2
      have KHI := Lib.hid HHI2
      obtain ⟨ent, hent⟩ : ∃ e, l.getD m (0, 0, 0) = e := ⟨_, rfl⟩
      rw [hcc] at hcm
      rw [hent] at x0 x1 x2 hcm
      obtain ⟨ex, ey, ez⟩ := ent
      simp only at x0 x1 x2 hcm
      have HC := Lib.hid hcm
      have HJ := Lib.hid hj
      clear hcm hcc hent hE hj hg HLO2 HHI2 hup hdo
      by_cases hlt : c < 0
      · have hld : decide (c < 0) = true := decide_eq_true hlt
        have HLT := Lib.hid hlt
        clear hlt
        go_wp2_with fail
        refine wp_region_noPanic ?_
        refine wp_region_held_drew (S := (fun W => W.cell? ⟨eb, eoff + m * 3, none⟩ = some (.int .i64 ex) ∧ W.cell? ⟨eb, eoff + m * 3 + 1, none⟩ = some (.int .i64 ey) ∧ W.cell? ⟨eb, eoff + m * 3 + 2, none⟩ = some (.int .i64 ez) ∧ W.cell? ⟨w.heap.size, 0, none⟩ = some (.int .i64 f) ∧ W.cell? ⟨w.heap.size, 1, none⟩ = some (.int .i64 b) ∧ W.cell? ⟨w.heap.size, 2, none⟩ = some (.int .i64 z))) (by kernel_rfl) (by exact ⟨x0, x1, x2, c0, c1, c2⟩) (fun hHeld => ?_)
        refine tkT (i := 0) (h := ?_)
        (try simp only [Act.put, pB, pC, pD])
        refine tkT (i := 1) (h := ?_)
        (try simp only [Act.put, pB, pC, pD])
        refine tkT (i := 2) (h := ?_)
        (try simp only [Act.put, pB, pC, pD])
        refine tkT (i := 3) (h := ?_)
        (try simp only [Act.put, pB, pC, pD])
        refine tkT (i := 4) (h := ?_)
        (try simp only [Act.put, pB, pC, pD])
        refine tkT (i := 5) (h := ?_)
        (try simp only [Act.put, pB, pC, pD])
        refine wpAnyH_ready (rs := [6]) (by kernel_rfl) (by simp) ?_
        refine AllReadyH.cons (by (simp only [List.getElem?_toArray, List.getElem?_cons_succ, List.getElem?_cons_zero]) <;> rfl) (fun K hK => ?_) AllReadyH.nil
        go_simp
        (go_at_call 58; refine (HC.out _).mono ?_; rintro e w3 ⟨rfl, hb3⟩; have hb4 : Below wr.heap.size wr w3 := (Below.drew (Below.refl _ _)).trans hb3; have B3 := Lib.hid (BB.out.trans (hb4.mono hsr)); have z0 := (hb4.cell (p := ⟨eb, eoff + m * 3, none⟩) heb).trans x0; have z1 := (hb4.cell (p := ⟨eb, eoff + m * 3 + 1, none⟩) heb).trans x1; have z2 := (hb4.cell (p := ⟨eb, eoff + m * 3 + 2, none⟩) heb).trans x2; have d0 := (hb4.cell (p := ⟨w.heap.size, 0, none⟩) (by show w.heap.size < wr.heap.size; omega)).trans c0; have d1 := (hb4.cell (p := ⟨w.heap.size, 1, none⟩) (by show w.heap.size < wr.heap.size; omega)).trans c1; have d2 := (hb4.cell (p := ⟨w.heap.size, 2, none⟩) (by show w.heap.size < wr.heap.size; omega)).trans c2; clear hb3 hb4)
        refine hK.out _ _ (by exact ⟨z0, z1, z2, d0, d1, d2⟩) (fun hHeld => ?_)
        (try simp only [Act.put, pB, pC, pD])
        refine tkT (i := 7) (h := ?_)
        (try simp only [Act.put, pB, pC, pD])
        refine wpAnyH_done (by kernel_rfl) ?_ _
        refine NoPanic.normal ?_
        go_wp2_with fail
        go_roundg (j - (m + 1))
        case measure => have := HJ.out; omega
        case rel => exact ⟨m + 1, j, by go_num, rfl, by omega, by omega, Lib.hid (KLO.out HLT.out), HHI, B3⟩
      · have hld : decide (c < 0) = false := decide_eq_false hlt
        have HLT := Lib.hid hlt
        clear hlt
        go_wp2_with fail
        refine wp_region_noPanic ?_
        refine wp_region_held_drew (S := (fun W => W.cell? ⟨eb, eoff + m * 3, none⟩ = some (.int .i64 ex) ∧ W.cell? ⟨eb, eoff + m * 3 + 1, none⟩ = some (.int .i64 ey) ∧ W.cell? ⟨eb, eoff + m * 3 + 2, none⟩ = some (.int .i64 ez) ∧ W.cell? ⟨w.heap.size, 0, none⟩ = some (.int .i64 f) ∧ W.cell? ⟨w.heap.size, 1, none⟩ = some (.int .i64 b) ∧ W.cell? ⟨w.heap.size, 2, none⟩ = some (.int .i64 z))) (by kernel_rfl) (by exact ⟨x0, x1, x2, c0, c1, c2⟩) (fun hHeld => ?_)
        refine tkT (i := 0) (h := ?_)
        (try simp only [Act.put, pB, pC, pD])
        refine tkT (i := 1) (h := ?_)
        (try simp only [Act.put, pB, pC, pD])
        refine tkT (i := 2) (h := ?_)
        (try simp only [Act.put, pB, pC, pD])
        refine tkT (i := 3) (h := ?_)
        (try simp only [Act.put, pB, pC, pD])
        refine tkT (i := 4) (h := ?_)
        (try simp only [Act.put, pB, pC, pD])
        refine tkT (i := 5) (h := ?_)
        (try simp only [Act.put, pB, pC, pD])
        refine wpAnyH_ready (rs := [6]) (by kernel_rfl) (by simp) ?_
        refine AllReadyH.cons (by (simp only [List.getElem?_toArray, List.getElem?_cons_succ, List.getElem?_cons_zero]) <;> rfl) (fun K hK => ?_) AllReadyH.nil
        go_simp
        (go_at_call 58; refine (HC.out _).mono ?_; rintro e w3 ⟨rfl, hb3⟩; have hb4 : Below wr.heap.size wr w3 := (Below.drew (Below.refl _ _)).trans hb3; have B3 := Lib.hid (BB.out.trans (hb4.mono hsr)); have z0 := (hb4.cell (p := ⟨eb, eoff + m * 3, none⟩) heb).trans x0; have z1 := (hb4.cell (p := ⟨eb, eoff + m * 3 + 1, none⟩) heb).trans x1; have z2 := (hb4.cell (p := ⟨eb, eoff + m * 3 + 2, none⟩) heb).trans x2; have d0 := (hb4.cell (p := ⟨w.heap.size, 0, none⟩) (by show w.heap.size < wr.heap.size; omega)).trans c0; have d1 := (hb4.cell (p := ⟨w.heap.size, 1, none⟩) (by show w.heap.size < wr.heap.size; omega)).trans c1; have d2 := (hb4.cell (p := ⟨w.heap.size, 2, none⟩) (by show w.heap.size < wr.heap.size; omega)).trans c2; clear hb3 hb4)
        refine hK.out _ _ (by exact ⟨z0, z1, z2, d0, d1, d2⟩) (fun hHeld => ?_)
        (try simp only [Act.put, pB, pC, pD])
        refine tkT (i := 7) (h := ?_)
        (try simp only [Act.put, pB, pC, pD])
        refine wpAnyH_done (by kernel_rfl) ?_ _
        refine NoPanic.normal ?_
        go_wp2_with fail
        go_roundg (m - i)
        case measure => have := HJ.out; omega
        case rel => exact ⟨i, m, rfl, rfl, by omega, by omega, HLO, Lib.hid (KHI.out HLT.out), B3⟩
set_option maxHeartbeats 2000000 in
theorem slCloneH_any (v : Value) (l : List Ent) (w : World) (h : EntsAt w v l) (hl : l.length ≤ 100000) :
    Calls Tryz.prog 61 #[v] w fun e w' => ∃ v', e = .returned v' ∧ HomNew w' w.heap.size v' l ∧ Below w.heap.size w w' := by
  have q22 : ∀ (w : World) (a : Option Addr) (n c n' c' : Nat), (binOp .eql 34 (.slice a n c) (.slice none n' c')).run Tryz.prog w = .ok (.bool a.isNone) w := fun w a n c n' c' => Lib.run_eql_slice_nil w _ _ a n c n' c' Tryz.underlying34
  obtain ⟨a, cap, rfl, hc, hm⟩ := h.form
  rcases a with _ | a
  · have hn : l.length = 0 := by
      obtain ⟨a', c', e, _, _, hh⟩ := h
      simp only [Value.slice.injEq] at e
      obtain ⟨rfl, _, rfl⟩ := e
      rcases hh with hh | ⟨b, off, e, _⟩
      · exact hh
      · cases e
    obtain rfl : l = [] := List.length_eq_zero_iff.mp hn
    clear h
    go_enter Tryz.func61, Tryz.ntmps61
    go_wp2_with fail
    go_ret
    exact ⟨_, rfl, HomNew.nil _ _, Below.refl _ _⟩
  · obtain ⟨n, hn⟩ : ∃ n, l.length = n := ⟨_, rfl⟩
    rw [hn] at hc hl h ⊢
    have H := Lib.hid h
    have HN := Lib.hid hn
    clear hn h
    go_enter Tryz.func61, Tryz.ntmps61
    go_wp2_with (at_builtin; refine wpList_append_homs rfl (.tmp 5) (.tmp 6) rfl w.heap.size _ _ [] l n (by rw [List.length_nil, HN.out, Nat.zero_add]) rfl (HomNew.zero w) rfl (H.out.below (Below.alloc (Below.refl _ _) (Nat.le_refl _) _)) (by omega) (by simp) ?_; intro ad c w1 hE hb1 hs1; have E1 : Hid (HomNew w1 w.heap.size (.slice ad n c) l) := Lib.hid hE; have B1 : Hid (Below w.heap.size w w1) := Lib.hid (Below.trans (Below.alloc (Below.refl _ _) (Nat.le_refl _) _) hb1); clear hE hb1)
    go_ret
    exact ⟨_, rfl, E1.out, B1.out⟩
end Go.Proofs.YtnecdeaikmhanaaGreatDoor
namespace Go.Proofs.YtnecdeaikmhanaaGreatDoor
open Go.RowKit
set_option linter.unusedVariables false
set_option maxRecDepth 100000
def cellsH : List Ent → List Value
  | [] => []
  | e :: t => .int .i64 e.1 :: .int .i64 e.2.1 :: .int .i64 e.2.2 :: cellsH t
theorem cellsH_len : ∀ l, (cellsH l).length = l.length * 3
  | [] => rfl
  | e :: t => by simp only [cellsH, List.length_cons, cellsH_len t]; omega
theorem cellsH_app : ∀ l m, cellsH (l ++ m) = cellsH l ++ cellsH m
  | [], m => rfl
  | e :: t, m => by simp only [List.cons_append, cellsH, cellsH_app t m]
theorem cellsH_take : ∀ (l : List Ent) (i : Nat), (cellsH l).take (i * 3) = cellsH (l.take i)
  | [], i => by simp [cellsH]
  | e :: t, 0 => by simp [cellsH]
  | e :: t, i + 1 => by
    rw [show (i + 1) * 3 = i * 3 + 1 + 1 + 1 by omega]
    simp only [cellsH, List.take_succ_cons, cellsH_take t i]
theorem cellsH_drop : ∀ (l : List Ent) (i : Nat), (cellsH l).drop (i * 3) = cellsH (l.drop i)
  | [], i => by simp [cellsH]
  | e :: t, 0 => by simp
  | e :: t, i + 1 => by
    rw [show (i + 1) * 3 = i * 3 + 1 + 1 + 1 by omega]
    simp only [cellsH, List.drop_succ_cons, cellsH_drop t i]
theorem cellsH_get : ∀ (l : List Ent) (i : Nat), i < l.length → (cellsH l).getD (i * 3) undef = .int .i64 (l.getD i (0, 0, 0)).1 ∧ (cellsH l).getD (i * 3 + 1) undef = .int .i64 (l.getD i (0, 0, 0)).2.1 ∧ (cellsH l).getD (i * 3 + 2) undef = .int .i64 (l.getD i (0, 0, 0)).2.2
  | [], i, h => by simp at h
  | e :: t, 0, h => by simp [cellsH]
  | e :: t, i + 1, h => by
    have := cellsH_get t i (by simpa using h)
    rw [show (i + 1) * 3 = i * 3 + 1 + 1 + 1 by omega]
    simpa only [cellsH, List.getD_cons_succ] using this
theorem cellsH_one : ∀ (l : List Ent) (v : Value), v ∈ cellsH l → v.oneCell' = true
  | [], v, h => by simp [cellsH] at h
  | e :: t, v, h => by
    simp only [cellsH, List.mem_cons] at h
    rcases h with rfl | rfl | rfl | h
    · rfl
    · rfl
    · rfl
    · exact cellsH_one t v h
theorem HomNew.of_cells {w : World} {lo : Nat} {v : Value} {l : List Ent} (h : w.ownsRow lo 83 3 v l.length (cellsH l)) : HomNew w lo v l := ⟨_, h, cellsH_get l⟩
theorem HomNew.to_cells {w : World} {lo : Nat} {v : Value} {l : List Ent} (h : HomNew w lo v l) : w.ownsRow lo 83 3 v l.length (cellsH l) := by
  obtain ⟨xs, h1, h2⟩ := h
  have e : xs = cellsH l := by
    apply List.ext_getElem
    · rw [h1.1, cellsH_len]
    · intro k hk1 hk2
      have hk : k < l.length * 3 := by rw [cellsH_len] at hk2; exact hk2
      have a := h2 (k / 3) (by omega)
      have b := cellsH_get l (k / 3) (by omega)
      have g1 : ∀ j, j = k → xs.getD j undef = xs[k] := fun j hj => by subst hj; rw [List.getD_eq_getElem?_getD, List.getElem?_eq_getElem hk1]; rfl
      have g2 : ∀ j, j = k → (cellsH l).getD j undef = (cellsH l)[k] := fun j hj => by subst hj; rw [List.getD_eq_getElem?_getD, List.getElem?_eq_getElem hk2]; rfl
      have : k % 3 = 0 ∨ k % 3 = 1 ∨ k % 3 = 2 := by omega
      rcases this with h | h | h
      · rw [← g1 (k / 3 * 3) (by omega), ← g2 (k / 3 * 3) (by omega), a.1, b.1]
      · rw [← g1 (k / 3 * 3 + 1) (by omega), ← g2 (k / 3 * 3 + 1) (by omega), a.2.1, b.2.1]
      · rw [← g1 (k / 3 * 3 + 2) (by omega), ← g2 (k / 3 * 3 + 2) (by omega), a.2.2, b.2.2]
  rw [e] at h1
  exact h1
section
variable {P : Program}
theorem run_copy_row3 (w : World) (dT sT ty elem : TypeId) (g o dLen dCap : Nat) (a : Addr) (sLen sCap : Nat) (cur : Array Value) (t : TypeId) (cs : List Value)
    (hu : P.underlying dT = some (.slice elem)) (hs : (P.info? elem).map (·.size) = some 3)
    (hg : w.heap[g]? = some (.cells cur t (0, 0))) (hn : cs.length = Nat.min sLen dLen * 3)
    (hsrc : ∀ j v, cs[j]? = some v → w.cell? (a.add j) = some v) (hfit : o + cs.length ≤ cur.size) (h1 : ∀ v ∈ cs, v.oneCell' = true) :
    (Builtin.copy_ #[dT, sT] ty #[.slice (some ⟨g, o, none⟩) dLen dCap, .slice (some a) sLen sCap]).run P w =
      .ok (goInt (Nat.min sLen dLen)) (w.setRow g (cur.toList.take o ++ cs ++ cur.toList.drop (o + cs.length)).toArray) := by
  have hl := run_loadCells_list (P := P) w a cs hsrc
  have hst := run_storeCells_at P g o t cs 0 cur w hg (by simpa using hfit) h1
  cases hq : P.info? elem with
  | none => simp [hq] at hs
  | some i =>
    have hi : i.size = 3 := by simpa [hq] using hs
    simp [Builtin.copy_, run_underlying hu, Builtin.lenOf, Builtin.firstCells, sizeOf, typeInfo, hq, hi, ← hn, hl, hst]
theorem step_copy3 {ops : Array Oper} {o : Oper} {a : Act} {w : World} {K : Act → World → Prop} {Q : Exit → Act → World → Prop} {E : Prop} (hgd : o.guard = none) (d s : Operand) (dT sT : TypeId)
    (ho : o.op = .call { callee := .builtin .copy, args := #[d, s], argTypes := #[dT, sT] }) (elem : TypeId) (hu : P.underlying dT = some (.slice elem)) (hsz : (P.info? elem).map (·.size) = some 3)
    (g off : Nat) (ad : Addr) (dLen dCap sLen sCap : Nat) (hd : a.eval d = .slice (some ⟨g, off, none⟩) dLen dCap) (hs : a.eval s = .slice (some ad) sLen sCap)
    (cur : List Value) (t : TypeId) (hg : w.heap[g]? = some (.cells cur.toArray t (0, 0))) (cs : List Value) (hn : cs.length = Nat.min sLen dLen * 3)
    (hsrc : ∀ j v, cs[j]? = some v → w.cell? (ad.add j) = some v)
    (hfit : off + cs.length ≤ cur.length) (h1 : ∀ v ∈ cs, v.oneCell' = true) (B : Nat) (w0 : World) (hb : Below B w0 w) (hBg : B ≤ g)
    (h : ∀ w', Hid (w'.heap[g]? = some (.cells (splice cur off cs).toArray t (0, 0))) → Below B w0 w' → (∀ b, b ≠ g → w'.heap[b]? = w.heap[b]?) → K (a.put o.dst (goInt (Nat.min sLen dLen))) w') :
    if Region.wanted o (yielded ops a.tmps) = true then Oper.wp P o a w K Q else E := by
  have hw : Region.wanted o (yielded ops a.tmps) = true := by simp [Region.wanted, hgd]
  rw [if_pos hw]
  have hrun := run_copy_row3 (P := P) w dT sT o.type elem g off dLen dCap ad sLen sCap cur.toArray t cs hu hsz hg hn hsrc (by simpa using hfit) h1
  unfold Oper.wp
  simp [execOp, ho, resolve, invoke, builtin, hd, hs, hrun, Result.andThen]
  exact h _ (show _ = _ by simpa [splice] using setRow_heap w g _ _ t _ hg) (below_setRow hb hBg _) (fun b hne => setRow_other _ _ _ _ hne)
end
theorem size_h3 : (Tryz.prog.info? 83).map (·.size) = some 3 := by kernel_rfl
theorem splice_new {X M Y cur : List Value} {a : Nat} (hX : cur.take a = X) (ha : X.length = a) (hM : M.length = 3) : (splice (splice cur a M) (a + 3) Y).take (a + 3 + Y.length) = X ++ M ++ Y := by
  have e1 : splice cur a M = (X ++ M) ++ cur.drop (a + M.length) := by unfold splice; rw [hX, List.append_assoc]
  have e2 : (splice cur a M).take (a + 3) = X ++ M := by rw [e1]; exact List.take_left' (by rw [List.length_append]; omega)
  have e3 : splice (splice cur a M) (a + 3) Y = (splice cur a M).take (a + 3) ++ (Y ++ (splice cur a M).drop (a + 3 + Y.length)) := rfl
  rw [e3, e2, ← List.append_assoc]
  exact List.take_left' (by rw [List.length_append, List.length_append]; omega)
theorem splice_in {X M Y cur : List Value} {a : Nat} (hX : cur.take a = X) (ha : X.length = a) (hM : M.length = 3) (hl : a + 3 ≤ cur.length) : (splice (splice cur (a + 3) Y) a M).take (a + 3 + Y.length) = X ++ M ++ Y := by
  obtain ⟨D, hD⟩ : ∃ D, cur.drop (a + 3 + Y.length) = D := ⟨_, rfl⟩
  have e1 : splice cur (a + 3) Y = cur.take (a + 3) ++ (Y ++ D) := by unfold splice; rw [hD]
  have hl3 : (cur.take (a + 3)).length = a + 3 := by rw [List.length_take]; omega
  have e2 : (cur.take (a + 3) ++ (Y ++ D)).take a = X := by
    rw [List.take_append_of_le_length (by omega), List.take_take, Nat.min_eq_left (by omega)]
    exact hX
  rw [e1]
  unfold splice
  rw [e2, hM, List.drop_left' hl3, ← List.append_assoc, ← List.append_assoc, List.take_left' (by rw [List.length_append, List.length_append]; omega)]
theorem splice_len {L cs : List Value} {o : Nat} (h : o + cs.length ≤ L.length) : (splice L o cs).length = L.length := length_splice L o cs h
def InsPost (lo : Nat) (l : List Ent) (i : Nat) (e0 : Ent) (w : World) (e : Ending) (w' : World) : Prop := ∃ v', e = .returned v' ∧ HomNew w' lo v' (l.take i ++ e0 :: l.drop i) ∧ Below lo w w'
theorem ins_of {lo : Nat} {l : List Ent} {i : Nat} {e0 : Ent} {w w' : World} {v : Value} (h : HomNew w' lo v (l.take i ++ e0 :: l.drop i)) (hb : Below lo w w') : InsPost lo l i e0 w (.returned v) w' := ⟨v, rfl, h, hb⟩
theorem ins_row {w : World} {lo g n G i : Nat} {l : List Ent} {e0 : Ent} {L : List Value} (hl : l.length = n) (hi : i ≤ n) (hg : w.heap[g]? = some (.cells L.toArray 83 (0, 0))) (hlo : lo ≤ g) (hG : n + 1 ≤ G) (hGm : G ≤ 9223372036854775807) (hL : L.length = G * 3)
    (ht : L.take (i * 3 + 3 + (cellsH (l.drop i)).length) = cellsH (l.take i) ++ [.int .i64 e0.1, .int .i64 e0.2.1, .int .i64 e0.2.2] ++ cellsH (l.drop i)) : HomNew w lo (.slice (some ⟨g, 0, none⟩) (n + 1) G) (l.take i ++ e0 :: l.drop i) := by
  have hlen : (l.take i ++ e0 :: l.drop i).length = n + 1 := by simp [List.length_take, List.length_drop]; omega
  refine HomNew.of_cells ?_
  rw [hlen]
  refine ⟨by rw [cellsH_len, hlen], .inr ⟨g, G, L.toArray, rfl, hlo, hg, hG, by unfold maxLen; exact hGm, by simpa using hL, ?_⟩⟩
  have e : (n + 1) * 3 = i * 3 + 3 + (cellsH (l.drop i)).length := by rw [cellsH_len, List.length_drop]; omega
  show L.take ((n + 1) * 3) = _
  rw [e, ht, cellsH_app]
  simp [cellsH]
theorem ins_full {l : List Ent} {i : Nat} {e0 : Ent} (h : l.length = i) : l.take i ++ e0 :: l.drop i = l ++ [e0] := by
  rw [List.take_of_length_le (by omega), List.drop_of_length_le (by omega)]
set_option maxHeartbeats 8000000 in
theorem insert_end (lo g i : Nat) (v : Value) (l : List Ent) (e0 : Ent) (w : World) (hO : HomNew w lo v l) (hl : l.length = i) (h5 : i ≤ 5) (hg : w.heap[g]? = some (.cells #[.int .i64 e0.1, .int .i64 e0.2.1, .int .i64 e0.2.2] 83 (0, 0))) (hlo : lo ≤ w.heap.size) :
    Calls Tryz.prog 60 #[v, .int .i64 (i : Int), .slice (some ⟨g, 0, none⟩) 1 1] w (InsPost lo l i e0 w) := by
  obtain ⟨a, c, rfl, hc, hcm⟩ := hO.form
  have hE : EntsAt w (.slice (some ⟨g, 0, none⟩) 1 1) [e0] := ⟨_, 1, rfl, Nat.le_refl _, by unfold maxLen; omega, .inr ⟨g, 0, rfl, heap_lt hg, fun j hj => by
    obtain rfl : j = 0 := by simpa using hj
    simp [World.cell?, hg]⟩⟩
  have hL := ins_full hl (e0 := e0)
  rw [hl] at hO hc ⊢
  have HO := Lib.hid hO
  have HE := Lib.hid hE
  have HL := Lib.hid hl
  have HLL := Lib.hid hL
  clear hO hE hg hl hL
  go_enter Tryz.func60, Tryz.ntmps60
  go_wp2_with (at_builtin; go_loud (refine wpList_append_homs rfl (.tmp 23) (.tmp 24) rfl lo _ _ l [e0] (i + 1) (by rw [HL.out]; rfl) rfl HO.out rfl HE.out (by omega) hlo ?_); intro ad cc w1 hH hb1 hs1; have H1 := Lib.hid hH; have B1 := Lib.hid hb1; clear hH hb1 hs1)
  all_goals
    go_ret
    exact ins_of (by rw [HLL.out]; exact H1.out) B1.out
theorem three_at {w : World} {g : Nat} {x y z : Value} (hg : w.heap[g]? = some (.cells #[x, y, z] 83 (0, 0))) : ∀ (j : Nat) (v : Value), ([x, y, z] : List Value)[j]? = some v → w.cell? ((⟨g, 0, none⟩ : Addr).add j) = some v := by
  intro j v hj
  have hj3 : j < 3 := (List.getElem?_eq_some_iff.1 hj).1
  rw [add_at, Nat.zero_add]
  have : j = 0 ∨ j = 1 ∨ j = 2 := by omega
  rcases this with rfl | rfl | rfl <;> (simp at hj; subst hj; simp [World.cell?, hg])
theorem overlaps_no (w : World) (g sb off lb cb : Nat) (cur cv : Array Value) (hne : g ≠ sb) (hg : w.heap[g]? = some (.cells cv 83 (0, 0))) (hcv : cv.size = 3) (hs : w.heap[sb]? = some (.cells cur 83 (0, 0))) (hc : cur.size ≠ 0) :
    (callFunc 95 #[.slice (some ⟨g, 0, none⟩) 1 1, .slice (some ⟨sb, off, none⟩) lb cb]).run Tryz.prog w = .ok (.value (.bool false)) w := by
  rw [run_callFunc_extern Tryz.func95 (by kernel_rfl) (by kernel_rfl) (by kernel_rfl) (e := Extern.SlicesOverlaps.overlaps #[34, 34] #[4]) (by kernel_rfl),
    Lib.run_overlaps_apart w 34 4 83 Tryz.underlying34 3 Tryz.sizeOf83 ⟨g, 0, none⟩ ⟨sb, off, none⟩ 1 1 lb cb hne 83 83 3 cur.size (by simp [World.shape?, hg, hcv]) (by simp [World.shape?, hs]) hc (by simp [World.frozen?, hg]) (by simp [World.frozen?, hg])]
  rfl
set_option maxHeartbeats 16000000 in
theorem insert_room (lo g i n c : Nat) (a : Option Addr) (l : List Ent) (e0 : Ent) (w : World) (hO : HomNew w lo (.slice a n c) l) (hl : l.length = n) (hi : i < n) (h5 : n ≤ 5) (hr : n + 1 ≤ c) (hg : w.heap[g]? = some (.cells #[.int .i64 e0.1, .int .i64 e0.2.1, .int .i64 e0.2.2] 83 (0, 0))) (hne : ∀ b, a = some b → g ≠ b.block) :
    Calls Tryz.prog 60 #[.slice a n c, .int .i64 (i : Int), .slice (some ⟨g, 0, none⟩) 1 1] w (InsPost lo l i e0 w) := by
  have hrow := hO.to_cells
  rw [hl] at hrow
  rcases hrow.2 with ⟨e, _⟩ | ⟨sb, cap, cur, e, hb, hs, hnc, hcm, hcs, htake⟩
  · cases e
    omega
  simp only [Value.slice.injEq] at e
  obtain ⟨rfl, _, rfl⟩ := e
  have hgs : g ≠ sb := hne _ rfl
  have hov : ∀ off lb cb, (callFunc 95 #[.slice (some ⟨g, 0, none⟩) 1 1, .slice (some ⟨sb, off, none⟩) lb cb]).run Tryz.prog w = .ok (.value (.bool false)) w := fun off lb cb => overlaps_no w g sb off lb cb cur _ hgs hg rfl hs (by omega)
  have hY : (cellsH (l.drop i)).length = (n - i) * 3 := by rw [cellsH_len, List.length_drop, hl]
  have hcurl : cur.toList.length = c * 3 := by simpa using hcs
  have hX : cur.toList.take (i * 3) = cellsH (l.take i) := by
    have := congrArg (List.take (i * 3)) htake
    rw [List.take_take, Nat.min_eq_left (by omega), cellsH_take] at this
    exact this
  have hD : ∀ j v, (cellsH (l.drop i))[j]? = some v → w.cell? ((⟨sb, i * 3, none⟩ : Addr).add j) = some v := fun j v hj => by
    have hjl : j < (n - i) * 3 := by rw [← hY]; exact (List.getElem?_eq_some_iff.1 hj).1
    rw [add_at, hrow.cellAt (i * 3 + j) (by omega)]
    rw [← cellsH_drop, List.getElem?_drop] at hj
    exact hj
  obtain ⟨Y, hYY⟩ : ∃ Y, cellsH (l.drop i) = Y := ⟨_, rfl⟩
  obtain ⟨C, hC⟩ : ∃ C, cur.toList = C := ⟨_, rfl⟩
  have hs' : w.heap[sb]? = some (.cells C.toArray 83 (0, 0)) := by rw [← hC]; simpa using hs
  rw [hYY] at hY hD
  rw [hC] at hX hcurl
  have h1Y : ∀ v ∈ Y, v.oneCell' = true := fun v hv => cellsH_one (l.drop i) v (by rw [hYY]; exact hv)
  have HS := Lib.hid hs'
  have HD := Lib.hid hD
  have HY := Lib.hid hY
  have H1 := Lib.hid h1Y
  have HX := Lib.hid hX
  have HYY := Lib.hid hYY
  have HCL := Lib.hid hcurl
  have HG := Lib.hid hg
  have HL := Lib.hid hl
  have HCM : Hid (c ≤ 9223372036854775807) := Lib.hid (by unfold maxLen at hcm; exact hcm)
  have hiI : (i : Int) < (n : Int) := by omega
  have hin : (i : Int) ≤ (n : Int) := by omega
  have hin1 : (i : Int) ≤ (n : Int) + 1 := by omega
  have hz2 : ((i : Int) == (n : Int)) = false := by rw [beq_eq_false_iff_ne]; omega
  have hrI : decide ((c : Int) < (n : Int) + 1) = false := by rw [decide_eq_false_iff_not]; omega
  have hb2 : ¬ (c = i + 1) := by omega
  have hb4 : ¬ (c = i) := by omega
  have hb3 : (n : Int) + 1 ≤ (c : Int) := by omega
  have hb5 : (i : Int) + 1 ≤ (n : Int) + 1 := by omega
  have hw1 : IntKind.i64.wrap ((i : Int) + 1) = (i : Int) + 1 := IntWalk.i64_in _ (by omega)
  have hw2 : IntKind.i64.wrap ((n : Int) + 1) = (n : Int) + 1 := IntWalk.i64_in _ (by omega)
  have htn : ((i : Int) + 1).toNat = i + 1 := by omega
  have htm : ((n : Int) + 1).toNat = n + 1 := by omega
  have hi0 : (0 : Int) ≤ (i : Int) + 1 := by omega
  have HI := Lib.hid hi
  have HR := Lib.hid hr
  have HGS := Lib.hid hgs
  have HB := Lib.hid hb
  have hlw : Hid (lo ≤ w.heap.size) := Lib.hid (by have := heap_lt hs; omega)
  clear hg hl hrow hO hne hs hs' hD hY h1Y hX hYY hcurl hcs htake hC hnc hcm hi hr hb hgs
  go_enter Tryz.func60, Tryz.ntmps60
  go_wp2_with fail
  go_region_law (go_loud (refine step_copy3 rfl (.tmp 73) (.tmp 76) 34 34 rfl 83 Tryz.underlying34 size_h3 sb ((i + 1) * 3) ⟨sb, i * 3, none⟩ (n - i) (c - (i + 1)) (n + 1 - i) (c - i) (by simp [Act.eval, Act.put]) (by simp [Act.eval, Act.put]) C 83 HS.out Y (by rw [HY.out]; have := HI.out; congr 1; exact (Nat.min_eq_right (by omega)).symm) HD.out (by rw [HY.out, HCL.out]; have := HI.out; have := HR.out; omega) H1.out lo w bw HB.out ?_); intro w4 hg4 hb4 ho4)
  all_goals
    have HB4 := Lib.hid hb4
    have hgw : Hid (w4.heap[g]? = some (.cells #[.int .i64 e0.1, .int .i64 e0.2.1, .int .i64 e0.2.2] 83 (0, 0))) := Lib.hid ((ho4 g HGS.out).trans HG.out)
    clear hb4 ho4
    obtain ⟨M, hM⟩ : ∃ M : List Value, M = [.int .i64 e0.1, .int .i64 e0.2.1, .int .i64 e0.2.2] := ⟨_, rfl⟩
    have hM3 : M.length = 3 := by rw [hM]; rfl
    have n3 : M.length = Nat.min 1 (n + 1 - i) * 3 := by have := HI.out; rw [hM3, show Nat.min 1 (n + 1 - i) = 1 from Nat.min_eq_left (by omega)]
    have s3 : ∀ j v, M[j]? = some v → w4.cell? ((⟨g, 0, none⟩ : Addr).add j) = some v := by rw [hM]; exact three_at hgw.out
    have f3 : i * 3 + M.length ≤ (splice C ((i + 1) * 3) Y).length := by rw [hM3, splice_len (by rw [HY.out, HCL.out]; have := HI.out; have := HR.out; omega), HCL.out]; have := HI.out; have := HR.out; omega
    have o3 : ∀ v ∈ M, v.oneCell' = true := by rw [hM]; intro v hv; simp at hv; rcases hv with rfl | rfl | rfl <;> rfl
    have hcp := run_copy_row3 (P := Tryz.prog) w4 34 34 3 83 sb (i * 3) (n + 1 - i) (c - i) ⟨g, 0, none⟩ 1 1 (splice C ((i + 1) * 3) Y).toArray 83 M Tryz.underlying34 size_h3 hg4.out n3 s3 (by simpa using f3) o3
    have hg5 := setRow_heap w4 sb (splice C ((i + 1) * 3) Y).toArray ((splice C ((i + 1) * 3) Y).toArray.toList.take (i * 3) ++ M ++ (splice C ((i + 1) * 3) Y).toArray.toList.drop (i * 3 + M.length)).toArray 83 (0, 0) hg4.out
    have hb5 := below_setRow HB4.out HB.out ((splice C ((i + 1) * 3) Y).toArray.toList.take (i * 3) ++ M ++ (splice C ((i + 1) * 3) Y).toArray.toList.drop (i * 3 + M.length)).toArray
    have e5 : ((splice C ((i + 1) * 3) Y).toArray.toList.take (i * 3) ++ M ++ (splice C ((i + 1) * 3) Y).toArray.toList.drop (i * 3 + M.length)) = splice (splice C ((i + 1) * 3) Y) (i * 3) M := by
      show (splice C ((i + 1) * 3) Y).take (i * 3) ++ M ++ (splice C ((i + 1) * 3) Y).drop (i * 3 + M.length) = (splice C ((i + 1) * 3) Y).take (i * 3) ++ (M ++ (splice C ((i + 1) * 3) Y).drop (i * 3 + M.length))
      rw [List.append_assoc]
    rw [e5] at hcp hg5 hb5
    obtain ⟨w5, hw5⟩ : ∃ w5, w4.setRow sb (splice (splice C ((i + 1) * 3) Y) (i * 3) M).toArray = w5 := ⟨_, rfl⟩
    rw [hw5] at hcp hg5 hb5
    have HG5 := Lib.hid hg5
    have HB5 := Lib.hid hb5
    have F3 := Lib.hid f3
    have M3 := Lib.hid hM3
    have MM := Lib.hid hM
    clear hM hM3 n3 s3 f3 o3 hg5 hb5 e5 hw5
    go_wp2_with fail
    go_ret
    refine ins_of (ins_row (n := n) HL.out (by have := HI.out; omega) HG5.out HB.out HR.out HCM.out (by rw [splice_len F3.out, splice_len (by rw [HY.out, HCL.out]; have := HI.out; have := HR.out; omega), HCL.out]) ?_) HB5.out
    rw [← MM.out, HYY.out, show (i + 1) * 3 = i * 3 + 3 by omega]
    exact splice_in HX.out (by rw [cellsH_len, List.length_take, HL.out, Nat.min_eq_left (by have := HI.out; omega)]) M3.out (by rw [HCL.out]; have := HI.out; have := HR.out; omega)
set_option maxHeartbeats 16000000 in
theorem insert_grow (lo g i n c : Nat) (a : Option Addr) (l : List Ent) (e0 : Ent) (w : World) (hO : HomNew w lo (.slice a n c) l) (hl : l.length = n) (hi : i < n) (h5 : n ≤ 5) (hr : c < n + 1) (hg : w.heap[g]? = some (.cells #[.int .i64 e0.1, .int .i64 e0.2.1, .int .i64 e0.2.2] 83 (0, 0))) :
    Calls Tryz.prog 60 #[.slice a n c, .int .i64 (i : Int), .slice (some ⟨g, 0, none⟩) 1 1] w (InsPost lo l i e0 w) := by
  have hrow := hO.to_cells
  rw [hl] at hrow
  rcases hrow.2 with ⟨e, _⟩ | ⟨sb, cap, cur, e, hb, hs, hnc, hcm, hcs, htake⟩
  · cases e
    omega
  simp only [Value.slice.injEq] at e
  obtain ⟨rfl, _, rfl⟩ := e
  have hsb := heap_lt hs
  have hgw := heap_lt hg
  have hY : (cellsH (l.drop i)).length = (n - i) * 3 := by rw [cellsH_len, List.length_drop, hl]
  have hXl : (cellsH (l.take i)).length = i * 3 := by rw [cellsH_len, List.length_take, hl, Nat.min_eq_left (by omega)]
  have hD : ∀ j v, (cellsH (l.drop i))[j]? = some v → w.cell? ((⟨sb, i * 3, none⟩ : Addr).add j) = some v := fun j v hj => by
    have hjl : j < (n - i) * 3 := by rw [← hY]; exact (List.getElem?_eq_some_iff.1 hj).1
    rw [add_at, hrow.cellAt (i * 3 + j) (by omega)]
    rw [← cellsH_drop, List.getElem?_drop] at hj
    exact hj
  have hX : ∀ j v, (cellsH (l.take i))[j]? = some v → w.cell? ((⟨sb, 0, none⟩ : Addr).add j) = some v := fun j v hj => by
    have hjl : j < i * 3 := by rw [← hXl]; exact (List.getElem?_eq_some_iff.1 hj).1
    rw [add_at, Nat.zero_add, hrow.cellAt j (by omega)]
    rw [← cellsH_take, List.getElem?_take, if_pos hjl] at hj
    exact hj
  obtain ⟨i0, hi0, hz0, hzs, hzb⟩ := info_parts info_h3
  have hold : (Builtin.firstCells i0.size i (.slice (some ⟨sb, 0, none⟩) i c)).run Tryz.prog w.drew = .ok (cellsH (l.take i)).toArray w.drew := by
    rw [hzs]
    exact run_firstCells_some w.drew 3 i ⟨sb, 0, none⟩ i c (cellsH (l.take i)) hXl hX
  have hik : i + (n + 1 - i) = n + 1 := by omega
  have hrz : ∀ ty, (Builtin.append_ #[34, 3] ty #[.slice (some ⟨sb, 0, none⟩) i c, .int .i64 ((n : Int) + 1 - (i : Int))]).run Tryz.prog w = .ok (.slice (some ⟨w.heap.size, 0, none⟩) (n + 1) (grownCap w (n + 1) c 83))
      (w.drew.alloc (.cells ((cellsH (l.take i)).toArray ++ Builtin.zeroCells (Value.agg #[.int .i64 0, .int .i64 0, .int .i64 0]).cells (n + 1 - i) ++ Builtin.zeroCells (Value.agg #[.int .i64 0, .int .i64 0, .int .i64 0]).cells (grownCap w (n + 1) c 83 - (n + 1))) 83)) := fun ty => by
    have h := Lib.run_append_grow_zeros w 34 3 ty 83 i0 _ .i64 .i64 Tryz.underlying34 Tryz.underlying3 hi0 hz0 (some ⟨sb, 0, none⟩) i c (cellsH (l.take i)) hold (n + 1 - i) (by omega) (by omega) (by omega) (by omega) (by rw [hzb]; omega) (by rw [hzb, hik]; exact growslice_fits hr (by omega))
    rw [hik] at h
    rw [show (n : Int) + 1 - (i : Int) = ((n + 1 - i : Nat) : Int) by omega]
    exact h
  have hGn : n + 1 ≤ grownCap w (n + 1) c 83 := grownCap_ge w _ _ _
  have hGm : grownCap w (n + 1) c 83 ≤ maxLen := grownCap_le_maxLen w (n + 1) c 83 (by unfold maxLen; omega)
  obtain ⟨G, hG⟩ : ∃ G, grownCap w (n + 1) c 83 = G := ⟨_, rfl⟩
  rw [hG] at hrz hGn hGm
  obtain ⟨R, hR⟩ : ∃ R : List Value, ((cellsH (l.take i)).toArray ++ Builtin.zeroCells (Value.agg #[.int .i64 0, .int .i64 0, .int .i64 0]).cells (n + 1 - i) ++ Builtin.zeroCells (Value.agg #[.int .i64 0, .int .i64 0, .int .i64 0]).cells (G - (n + 1))) = R.toArray := ⟨_, Array.toArray_toList.symm⟩
  have hRl : R.length = G * 3 := by
    have := congrArg Array.size hR
    simp only [Array.size_append, size_zeroCells, Value.cells] at this
    simp at this
    rw [cellsH_len, List.length_take, hl] at this
    omega
  have hRX : R.take (i * 3) = cellsH (l.take i) := by
    have := congrArg Array.toList hR
    simp only [Array.toList_append] at this
    rw [← this, List.append_assoc]
    exact List.take_left' hXl
  rw [hR] at hrz
  obtain ⟨w1, hw1⟩ : ∃ w1, w.drew.alloc (.cells R.toArray 83) = w1 := ⟨_, rfl⟩
  rw [hw1] at hrz
  have hb1 : Below w.heap.size w w1 := by rw [← hw1]; exact bw
  have hn1 : w1.heap[w.heap.size]? = some (.cells R.toArray 83 (0, 0)) := by rw [← hw1]; exact heap_alloc_new w.drew _
  obtain ⟨M, hM⟩ : ∃ M : List Value, M = [.int .i64 e0.1, .int .i64 e0.2.1, .int .i64 e0.2.2] := ⟨_, rfl⟩
  have hM3 : M.length = 3 := by rw [hM]; rfl
  have s3 : ∀ j v, M[j]? = some v → w1.cell? ((⟨g, 0, none⟩ : Addr).add j) = some v := by rw [hM]; exact three_at ((hb1.block g hgw).trans hg)
  have o3 : ∀ v ∈ M, v.oneCell' = true := by rw [hM]; intro v hv; simp at hv; rcases hv with rfl | rfl | rfl <;> rfl
  have f3 : i * 3 + M.length ≤ R.length := by rw [hM3, hRl]; omega
  have hcp := run_copy_row3 (P := Tryz.prog) w1 34 34 3 83 w.heap.size (i * 3) (n + 1 - i) (G - i) ⟨g, 0, none⟩ 1 1 R.toArray 83 M Tryz.underlying34 size_h3 hn1 (by rw [hM3, show Nat.min 1 (n + 1 - i) = 1 from Nat.min_eq_left (by omega)]) s3 (by simpa using f3) o3
  have e1 : (R.toArray.toList.take (i * 3) ++ M ++ R.toArray.toList.drop (i * 3 + M.length)) = splice R (i * 3) M := by
    show R.take (i * 3) ++ M ++ R.drop (i * 3 + M.length) = R.take (i * 3) ++ (M ++ R.drop (i * 3 + M.length))
    rw [List.append_assoc]
  rw [e1] at hcp
  have hg2 := setRow_heap w1 w.heap.size R.toArray (splice R (i * 3) M).toArray 83 (0, 0) hn1
  have hb2 := below_setRow hb1 (Nat.le_refl _) (splice R (i * 3) M).toArray
  obtain ⟨w2, hw2⟩ : ∃ w2, w1.setRow w.heap.size (splice R (i * 3) M).toArray = w2 := ⟨_, rfl⟩
  rw [hw2] at hcp hg2 hb2
  have hD2 : ∀ j v, (cellsH (l.drop i))[j]? = some v → w2.cell? ((⟨sb, i * 3, none⟩ : Addr).add j) = some v := fun j v hj => by
    have := hD j v hj
    rw [add_at] at this ⊢
    exact (hb2.cell (p := ⟨sb, i * 3 + j, none⟩) hsb).trans this
  obtain ⟨Y, hYY⟩ : ∃ Y, cellsH (l.drop i) = Y := ⟨_, rfl⟩
  rw [hYY] at hY hD2
  have h1Y : ∀ v ∈ Y, v.oneCell' = true := fun v hv => cellsH_one (l.drop i) v (by rw [hYY]; exact hv)
  have HFIN : Hid (∀ w5, w5.heap[w.heap.size]? = some (.cells (splice (splice R (i * 3) M) ((i + 1) * 3) Y).toArray 83 (0, 0)) → HomNew w5 lo (.slice (some ⟨w.heap.size, 0, none⟩) (n + 1) G) (l.take i ++ e0 :: l.drop i)) := Lib.hid (fun w5 h => by
    refine ins_row (n := n) hl (by omega) h (by omega) hGn (by unfold maxLen at hGm; exact hGm) (by rw [splice_len (by rw [splice_len f3, hRl, hY]; omega), splice_len f3, hRl]) ?_
    rw [← hM, hYY, show (i + 1) * 3 = i * 3 + 3 by omega]
    exact splice_new hRX hXl hM3)
  have HFIT : Hid ((i + 1) * 3 + Y.length ≤ (splice R (i * 3) M).length) := Lib.hid (by rw [splice_len f3, hRl, hY]; omega)
  have HG2 := Lib.hid hg2
  have HB2 := Lib.hid hb2
  have HD2 := Lib.hid hD2
  have HY := Lib.hid hY
  have H1Y := Lib.hid h1Y
  have HI := Lib.hid hi
  have hlo : Hid (lo ≤ w.heap.size) := Lib.hid (by omega)
  have hiI : (i : Int) < (n : Int) := by omega
  have hin : (i : Int) ≤ (n : Int) := by omega
  have hin1 : (i : Int) ≤ (n : Int) + 1 := by omega
  have hz2 : ((i : Int) == (n : Int)) = false := by rw [beq_eq_false_iff_ne]; omega
  have hrI : decide ((c : Int) < (n : Int) + 1) = true := by rw [decide_eq_true_eq]; omega
  have k1 : ¬ (c = i) := by omega
  have k2 : ¬ (G = i) := by omega
  have k3 : ¬ (G = i + 1) := by omega
  have k4 : (i : Int) ≤ (c : Int) := by omega
  have k5 : (i : Int) + 1 ≤ (n : Int) + 1 := by omega
  have hw1' : IntKind.i64.wrap ((i : Int) + 1) = (i : Int) + 1 := IntWalk.i64_in _ (by omega)
  have hi0' : (0 : Int) ≤ (i : Int) + 1 := by omega
  have htn : ((i : Int) + 1).toNat = i + 1 := by omega
  clear hg hl hrow hO hs hD hX hY h1Y hYY hcs htake hnc hcm hr hb hgw hsb hold hi0 hz0 hzs hzb hik hGn hGm hG hR hRl hRX hw1 hb1 hn1 hM hM3 s3 o3 f3 e1 hg2 hb2 hw2 hD2 hXl hi
  go_enter Tryz.func60, Tryz.ntmps60
  go_wp2_with (at_builtin; refine Lib.wpList_append_run _ rfl _ _ _ _ rfl _ _ rfl rfl _ _ (hrz _) ?_)
  go_region_law (go_loud (refine step_copy3 rfl (.tmp 50) (.tmp 53) 34 34 rfl 83 Tryz.underlying34 size_h3 w.heap.size ((i + 1) * 3) ⟨sb, i * 3, none⟩ (n - i) (G - (i + 1)) (n - i) (c - i) (by simp [Act.eval, Act.put]) (by simp [Act.eval, Act.put]) (splice R (i * 3) M) 83 HG2.out Y (by rw [HY.out]; congr 1; exact (Nat.min_self _).symm) HD2.out HFIT.out H1Y.out w.heap.size w (belowDrewN HB2.out 1) (Nat.le_refl _) ?_); intro w4 hg4 hb4 ho4)
  all_goals
    have HG4 := Lib.hid hg4.out
    have HB4 := Lib.hid (hb4.mono hlo.out)
    clear hg4 hb4 ho4
    go_wp2_with fail
    go_ret
    exact ins_of (HFIN.out _ HG4.out) HB4.out
theorem insert_any (lo g i : Nat) (v : Value) (l : List Ent) (e0 : Ent) (w : World) (hO : HomNew w lo v l) (hi : i ≤ l.length) (h5 : l.length ≤ 5) (hg : w.heap[g]? = some (.cells #[.int .i64 e0.1, .int .i64 e0.2.1, .int .i64 e0.2.2] 83 (0, 0))) (hlo : lo ≤ w.heap.size) (hne : ∀ b, v.ownBlock = some b → g ≠ b) :
    Calls Tryz.prog 60 #[v, .int .i64 (i : Int), .slice (some ⟨g, 0, none⟩) 1 1] w (InsPost lo l i e0 w) := by
  by_cases he : i = l.length
  · exact insert_end lo g i v l e0 w hO he.symm (by omega) hg hlo
  · obtain ⟨a, c, rfl, hc, hcm⟩ := hO.form
    by_cases hr : l.length + 1 ≤ c
    · exact insert_room lo g i l.length c a l e0 w hO rfl (by omega) h5 hr hg (fun b hb => by subst hb; exact hne b.block rfl)
    · exact insert_grow lo g i l.length c a l e0 w hO rfl (by omega) h5 (by omega) hg
end Go.Proofs.YtnecdeaikmhanaaGreatDoor
namespace Go.Proofs.YtnecdeaikmhanaaGreatDoor
open Go.RowKit
set_option linter.unusedVariables false
set_option maxRecDepth 100000
theorem conv_one (x : UInt8) (y : Int) (hx : (x.toNat : Int) = y) (b : Nat) (W : World) (hc : W.cell? ⟨b, 0, none⟩ = some (.int .u8 y)) :
    (convert 22 9 (.slice (some ⟨b, 0, none⟩) 1 1)).run Tryz.prog W = .ok (.string ⟨#[x]⟩) W := by
  have := run_convert_bytes_back (P := Tryz.prog) W 22 9 5 ⟨b, 0, none⟩ 1 [x] Tryz.underlying22 Tryz.underlying5 Tryz.underlying9 (by
    intro j hj
    obtain rfl : j = 0 := by simp at hj; omega
    rw [add_at]
    simp only [List.getElem_cons_zero]
    rw [hx]; exact hc)
  exact this
theorem add_st (T1 T2 : ByteArray) (W : World) (h : T1.size + T2.size ≤ 1000000) : (Op.stringOp .add T1 T2).run Tryz.prog W = .ok (.string (T1 ++ T2)) W := run_string_add_sum W _ _ (by omega)
theorem st_app (a b : Bs) : (⟨a.toArray⟩ : ByteArray) ++ ⟨b.toArray⟩ = ⟨(a ++ b).toArray⟩ := ByteArray.mk_append_mk a b
theorem st_size (a : Bs) : (⟨a.toArray⟩ : ByteArray).size = a.length := by simp [ByteArray.size]
def DecPost (s : Bs) (w : World) (e : Ending) (w' : World) : Prop := e = .returned (stV s) ∧ Below w.heap.size w w'
theorem dg_nat' {n : Nat} (h : n < 10) : (UInt8.ofNat (48 + n)).toNat = 48 + n := by
  rw [UInt8.toNat_ofNat']
  omega
theorem decF_one {n : Nat} (h : n < 10) : decF n = [UInt8.ofNat (48 + n)] := by unfold decF; rw [if_pos h]
set_option maxHeartbeats 1000000 in
theorem dec_1 (n : Nat) (h : n < 10) (w : World) : Calls Tryz.prog 26 #[.int .i64 (n : Int)] w (DecPost (decF n) w) := by
  rw [decF_one h]
  obtain ⟨x, hx⟩ : ∃ x, UInt8.ofNat (48 + n) = x := ⟨_, rfl⟩
  have hn : ((x.toNat : Nat) : Int) = 48 + (n : Int) := by rw [← hx, dg_nat' h]; omega
  obtain ⟨m, hm⟩ : ∃ m : Int, (n : Int) = m := ⟨_, rfl⟩
  rw [hm] at hn ⊢
  have h0 : 0 ≤ m := by omega
  have h10 : m < 10 := by omega
  have hmod : (48 + m) % 256 = 48 + m := by omega
  have h9 : decide (m < 10) = true := by rw [decide_eq_true_eq]; omega
  have hneg : decide (m < 0) = false := by rw [decide_eq_false_iff_not]; omega
  have hlt : decide (m < -9223372036854775807) = false := by rw [decide_eq_false_iff_not]; omega
  rw [hx]
  have hcv2 := conv_one x (48 + m) hn w.heap.size (w.alloc (.cells #[.int .u8 (48 + m)] 5)) (by simp)
  clear hx hn hm h
  go_enter Tryz.func26, Tryz.ntmps26
  go_wp2_with fail
  go_ret
  exact ⟨rfl, by exact bw⟩
theorem decF_more {n : Nat} (h : 10 ≤ n) (h2 : n < 1000) : decF n = decF (n / 10) ++ [UInt8.ofNat (48 + n % 10)] := by
  unfold decF
  rw [if_neg (by omega)]
  by_cases h1 : n < 100
  · rw [if_pos h1, if_pos (by omega)]; rfl
  · rw [if_neg h1, if_neg (by omega), if_pos (by omega), show n / 10 / 10 = n / 100 by omega]; rfl
set_option maxHeartbeats 2000000 in
theorem dec_more (n : Nat) (h : 10 ≤ n) (h2 : n < 1000) (hrec : ∀ W, Calls Tryz.prog 26 #[.int .i64 ((n / 10 : Nat) : Int)] W (DecPost (decF (n / 10)) W)) (w : World) : Calls Tryz.prog 26 #[.int .i64 (n : Int)] w (DecPost (decF n) w) := by
  rw [decF_more h h2]
  obtain ⟨x, hx⟩ : ∃ x, UInt8.ofNat (48 + n % 10) = x := ⟨_, rfl⟩
  have hn : ((x.toNat : Nat) : Int) = 48 + (n : Int) % 10 := by rw [← hx, dg_nat' (by omega)]; omega
  obtain ⟨m, hm⟩ : ∃ m : Int, (n : Int) = m := ⟨_, rfl⟩
  have hm10 : ((n / 10 : Nat) : Int) = m / 10 := by omega
  rw [hm] at hn ⊢
  rw [hm10] at hrec
  obtain ⟨s1, hs1⟩ : ∃ s1, decF (n / 10) = s1 := ⟨_, rfl⟩
  rw [hs1] at hrec ⊢
  have hl1 : s1.length ≤ 3 := by rw [← hs1]; exact (decF_len (n / 10)).2
  obtain ⟨T1, hT1⟩ : ∃ T1 : ByteArray, T1 = ⟨s1.toArray⟩ := ⟨_, rfl⟩
  unfold DecPost stV at hrec
  rw [← hT1] at hrec
  have h0 : 0 ≤ m := by omega
  have h10 : m < 1000 := by omega
  have hmod : (48 + m % 10) % 256 = 48 + m % 10 := by omega
  have h9 : decide (m < 10) = false := by rw [decide_eq_false_iff_not]; omega
  have hneg : decide (m < 0) = false := by rw [decide_eq_false_iff_not]; omega
  have hlt : decide (m < -9223372036854775807) = false := by rw [decide_eq_false_iff_not]; omega
  rw [hx]
  have hcv := conv_one x (48 + m % 10) hn
  have hadd : ∀ W, (Op.stringOp .add T1 ⟨#[x]⟩).run Tryz.prog W = .ok (.string ⟨(s1 ++ [x]).toArray⟩) W := fun W => by
    rw [hT1]
    have := add_st ⟨s1.toArray⟩ ⟨#[x]⟩ W (by rw [st_size]; simp [ByteArray.size]; omega)
    rw [this]
    exact congrArg (fun t => Result.ok (Value.string t) W) (st_app s1 [x])
  obtain ⟨T3, hT3⟩ : ∃ T3 : ByteArray, T3 = ⟨(s1 ++ [x]).toArray⟩ := ⟨_, rfl⟩
  unfold DecPost stV
  rw [← hT3] at hadd ⊢
  have HR := Lib.hid hrec
  have hcvA := fun W => hcv (World.heap W).size (W.alloc (.cells #[.int .u8 (48 + m % 10)] 5)) (by simp)
  clear hx hn hm h h2 hm10 hs1 hl1 hT1 hT3 hrec
  go_enter Tryz.func26, Tryz.ntmps26
  go_wp2_with fail
  have hq : m.tdiv 10 = m / 10 := by rw [Int.tdiv_eq_ediv_of_nonneg h0]
  have hr : m.tmod 10 = m % 10 := by rw [Int.tmod_eq_emod_of_nonneg h0]
  have e1 : IntKind.i64.wrap (m / 10) = m / 10 := IntWalk.i64_in _ (by omega)
  have e2 : IntKind.i64.wrap (m % 10) = m % 10 := IntWalk.i64_in _ (by omega)
  have e3 : IntKind.i64.wrap (48 + m % 10) = 48 + m % 10 := IntWalk.i64_in _ (by omega)
  have e4 : IntKind.u8.wrap (48 + m % 10) = 48 + m % 10 := by rw [IntKind.wrap_u8]; exact hmod
  clear h0 h10 h9 hneg hlt
  go_region_law (go_simp; go_at_call 26; (with_reducible refine (HR.out _).mono ?_); rintro e w1 ⟨rfl, hb1⟩; obtain ⟨hc1, hf1⟩ := bcell hb1; have hB1 : Below w.heap.size w w1 := (by refine Below.trans ?_ (hb1.mono (by first | exact Nat.le_refl _ | omega | (simp; done) | (simp; omega))); exact bw); have hz1 := hb1.size; (try simp at hz1))
  all_goals
    go_wp2_with fail
    go_ret
    exact ⟨rfl, by exact bw⟩
theorem dec_any (n : Nat) (h : n < 1000) (w : World) : Calls Tryz.prog 26 #[.int .i64 (n : Int)] w (DecPost (decF n) w) := by
  by_cases h1 : n < 10
  · exact dec_1 n h1 w
  · refine dec_more n (by omega) h (fun W => ?_) w
    by_cases h2 : n / 10 < 10
    · exact dec_1 _ h2 W
    · exact dec_more _ (by omega) (by omega) (fun W' => dec_1 _ (by omega) W') W
end Go.Proofs.YtnecdeaikmhanaaGreatDoor
namespace Go.Proofs.YtnecdeaikmhanaaGreatDoor
open Go.RowKit
set_option linter.unusedVariables false
set_option maxRecDepth 100000
theorem dec_int (m : Int) (h0 : 0 ≤ m) (h : m < 1000) (w : World) : Calls Tryz.prog 26 #[.int .i64 m] w (DecPost (decF m.toNat) w) := by
  have := dec_any m.toNat (by omega) w
  rw [show ((m.toNat : Nat) : Int) = m by omega] at this
  exact this
theorem add_is (a b : Bs) (hl : a.length + b.length ≤ 1000000) (W : World) : (Op.stringOp .add ⟨a.toArray⟩ ⟨b.toArray⟩).run Tryz.prog W = .ok (.string ⟨(a ++ b).toArray⟩) W := by
  rw [add_st _ _ W (by rw [st_size, st_size]; exact hl), st_app]
set_option maxHeartbeats 2000000 in
theorem l1Text_any (f b : Int) (hf0 : 0 ≤ f) (hf : f ≤ 255) (hb0 : 0 ≤ b) (hb : b ≤ 8) (w : World) : Calls Tryz.prog 112 #[.agg #[.int .i64 f, .int .i64 b]] w (DecPost (rtextF f b) w) := by
  have hd1 := fun W => dec_int f hf0 (by omega) W
  have hd2 := fun W => dec_int b hb0 (by omega) W
  unfold rtextF
  have hl1 := (decF_len f.toNat).2
  have hl2 := (decF_len b.toNat).2
  obtain ⟨s1, hs1⟩ : ∃ s, decF f.toNat = s := ⟨_, rfl⟩
  obtain ⟨s2, hs2⟩ : ∃ s, decF b.toNat = s := ⟨_, rfl⟩
  rw [hs1] at hd1 hl1 ⊢
  rw [hs2] at hd2 hl2 ⊢
  have ha1 := fun W => add_is s1 [47] (by simp; omega) W
  have ha2 := fun W => add_is (s1 ++ [47]) s2 (by simp; omega) W
  rw [show s1 ++ [47] ++ s2 = s1 ++ 47 :: s2 by simp] at ha2
  unfold DecPost stV at hd1 hd2 ⊢
  have e47 : (⟨[(47 : UInt8)].toArray⟩ : ByteArray) = ⟨#[47]⟩ := rfl
  rw [e47] at ha1
  obtain ⟨T1, hT1⟩ : ∃ T : ByteArray, (⟨s1.toArray⟩ : ByteArray) = T := ⟨_, rfl⟩
  obtain ⟨T2, hT2⟩ : ∃ T : ByteArray, (⟨s2.toArray⟩ : ByteArray) = T := ⟨_, rfl⟩
  obtain ⟨T3, hT3⟩ : ∃ T : ByteArray, (⟨(s1 ++ [47]).toArray⟩ : ByteArray) = T := ⟨_, rfl⟩
  obtain ⟨T4, hT4⟩ : ∃ T : ByteArray, (⟨(s1 ++ 47 :: s2).toArray⟩ : ByteArray) = T := ⟨_, rfl⟩
  rw [hT1] at hd1 ha1
  rw [hT2] at hd2 ha2
  rw [hT3] at ha1 ha2
  rw [hT4] at ha2 ⊢
  have HD1 := Lib.hid hd1
  have HD2 := Lib.hid hd2
  clear hd1 hd2 hT1 hT2 hT3 hT4 hs1 hs2 hl1 hl2 e47 hf0 hf hb0 hb
  go_enter Tryz.func112, Tryz.ntmps112
  go_wp2_with fail
  go_region_held3 (fun w' => w'.cell? ⟨w.heap.size, 0, none⟩ = some (.int .i64 f) ∧ w'.cell? ⟨w.heap.size, 1, none⟩ = some (.int .i64 b)) ((simp [go_sem, *])) (first | (go_at_call_of 26 (Value.int IntKind.i64 f); refine (HD1.out _).mono ?_; rintro e w1 ⟨rfl, hb1⟩; have hB : Below w.heap.size w w1 := (by refine Below.trans ?_ (hb1.mono (by first | exact Nat.le_refl _ | omega | (simp; done) | (simp; omega))); exact bw); have hz1 := hb1.size; (try simp at hz1); have p1 := hb1.cell (p := ⟨w.heap.size, 0, none⟩) (by first | (simp; done) | omega | (simp; omega)); have q1 := hb1.cell (p := ⟨w.heap.size, 1, none⟩) (by first | (simp; done) | omega | (simp; omega)); clear hb1) | (go_at_call_of 26 (Value.int IntKind.i64 b); refine (HD2.out _).mono ?_; rintro e w2 ⟨rfl, hb2⟩; have hB2 : Below w.heap.size w w2 := (by refine Below.trans ?_ (hb2.mono (by first | exact Nat.le_refl _ | omega | (simp; done) | (simp; omega))); exact bw); have hz2 := hb2.size; (try simp at hz2); have p2 := hb2.cell (p := ⟨w.heap.size, 0, none⟩) (by first | (simp; done) | omega | (simp; omega)); have q2 := hb2.cell (p := ⟨w.heap.size, 1, none⟩) (by first | (simp; done) | omega | (simp; omega)); clear hb2))
  all_goals
    go_wp2_with fail
    go_ret
    exact ⟨rfl, by exact bw⟩
set_option maxHeartbeats 1000000 in
theorem rangeText_yes (f b : Int) (h : rangeOkF f b = true) (w : World) : Calls Tryz.prog 74 #[.agg #[.int .i64 f, .int .i64 b]] w (DecPost (rtextF f b) w) := by
  have hk := fun W => specRangeOk_any f b W
  rw [h] at hk
  have hr : (0 ≤ b ∧ b ≤ 8) ∧ 0 ≤ f ∧ f ≤ 255 := by
    unfold rangeOkF addrF at h
    simp at h
    exact ⟨h.1.1, h.1.2⟩
  have ht := fun W => l1Text_any f b hr.2.1 hr.2.2 hr.1.1 hr.1.2 W
  unfold DecPost stV at ht ⊢
  obtain ⟨T4, hT4⟩ : ∃ T : ByteArray, (⟨(rtextF f b).toArray⟩ : ByteArray) = T := ⟨_, rfl⟩
  rw [hT4] at ht ⊢
  have HK := Lib.hid hk
  have HT := Lib.hid ht
  clear hk ht hT4 hr h
  go_enter Tryz.func74, Tryz.ntmps74
  go_wp2_with fail
  refine (HK.out _).mono ?_
  rintro e w1 ⟨rfl, hb1⟩
  have hB : Below w.heap.size w w1 := by refine Below.trans ?_ (hb1.mono (by first | exact Nat.le_refl _ | omega | (simp; done) | (simp; omega))); exact bw
  have hc0 := hb1.cell (p := ⟨w.heap.size, 0, none⟩) (by simp)
  have hc1 := hb1.cell (p := ⟨w.heap.size, 1, none⟩) (by simp)
  have hz1 := hb1.size
  simp [go_sem] at hc0 hc1 hz1
  clear hb1
  go_wp2_with fail
  refine (HT.out _).mono ?_
  rintro e w2 ⟨rfl, hb2⟩
  have hB2 : Below w.heap.size w w2 := by refine Below.trans ?_ (hb2.mono (by first | exact Nat.le_refl _ | omega | (simp; done) | (simp; omega))); exact bw
  clear hb2 hc0 hc1
  go_wp2_with fail
  go_ret
  exact ⟨rfl, hB2⟩
set_option maxHeartbeats 1000000 in
theorem rangeText_no (f b : Int) (h : rangeOkF f b = false) (w : World) : Calls Tryz.prog 74 #[.agg #[.int .i64 f, .int .i64 b]] w (DecPost [] w) := by
  have hk := fun W => specRangeOk_any f b W
  rw [h] at hk
  unfold DecPost stV
  have HK := Lib.hid hk
  clear hk h
  go_enter Tryz.func74, Tryz.ntmps74
  go_wp2_with fail
  refine (HK.out _).mono ?_
  rintro e w1 ⟨rfl, hb1⟩
  have hB : Below w.heap.size w w1 := by refine Below.trans ?_ (hb1.mono (by first | exact Nat.le_refl _ | omega | (simp; done) | (simp; omega))); exact bw
  clear hb1
  go_wp2_with fail
  go_ret
  exact ⟨rfl, hB⟩
end Go.Proofs.YtnecdeaikmhanaaGreatDoor
