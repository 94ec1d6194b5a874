/- A part of the proof; packed by a program of mine out of my texts. -/
import Derived.Test.YtnecdeaikmhanaaGreatDoorPE0
import Derived.Test.YtnecdeaikmhanaaGreatDoorPE1
import Derived.Test.YtnecdeaikmhanaaGreatDoorPE2
import Derived.Test.YtnecdeaikmhanaaGreatDoorPE3
import Derived.Test.YtnecdeaikmhanaaGreatDoorPE4
import Derived.Test.YtnecdeaikmhanaaGreatDoorPE5
import Derived.Test.YtnecdeaikmhanaaGreatDoorPE6
import Derived.Test.YtnecdeaikmhanaaGreatDoorPE7
import Derived.Test.YtnecdeaikmhanaaGreatDoorPE8
import Derived.Test.YtnecdeaikmhanaaGreatDoorPE9
import Derived.Test.YtnecdeaikmhanaaGreatDoorPE10
namespace Go.Proofs.YtnecdeaikmhanaaGreatDoor
open Go.RowKit
set_option linter.unusedVariables false
set_option maxHeartbeats 1000000 in
theorem relsHas_any (m : Int) (ob : Option Nat) (h : Int) (w : World) : Calls Tryz.prog 98 #[.agg #[.int .i64 m, .map ob], .int .i64 h] w fun e w' => e = .returned (.bool (decide (1 ≤ h) && decide (h ≤ m))) ∧ Below w.heap.size w w' := by
  by_cases h1 : 1 ≤ h
  · rw [decide_eq_true h1, Bool.true_and]
    go_enter Tryz.func98, Tryz.ntmps98
    go_wp2_with fail
    go_ret
    exact ⟨rfl, by exact bw⟩
  · rw [decide_eq_false h1, Bool.false_and]
    go_enter Tryz.func98, Tryz.ntmps98
    go_wp2_with fail
    go_ret
    exact ⟨rfl, by exact bw⟩
theorem homes_norels {rs : List (List Int)} {l : List Ent} (h : relsOkF rs = false) : homesOkF rs l = false := by unfold homesOkF; rw [h]; simp
theorem homes_long {rs : List (List Int)} {l : List Ent} (h : 4 < l.length) : homesOkF rs l = false := by
  unfold homesOkF
  rw [decide_eq_false (by omega : ¬ l.length ≤ 4)]; simp
set_option maxRecDepth 100000 in
set_option maxHeartbeats 8000000 in
theorem implHomesOk_any (v hv : Value) (rs : List (List Int)) (l : List Ent) (w : World) (hr : RowsAt w v rs) (hh : EntsAt w hv l) :
    Calls Tryz.prog 62 #[v, hv] w fun e w' => e = .returned (.bool (homesOkF rs l)) ∧ Below w.heap.size w w' := by
  have hrd := readRels_any v rs w hr
  obtain ⟨ra, rc, rfl, hrc, hrm⟩ := hr.form
  obtain ⟨a, cap, rfl, hc, hm⟩ := hh.form
  obtain ⟨n, hn⟩ : ∃ n, l.length = n := ⟨_, rfl⟩
  obtain ⟨N, hN⟩ : ∃ n, rs.length = n := ⟨_, rfl⟩
  rw [hn] at hc hh ⊢
  unfold ReadPost at hrd
  rw [hN] at hrc hr hrd ⊢
  obtain ⟨B, hB⟩ : ∃ B, homesOkF rs l = B := ⟨_, rfl⟩
  rw [hB]
  obtain ⟨q, hq⟩ : ∃ q, relsOkF rs = q := ⟨_, rfl⟩
  rw [hq] at hrd
  have HRD := Lib.hid hrd
  have HQ := Lib.hid hq
  have HB := Lib.hid hB
  have HN := Lib.hid hn
  have HNN := Lib.hid hN
  have H := Lib.hid hh
  clear hB hn hh hN hr hq hrd
  go_enter Tryz.func62, Tryz.ntmps62
  go_wp2_with fail
  refine HRD.out.mono ?_
  rintro e w1 ⟨m, ob, rfl, hb1, hyes⟩
  have BB := Lib.hid hb1
  have HY := Lib.hid hyes
  clear hb1 hyes
  cases q
  · have e := HB.out
    rw [homes_norels HQ.out] at e
    subst e
    go_wp2_with fail
    go_ret
    exact ⟨rfl, Below.alloc BB.out BB.out.size _⟩
  · obtain ⟨rfl, _⟩ := HY.out (by simp)
    by_cases h4 : 4 < n
    · have e := HB.out
      rw [homes_long (by rw [HN.out]; exact h4)] at e
      subst e
      have h4I : (4 : Int) < (n : Int) := by omega
      go_wp2_with fail
      go_ret
      exact ⟨rfl, Below.alloc BB.out BB.out.size _⟩
    · have h4I : ¬ (4 : Int) < (n : Int) := by omega
      have hb0 : Below w.heap.size w (w1.alloc (.cells #[.int .i64 (N : Int), .map ob] 120)) := Below.alloc BB.out BB.out.size _
      have B0 := Lib.hid hb0
      clear hb0
      go_wp2_with fail
      go_loopg [23] n (fun g i wr => ∃ k : Nat, i = .int .i64 k ∧ k + g = n ∧ Hid (Below (w1.heap.size + 1) (w1.alloc (.cells #[.int .i64 (N : Int), .map ob] 120)) wr) ∧ Hid (∀ j, j < k → homOkF N (l.getD j (0, 0, 0)) = true ∧ (j ≠ 0 → ordF (l.getD (j - 1) (0, 0, 0)) (l.getD j (0, 0, 0)) < 0)))
      case atStart => exact ⟨0, rfl, by omega, Lib.hid (Below.refl _ _), Lib.hid fun j hj => by omega⟩
      case round =>
        obtain ⟨k, rfl, hk, hbe, hno⟩ := hrel
        have hbW : Below w.heap.size w wr := B0.out.trans (hbe.out.mono (by have := BB.out.size; omega))
        have HBW := Lib.hid hbW
        clear hbW
        by_cases hg : gk = 0
        · subst hg
          obtain rfl : k = n := by omega
          have e := HB.out
          rw [homesOk_good HNN.out (fun i hi => hno.out i (by rw [HN.out] at hi; exact hi)), HN.out, HQ.out, Bool.true_and, decide_eq_true (by omega)] at e
          subst e
          have hdn : decide ((k : Int) < (k : Int)) = false := by simp
          go_wp2_with fail
          go_ret
          exact ⟨rfl, HBW.out⟩
        · have hkn : k < n := by omega
          have hkI : (k : Int) < (n : Int) := by omega
          have k0 : (0 : Int) ≤ (k : Int) := by omega
          have hgk : 1 ≤ gk := by omega
          have hrw : w1.heap.size < wr.heap.size := by have := hbe.out.size; simp at this; omega
          have e0 : wr.cell? ⟨w1.heap.size, 0, none⟩ = some (.int .i64 (N : Int)) := by rw [hbe.out.cell (p := ⟨w1.heap.size, 0, none⟩) (by simp)]; simp
          have e1 : wr.cell? ⟨w1.heap.size, 1, none⟩ = some (.map ob) := by rw [hbe.out.cell (p := ⟨w1.heap.size, 1, none⟩) (by simp)]; simp
          obtain ⟨b, off, rfl, hb, c0, c1, c2⟩ := (H.out.below HBW.out).get k hkn
          obtain ⟨ent, hent⟩ : ∃ e, l.getD k (0, 0, 0) = e := ⟨_, rfl⟩
          rw [hent] at c0 c1 c2
          obtain ⟨f, bt, vi⟩ := ent
          simp only at c0 c1 c2
          obtain ⟨d, hd⟩ : ∃ d, rangeOkF f bt = d := ⟨_, rfl⟩
          obtain ⟨p, hp⟩ : ∃ p, (decide (1 ≤ vi) && decide (vi ≤ (N : Int))) = p := ⟨_, rfl⟩
          have he : ∀ W, Calls Tryz.prog 92 #[.agg #[.int .i64 f, .int .i64 bt]] W fun e w' => e = .returned (.bool d) ∧ Below W.heap.size W w' := fun W => by rw [← hd]; exact rangeOk_any f bt W
          have hhs : ∀ W, Calls Tryz.prog 98 #[.agg #[.int .i64 (N : Int), .map ob], .int .i64 vi] W fun e w' => e = .returned (.bool p) ∧ Below W.heap.size W w' := fun W => by rw [← hp]; exact relsHas_any N ob vi W
          have hF : homOkF N (l.getD k (0, 0, 0)) = (d && p) := by rw [hent, ← hd, ← hp]; rfl
          have HF := Lib.hid hF
          have HE := Lib.hid he
          have HHS := Lib.hid hhs
          have HENT := Lib.hid hent
          have HK := Lib.hid hk
          have HD := Lib.hid hd
          have hall : ∀ W, Below (wr.alloc (.cells #[.int .i64 f, .int .i64 bt, .int .i64 vi] 83)).heap.size (wr.alloc (.cells #[.int .i64 f, .int .i64 bt, .int .i64 vi] 83)) W → (W.cell? ⟨wr.heap.size, 0, none⟩ = some (.int .i64 f) ∧ W.cell? ⟨wr.heap.size, 1, none⟩ = some (.int .i64 bt) ∧ W.cell? ⟨wr.heap.size, 2, none⟩ = some (.int .i64 vi) ∧ W.cell? ⟨w1.heap.size, 0, none⟩ = some (.int .i64 (N : Int)) ∧ W.cell? ⟨w1.heap.size, 1, none⟩ = some (.map ob)) := fun W hW => ⟨(hW.cell (p := ⟨wr.heap.size, 0, none⟩) (by simp)).trans (by simp), (hW.cell (p := ⟨wr.heap.size, 1, none⟩) (by simp)).trans (by simp), (hW.cell (p := ⟨wr.heap.size, 2, none⟩) (by simp)).trans (by simp), (hW.cell (p := ⟨w1.heap.size, 0, none⟩) (by simp; omega)).trans ((World.cell?_alloc_past _ _ _ hrw).trans e0), (hW.cell (p := ⟨w1.heap.size, 1, none⟩) (by simp; omega)).trans ((World.cell?_alloc_past _ _ _ hrw).trans e1)⟩
          have hfin : ∀ W, Below (wr.alloc (.cells #[.int .i64 f, .int .i64 bt, .int .i64 vi] 83)).heap.size (wr.alloc (.cells #[.int .i64 f, .int .i64 bt, .int .i64 vi] 83)) W → Below (w1.heap.size + 1) (w1.alloc (.cells #[.int .i64 (N : Int), .map ob] 120)) W := fun W hW => (Below.alloc hbe.out (by have := hbe.out.size; simpa using this) _).trans (hW.mono (by have := hbe.out.size; simp at this ⊢; omega))
          have HFIN := Lib.hid hfin
          have hres : ∀ W, Below (wr.alloc (.cells #[.int .i64 f, .int .i64 bt, .int .i64 vi] 83)).heap.size (wr.alloc (.cells #[.int .i64 f, .int .i64 bt, .int .i64 vi] 83)) W → Below w.heap.size w W := fun W hW => HBW.out.trans ((Below.alloc (Below.refl _ _) (Nat.le_refl _) _ : Below wr.heap.size wr (wr.alloc (.cells #[.int .i64 f, .int .i64 bt, .int .i64 vi] 83))).trans (hW.mono (by simp)) |>.mono HBW.out.size)
          have HRES := Lib.hid hres
          have HB5 := Lib.hid hb
          clear he hent hd hp hk hg hF hb hhs hfin hres
          cases d
          · have HALL := Lib.hid hall
            clear hall
            have e := HB.out
            rw [homesOk_bad HNN.out (by rw [HN.out]; exact hkn : k < l.length) (by rw [HF.out]; rfl)] at e
            subst e
            go_wp2_with fail
            refine wp_region_noPanic ?_
            refine wp_region_held_drew (S := (fun w' => w'.cell? ⟨wr.heap.size, 0, none⟩ = some (.int .i64 f) ∧ w'.cell? ⟨wr.heap.size, 1, none⟩ = some (.int .i64 bt) ∧ w'.cell? ⟨wr.heap.size, 2, none⟩ = some (.int .i64 vi) ∧ w'.cell? ⟨w1.heap.size, 0, none⟩ = some (.int .i64 (N : Int)) ∧ w'.cell? ⟨w1.heap.size, 1, none⟩ = some (.map ob))) (by kernel_rfl) (by exact HALL.out _ bw) (fun hHeld => ?_)
            refine tkT (i := 0) (h := ?_)
            (try simp only [Act.put, pB, pC, pD])
            refine tkT (i := 1) (h := ?_)
            (try simp only [Act.put, pB, pC, pD])
            refine wpAnyH_ready (rs := [2]) (by kernel_rfl) (by simp) ?_
            refine AllReadyH.cons (by (simp only [List.getElem?_toArray, List.getElem?_cons_succ, List.getElem?_cons_zero]) <;> rfl) (fun K hK => ?_) AllReadyH.nil
            go_simp
            (go_at_call 92; refine (HE.out _).mono ?_; rintro e w3 ⟨rfl, hb3⟩; have hB3 : Below (wr.alloc (.cells #[.int .i64 f, .int .i64 bt, .int .i64 vi] 83)).heap.size (wr.alloc (.cells #[.int .i64 f, .int .i64 bt, .int .i64 vi] 83)) w3 := (by refine Below.trans ?_ (hb3.mono (by first | exact Nat.le_refl _ | omega | (simp; done) | (simp; omega))); exact bw); have hA3 := hB3.size; clear hb3)
            refine hK.out _ _ (by exact HALL.out _ bw) (fun hHeld => ?_)
            (try simp only [Act.put, pB, pC, pD])
            refine tkT (i := 3) (h := ?_)
            (try simp only [Act.put, pB, pC, pD])
            refine tkT (i := 4) (h := ?_)
            (try simp only [Act.put, pB, pC, pD])
            refine tkS (i := 5) (h := ?_)
            (try simp only [Act.put, pB, pC, pD])
            refine tkS (i := 6) (h := ?_)
            (try simp only [Act.put, pB, pC, pD])
            refine tkS (i := 7) (h := ?_)
            (try simp only [Act.put, pB, pC, pD])
            refine tkS (i := 8) (h := ?_)
            (try simp only [Act.put, pB, pC, pD])
            refine tkS (i := 9) (h := ?_)
            (try simp only [Act.put, pB, pC, pD])
            refine tkT (i := 10) (h := ?_)
            (try simp only [Act.put, pB, pC, pD])
            refine tkT (i := 11) (h := ?_)
            (try simp only [Act.put, pB, pC, pD])
            refine tkS (i := 12) (h := ?_)
            (try simp only [Act.put, pB, pC, pD])
            refine tkS (i := 13) (h := ?_)
            (try simp only [Act.put, pB, pC, pD])
            refine tkS (i := 14) (h := ?_)
            (try simp only [Act.put, pB, pC, pD])
            refine tkS (i := 15) (h := ?_)
            (try simp only [Act.put, pB, pC, pD])
            refine tkS (i := 16) (h := ?_)
            (try simp only [Act.put, pB, pC, pD])
            refine tkS (i := 17) (h := ?_)
            (try simp only [Act.put, pB, pC, pD])
            refine tkS (i := 18) (h := ?_)
            (try simp only [Act.put, pB, pC, pD])
            refine tkS (i := 19) (h := ?_)
            (try simp only [Act.put, pB, pC, pD])
            refine tkS (i := 20) (h := ?_)
            (try simp only [Act.put, pB, pC, pD])
            refine tkS (i := 21) (h := ?_)
            (try simp only [Act.put, pB, pC, pD])
            refine tkS (i := 22) (h := ?_)
            (try simp only [Act.put, pB, pC, pD])
            refine tkS (i := 23) (h := ?_)
            (try simp only [Act.put, pB, pC, pD])
            refine tkS (i := 24) (h := ?_)
            (try simp only [Act.put, pB, pC, pD])
            refine tkS (i := 25) (h := ?_)
            (try simp only [Act.put, pB, pC, pD])
            refine tkT (i := 26) (h := ?_)
            (try simp only [Act.put, pB, pC, pD])
            refine wpAnyH_done (by kernel_rfl) ?_ _
            refine NoPanic.normal ?_
            go_wp2_with fail
            go_ret
            exact ⟨rfl, HRES.out _ bw⟩
          · cases p
            · have HALL := Lib.hid hall
              clear hall
              have e := HB.out
              rw [homesOk_bad HNN.out (by rw [HN.out]; exact hkn : k < l.length) (by rw [HF.out]; rfl)] at e
              subst e
              go_wp2_with fail
              refine wp_region_noPanic ?_
              refine wp_region_held_drew (S := (fun w' => w'.cell? ⟨wr.heap.size, 0, none⟩ = some (.int .i64 f) ∧ w'.cell? ⟨wr.heap.size, 1, none⟩ = some (.int .i64 bt) ∧ w'.cell? ⟨wr.heap.size, 2, none⟩ = some (.int .i64 vi) ∧ w'.cell? ⟨w1.heap.size, 0, none⟩ = some (.int .i64 (N : Int)) ∧ w'.cell? ⟨w1.heap.size, 1, none⟩ = some (.map ob))) (by kernel_rfl) (by exact HALL.out _ bw) (fun hHeld => ?_)
              refine tkT (i := 0) (h := ?_)
              (try simp only [Act.put, pB, pC, pD])
              refine tkT (i := 1) (h := ?_)
              (try simp only [Act.put, pB, pC, pD])
              refine wpAnyH_ready (rs := [2]) (by kernel_rfl) (by simp) ?_
              refine AllReadyH.cons (by (simp only [List.getElem?_toArray, List.getElem?_cons_succ, List.getElem?_cons_zero]) <;> rfl) (fun K hK => ?_) AllReadyH.nil
              go_simp
              (go_at_call 92; refine (HE.out _).mono ?_; rintro e w3 ⟨rfl, hb3⟩; have hB3 : Below (wr.alloc (.cells #[.int .i64 f, .int .i64 bt, .int .i64 vi] 83)).heap.size (wr.alloc (.cells #[.int .i64 f, .int .i64 bt, .int .i64 vi] 83)) w3 := (by refine Below.trans ?_ (hb3.mono (by first | exact Nat.le_refl _ | omega | (simp; done) | (simp; omega))); exact bw); have hA3 := hB3.size; clear hb3)
              refine hK.out _ _ (by exact HALL.out _ bw) (fun hHeld => ?_)
              (try simp only [Act.put, pB, pC, pD])
              refine tkT (i := 3) (h := ?_)
              (try simp only [Act.put, pB, pC, pD])
              refine tkT (i := 4) (h := ?_)
              (try simp only [Act.put, pB, pC, pD])
              refine tkT (i := 5) (h := ?_)
              (try simp only [Act.put, pB, pC, pD])
              refine tkT (i := 6) (h := ?_)
              (try simp only [Act.put, pB, pC, pD])
              refine tkT (i := 7) (h := ?_)
              (try simp only [Act.put, pB, pC, pD])
              refine wpAnyH_ready (rs := [8]) (by kernel_rfl) (by simp) ?_
              refine AllReadyH.cons (by (simp only [List.getElem?_toArray, List.getElem?_cons_succ, List.getElem?_cons_zero]) <;> rfl) (fun K hK => ?_) AllReadyH.nil
              go_simp
              (go_at_call 98; refine (HHS.out _).mono ?_; rintro e w4 ⟨rfl, hb4⟩; have hB4 : Below (wr.alloc (.cells #[.int .i64 f, .int .i64 bt, .int .i64 vi] 83)).heap.size (wr.alloc (.cells #[.int .i64 f, .int .i64 bt, .int .i64 vi] 83)) w4 := (by refine Below.trans hB3 ?_; refine Below.trans ?_ (hb4.mono (by first | exact Nat.le_refl _ | omega | (simp; done) | (simp; omega))); exact bw); have hA4 := hB4.size; clear hb4)
              refine hK.out _ _ (by exact HALL.out _ bw) (fun hHeld => ?_)
              (try simp only [Act.put, pB, pC, pD])
              refine tkT (i := 9) (h := ?_)
              (try simp only [Act.put, pB, pC, pD])
              refine tkT (i := 10) (h := ?_)
              (try simp only [Act.put, pB, pC, pD])
              refine tkT (i := 11) (h := ?_)
              (try simp only [Act.put, pB, pC, pD])
              refine tkS (i := 12) (h := ?_)
              (try simp only [Act.put, pB, pC, pD])
              refine tkS (i := 13) (h := ?_)
              (try simp only [Act.put, pB, pC, pD])
              refine tkS (i := 14) (h := ?_)
              (try simp only [Act.put, pB, pC, pD])
              refine tkS (i := 15) (h := ?_)
              (try simp only [Act.put, pB, pC, pD])
              refine tkS (i := 16) (h := ?_)
              (try simp only [Act.put, pB, pC, pD])
              refine tkS (i := 17) (h := ?_)
              (try simp only [Act.put, pB, pC, pD])
              refine tkS (i := 18) (h := ?_)
              (try simp only [Act.put, pB, pC, pD])
              refine tkS (i := 19) (h := ?_)
              (try simp only [Act.put, pB, pC, pD])
              refine tkS (i := 20) (h := ?_)
              (try simp only [Act.put, pB, pC, pD])
              refine tkS (i := 21) (h := ?_)
              (try simp only [Act.put, pB, pC, pD])
              refine tkS (i := 22) (h := ?_)
              (try simp only [Act.put, pB, pC, pD])
              refine tkS (i := 23) (h := ?_)
              (try simp only [Act.put, pB, pC, pD])
              refine tkS (i := 24) (h := ?_)
              (try simp only [Act.put, pB, pC, pD])
              refine tkS (i := 25) (h := ?_)
              (try simp only [Act.put, pB, pC, pD])
              refine tkT (i := 26) (h := ?_)
              (try simp only [Act.put, pB, pC, pD])
              refine wpAnyH_done (by kernel_rfl) ?_ _
              refine NoPanic.normal ?_
              go_wp2_with fail
              go_ret
              exact ⟨rfl, HRES.out _ bw⟩
            · by_cases hk0 : k = 0
              · subst hk0
                simp only [Nat.zero_mul, Nat.add_zero] at c0 c1 c2
                have HALL := Lib.hid hall
                clear hall
                go_wp2_with fail
                refine wp_region_noPanic ?_
                refine wp_region_held_drew (S := (fun w' => w'.cell? ⟨wr.heap.size, 0, none⟩ = some (.int .i64 f) ∧ w'.cell? ⟨wr.heap.size, 1, none⟩ = some (.int .i64 bt) ∧ w'.cell? ⟨wr.heap.size, 2, none⟩ = some (.int .i64 vi) ∧ w'.cell? ⟨w1.heap.size, 0, none⟩ = some (.int .i64 (N : Int)) ∧ w'.cell? ⟨w1.heap.size, 1, none⟩ = some (.map ob))) (by kernel_rfl) (by exact HALL.out _ bw) (fun hHeld => ?_)
                refine tkT (i := 0) (h := ?_)
                (try simp only [Act.put, pB, pC, pD])
                refine tkT (i := 1) (h := ?_)
                (try simp only [Act.put, pB, pC, pD])
                refine wpAnyH_ready (rs := [2]) (by kernel_rfl) (by simp) ?_
                refine AllReadyH.cons (by (simp only [List.getElem?_toArray, List.getElem?_cons_succ, List.getElem?_cons_zero]) <;> rfl) (fun K hK => ?_) AllReadyH.nil
                go_simp
                (go_at_call 92; refine (HE.out _).mono ?_; rintro e w3 ⟨rfl, hb3⟩; have hB3 : Below (wr.alloc (.cells #[.int .i64 f, .int .i64 bt, .int .i64 vi] 83)).heap.size (wr.alloc (.cells #[.int .i64 f, .int .i64 bt, .int .i64 vi] 83)) w3 := (by refine Below.trans ?_ (hb3.mono (by first | exact Nat.le_refl _ | omega | (simp; done) | (simp; omega))); exact bw); have hA3 := hB3.size; clear hb3)
                refine hK.out _ _ (by exact HALL.out _ bw) (fun hHeld => ?_)
                (try simp only [Act.put, pB, pC, pD])
                refine tkT (i := 3) (h := ?_)
                (try simp only [Act.put, pB, pC, pD])
                refine tkT (i := 4) (h := ?_)
                (try simp only [Act.put, pB, pC, pD])
                refine tkT (i := 5) (h := ?_)
                (try simp only [Act.put, pB, pC, pD])
                refine tkT (i := 6) (h := ?_)
                (try simp only [Act.put, pB, pC, pD])
                refine tkT (i := 7) (h := ?_)
                (try simp only [Act.put, pB, pC, pD])
                refine wpAnyH_ready (rs := [8]) (by kernel_rfl) (by simp) ?_
                refine AllReadyH.cons (by (simp only [List.getElem?_toArray, List.getElem?_cons_succ, List.getElem?_cons_zero]) <;> rfl) (fun K hK => ?_) AllReadyH.nil
                go_simp
                (go_at_call 98; refine (HHS.out _).mono ?_; rintro e w4 ⟨rfl, hb4⟩; have hB4 : Below (wr.alloc (.cells #[.int .i64 f, .int .i64 bt, .int .i64 vi] 83)).heap.size (wr.alloc (.cells #[.int .i64 f, .int .i64 bt, .int .i64 vi] 83)) w4 := (by refine Below.trans hB3 ?_; refine Below.trans ?_ (hb4.mono (by first | exact Nat.le_refl _ | omega | (simp; done) | (simp; omega))); exact bw); have hA4 := hB4.size; clear hb4)
                refine hK.out _ _ (by exact HALL.out _ bw) (fun hHeld => ?_)
                (try simp only [Act.put, pB, pC, pD])
                refine tkT (i := 9) (h := ?_)
                (try simp only [Act.put, pB, pC, pD])
                refine tkT (i := 10) (h := ?_)
                (try simp only [Act.put, pB, pC, pD])
                refine tkT (i := 11) (h := ?_)
                (try simp only [Act.put, pB, pC, pD])
                refine tkT (i := 12) (h := ?_)
                (try simp only [Act.put, pB, pC, pD])
                refine tkT (i := 13) (h := ?_)
                (try simp only [Act.put, pB, pC, pD])
                refine tkT (i := 14) (h := ?_)
                (try simp only [Act.put, pB, pC, pD])
                refine tkS (i := 15) (h := ?_)
                (try simp only [Act.put, pB, pC, pD])
                refine tkS (i := 16) (h := ?_)
                (try simp only [Act.put, pB, pC, pD])
                refine tkS (i := 17) (h := ?_)
                (try simp only [Act.put, pB, pC, pD])
                refine tkS (i := 18) (h := ?_)
                (try simp only [Act.put, pB, pC, pD])
                refine tkS (i := 19) (h := ?_)
                (try simp only [Act.put, pB, pC, pD])
                refine tkS (i := 20) (h := ?_)
                (try simp only [Act.put, pB, pC, pD])
                refine tkS (i := 21) (h := ?_)
                (try simp only [Act.put, pB, pC, pD])
                refine tkS (i := 22) (h := ?_)
                (try simp only [Act.put, pB, pC, pD])
                refine tkS (i := 23) (h := ?_)
                (try simp only [Act.put, pB, pC, pD])
                refine tkS (i := 24) (h := ?_)
                (try simp only [Act.put, pB, pC, pD])
                refine tkT (i := 25) (h := ?_)
                (try simp only [Act.put, pB, pC, pD])
                refine tkT (i := 26) (h := ?_)
                (try simp only [Act.put, pB, pC, pD])
                refine wpAnyH_done (by kernel_rfl) ?_ _
                refine NoPanic.normal ?_
                go_wp2_with fail
                go_roundg (gk - 1)
                case measure => omega
                case rel => exact ⟨1, by go_num, by have := HK.out; omega, Lib.hid (HFIN.out _ bw), Lib.hid fun j hj => by
                  obtain rfl : j = 0 := by omega
                  exact ⟨HF.out, fun h => absurd rfl h⟩⟩
              · obtain ⟨j, hj⟩ : ∃ j, j = k - 1 := ⟨_, rfl⟩
                have hji : (k : Int) - 1 = (j : Int) := by omega
                have i3 : IntKind.i64.wrap (j : Int) = (j : Int) := IntWalk.i64_in _ (by omega)
                have j0 : (0 : Int) ≤ (j : Int) := by omega
                have hjI : (j : Int) < (n : Int) := by omega
                have hkp : (0 : Int) < (k : Int) := by omega
                have hkp2 : 0 < k := by omega
                have hkd : decide ((0 : Int) < (k : Int)) = true := decide_eq_true hkp
                obtain ⟨b', off', e, hbb, p0, p1, p2⟩ := (H.out.below HBW.out).get j (by omega)
                simp only [Option.some.injEq, Addr.mk.injEq] at e
                obtain ⟨rfl, rfl, _⟩ := e
                obtain ⟨pent, hpent⟩ : ∃ e, l.getD j (0, 0, 0) = e := ⟨_, rfl⟩
                rw [hpent] at p0 p1 p2
                have hprev := (hno.out j (by omega)).1
                rw [hpent] at hprev
                obtain ⟨f', bt', vi'⟩ := pent
                simp only at p0 p1 p2
                have hprev2 : rangeOkF f' bt' = true := by unfold homOkF at hprev; simp only [Bool.and_eq_true] at hprev; exact hprev.1
                obtain ⟨c, hcc⟩ : ∃ c, rcmpF f' bt' f bt = c := ⟨_, rfl⟩
                have hcm : ∀ W, Calls Tryz.prog 59 #[.agg #[.int .i64 f', .int .i64 bt'], .agg #[.int .i64 f, .int .i64 bt]] W fun e w' => e = .returned (.int .i64 c) ∧ Below W.heap.size W w' := fun W => by
                  rw [← hcc]; exact rangeCmp_any f' bt' f bt hprev2 HD.out W
                have hord : ordF (l.getD (k - 1) (0, 0, 0)) (l.getD k (0, 0, 0)) = c := by rw [HENT.out, ← hj, hpent]; exact hcc
                have hall7 : ∀ W, Below (wr.alloc (.cells #[.int .i64 f, .int .i64 bt, .int .i64 vi] 83)).heap.size (wr.alloc (.cells #[.int .i64 f, .int .i64 bt, .int .i64 vi] 83)) W → (W.cell? ⟨wr.heap.size, 0, none⟩ = some (.int .i64 f) ∧ W.cell? ⟨wr.heap.size, 1, none⟩ = some (.int .i64 bt) ∧ W.cell? ⟨wr.heap.size, 2, none⟩ = some (.int .i64 vi) ∧ W.cell? ⟨w1.heap.size, 0, none⟩ = some (.int .i64 (N : Int)) ∧ W.cell? ⟨w1.heap.size, 1, none⟩ = some (.map ob) ∧ W.cell? ⟨b, off + j * 3, none⟩ = some (.int .i64 f') ∧ W.cell? ⟨b, off + j * 3 + 1, none⟩ = some (.int .i64 bt')) := fun W hW => by
                  obtain ⟨a1, a2, a3, a4, a5⟩ := hall W hW
                  exact ⟨a1, a2, a3, a4, a5, (hW.cell (p := ⟨b, off + j * 3, none⟩) (by simp; omega)).trans ((World.cell?_alloc_past _ _ _ hbb).trans p0), (hW.cell (p := ⟨b, off + j * 3 + 1, none⟩) (by simp; omega)).trans ((World.cell?_alloc_past _ _ _ hbb).trans p1)⟩
                have HALL := Lib.hid hall7
                have HORD := Lib.hid hord
                have HCM := Lib.hid hcm
                have HK0 := Lib.hid hk0
                clear hcc hcm hord hpent hk0 hj p2 hprev hprev2 hall hall7
                by_cases hcn : c < 0
                · have hcd : decide (0 ≤ c) = false := decide_eq_false (by omega)
                  go_wp2_with fail
                  refine wp_region_noPanic ?_
                  refine wp_region_held_drew (S := (fun w' => w'.cell? ⟨wr.heap.size, 0, none⟩ = some (.int .i64 f) ∧ w'.cell? ⟨wr.heap.size, 1, none⟩ = some (.int .i64 bt) ∧ w'.cell? ⟨wr.heap.size, 2, none⟩ = some (.int .i64 vi) ∧ w'.cell? ⟨w1.heap.size, 0, none⟩ = some (.int .i64 (N : Int)) ∧ w'.cell? ⟨w1.heap.size, 1, none⟩ = some (.map ob) ∧ w'.cell? ⟨b, off + j * 3, none⟩ = some (.int .i64 f') ∧ w'.cell? ⟨b, off + j * 3 + 1, none⟩ = some (.int .i64 bt'))) (by kernel_rfl) (by exact HALL.out _ bw) (fun hHeld => ?_)
                  refine tkT (i := 0) (h := ?_)
                  (try simp only [Act.put, pB, pC, pD])
                  refine tkT (i := 1) (h := ?_)
                  (try simp only [Act.put, pB, pC, pD])
                  refine wpAnyH_ready (rs := [2]) (by kernel_rfl) (by simp) ?_
                  refine AllReadyH.cons (by (simp only [List.getElem?_toArray, List.getElem?_cons_succ, List.getElem?_cons_zero]) <;> rfl) (fun K hK => ?_) AllReadyH.nil
                  go_simp
                  (go_at_call 92; refine (HE.out _).mono ?_; rintro e w3 ⟨rfl, hb3⟩; have hB3 : Below (wr.alloc (.cells #[.int .i64 f, .int .i64 bt, .int .i64 vi] 83)).heap.size (wr.alloc (.cells #[.int .i64 f, .int .i64 bt, .int .i64 vi] 83)) w3 := (by refine Below.trans ?_ (hb3.mono (by first | exact Nat.le_refl _ | omega | (simp; done) | (simp; omega))); exact bw); have hA3 := hB3.size; clear hb3)
                  refine hK.out _ _ (by exact HALL.out _ bw) (fun hHeld => ?_)
                  (try simp only [Act.put, pB, pC, pD])
                  refine tkT (i := 3) (h := ?_)
                  (try simp only [Act.put, pB, pC, pD])
                  refine tkT (i := 4) (h := ?_)
                  (try simp only [Act.put, pB, pC, pD])
                  refine tkT (i := 5) (h := ?_)
                  (try simp only [Act.put, pB, pC, pD])
                  refine tkT (i := 6) (h := ?_)
                  (try simp only [Act.put, pB, pC, pD])
                  refine tkT (i := 7) (h := ?_)
                  (try simp only [Act.put, pB, pC, pD])
                  refine wpAnyH_ready (rs := [8]) (by kernel_rfl) (by simp) ?_
                  refine AllReadyH.cons (by (simp only [List.getElem?_toArray, List.getElem?_cons_succ, List.getElem?_cons_zero]) <;> rfl) (fun K hK => ?_) AllReadyH.nil
                  go_simp
                  (go_at_call 98; refine (HHS.out _).mono ?_; rintro e w4 ⟨rfl, hb4⟩; have hB4 : Below (wr.alloc (.cells #[.int .i64 f, .int .i64 bt, .int .i64 vi] 83)).heap.size (wr.alloc (.cells #[.int .i64 f, .int .i64 bt, .int .i64 vi] 83)) w4 := (by refine Below.trans hB3 ?_; refine Below.trans ?_ (hb4.mono (by first | exact Nat.le_refl _ | omega | (simp; done) | (simp; omega))); exact bw); have hA4 := hB4.size; clear hb4)
                  refine hK.out _ _ (by exact HALL.out _ bw) (fun hHeld => ?_)
                  (try simp only [Act.put, pB, pC, pD])
                  refine tkT (i := 9) (h := ?_)
                  (try simp only [Act.put, pB, pC, pD])
                  refine tkT (i := 10) (h := ?_)
                  (try simp only [Act.put, pB, pC, pD])
                  refine tkT (i := 11) (h := ?_)
                  (try simp only [Act.put, pB, pC, pD])
                  refine tkT (i := 12) (h := ?_)
                  (try simp only [Act.put, pB, pC, pD])
                  refine tkT (i := 13) (h := ?_)
                  (try simp only [Act.put, pB, pC, pD])
                  refine tkT (i := 14) (h := ?_)
                  (try simp only [Act.put, pB, pC, pD])
                  refine tkT (i := 15) (h := ?_)
                  (try simp only [Act.put, pB, pC, pD])
                  refine tkT (i := 16) (h := ?_)
                  (try simp only [Act.put, pB, pC, pD])
                  refine tkT (i := 17) (h := ?_)
                  (try simp only [Act.put, pB, pC, pD])
                  refine tkT (i := 18) (h := ?_)
                  (try simp only [Act.put, pB, pC, pD])
                  refine tkT (i := 19) (h := ?_)
                  (try simp only [Act.put, pB, pC, pD])
                  refine tkT (i := 20) (h := ?_)
                  (try simp only [Act.put, pB, pC, pD])
                  refine tkT (i := 21) (h := ?_)
                  (try simp only [Act.put, pB, pC, pD])
                  refine tkT (i := 22) (h := ?_)
                  (try simp only [Act.put, pB, pC, pD])
                  refine wpAnyH_ready (rs := [23]) (by kernel_rfl) (by simp) ?_
                  refine AllReadyH.cons (by (simp only [List.getElem?_toArray, List.getElem?_cons_succ, List.getElem?_cons_zero]) <;> rfl) (fun K hK => ?_) AllReadyH.nil
                  go_simp
                  (go_at_call 59; refine (HCM.out _).mono ?_; rintro e w5 ⟨rfl, hb5⟩; have hB5 : Below (wr.alloc (.cells #[.int .i64 f, .int .i64 bt, .int .i64 vi] 83)).heap.size (wr.alloc (.cells #[.int .i64 f, .int .i64 bt, .int .i64 vi] 83)) w5 := (by refine Below.trans hB4 ?_; refine Below.trans ?_ (hb5.mono (by first | exact Nat.le_refl _ | omega | (simp; done) | (simp; omega))); exact bw); have hA5 := hB5.size; clear hb5)
                  refine hK.out _ _ (by exact HALL.out _ bw) (fun hHeld => ?_)
                  (try simp only [Act.put, pB, pC, pD])
                  refine tkT (i := 24) (h := ?_)
                  (try simp only [Act.put, pB, pC, pD])
                  refine tkT (i := 25) (h := ?_)
                  (try simp only [Act.put, pB, pC, pD])
                  refine tkT (i := 26) (h := ?_)
                  (try simp only [Act.put, pB, pC, pD])
                  refine wpAnyH_done (by kernel_rfl) ?_ _
                  refine NoPanic.normal ?_
                  go_wp2_with fail
                  go_roundg (gk - 1)
                  case measure => omega
                  case rel => exact ⟨k + 1, by go_num, by have := HK.out; omega, Lib.hid (HFIN.out _ bw), Lib.hid fun j hj => by
                    by_cases hjk : j = k
                    · subst hjk
                      exact ⟨HF.out, fun _ => by rw [HORD.out]; exact hcn⟩
                    · exact hno.out j (by omega)⟩
                · have e := HB.out
                  rw [homesOk_ord (by rw [HN.out]; exact hkn : k < l.length) HK0.out (by rw [HORD.out]; omega)] at e
                  subst e
                  have hcd : decide (0 ≤ c) = true := decide_eq_true (by omega)
                  go_wp2_with fail
                  refine wp_region_noPanic ?_
                  refine wp_region_held_drew (S := (fun w' => w'.cell? ⟨wr.heap.size, 0, none⟩ = some (.int .i64 f) ∧ w'.cell? ⟨wr.heap.size, 1, none⟩ = some (.int .i64 bt) ∧ w'.cell? ⟨wr.heap.size, 2, none⟩ = some (.int .i64 vi) ∧ w'.cell? ⟨w1.heap.size, 0, none⟩ = some (.int .i64 (N : Int)) ∧ w'.cell? ⟨w1.heap.size, 1, none⟩ = some (.map ob) ∧ w'.cell? ⟨b, off + j * 3, none⟩ = some (.int .i64 f') ∧ w'.cell? ⟨b, off + j * 3 + 1, none⟩ = some (.int .i64 bt'))) (by kernel_rfl) (by exact HALL.out _ bw) (fun hHeld => ?_)
                  refine tkT (i := 0) (h := ?_)
                  (try simp only [Act.put, pB, pC, pD])
                  refine tkT (i := 1) (h := ?_)
                  (try simp only [Act.put, pB, pC, pD])
                  refine wpAnyH_ready (rs := [2]) (by kernel_rfl) (by simp) ?_
                  refine AllReadyH.cons (by (simp only [List.getElem?_toArray, List.getElem?_cons_succ, List.getElem?_cons_zero]) <;> rfl) (fun K hK => ?_) AllReadyH.nil
                  go_simp
                  (go_at_call 92; refine (HE.out _).mono ?_; rintro e w3 ⟨rfl, hb3⟩; have hB3 : Below (wr.alloc (.cells #[.int .i64 f, .int .i64 bt, .int .i64 vi] 83)).heap.size (wr.alloc (.cells #[.int .i64 f, .int .i64 bt, .int .i64 vi] 83)) w3 := (by refine Below.trans ?_ (hb3.mono (by first | exact Nat.le_refl _ | omega | (simp; done) | (simp; omega))); exact bw); have hA3 := hB3.size; clear hb3)
                  refine hK.out _ _ (by exact HALL.out _ bw) (fun hHeld => ?_)
                  (try simp only [Act.put, pB, pC, pD])
                  refine tkT (i := 3) (h := ?_)
                  (try simp only [Act.put, pB, pC, pD])
                  refine tkT (i := 4) (h := ?_)
                  (try simp only [Act.put, pB, pC, pD])
                  refine tkT (i := 5) (h := ?_)
                  (try simp only [Act.put, pB, pC, pD])
                  refine tkT (i := 6) (h := ?_)
                  (try simp only [Act.put, pB, pC, pD])
                  refine tkT (i := 7) (h := ?_)
                  (try simp only [Act.put, pB, pC, pD])
                  refine wpAnyH_ready (rs := [8]) (by kernel_rfl) (by simp) ?_
                  refine AllReadyH.cons (by (simp only [List.getElem?_toArray, List.getElem?_cons_succ, List.getElem?_cons_zero]) <;> rfl) (fun K hK => ?_) AllReadyH.nil
                  go_simp
                  (go_at_call 98; refine (HHS.out _).mono ?_; rintro e w4 ⟨rfl, hb4⟩; have hB4 : Below (wr.alloc (.cells #[.int .i64 f, .int .i64 bt, .int .i64 vi] 83)).heap.size (wr.alloc (.cells #[.int .i64 f, .int .i64 bt, .int .i64 vi] 83)) w4 := (by refine Below.trans hB3 ?_; refine Below.trans ?_ (hb4.mono (by first | exact Nat.le_refl _ | omega | (simp; done) | (simp; omega))); exact bw); have hA4 := hB4.size; clear hb4)
                  refine hK.out _ _ (by exact HALL.out _ bw) (fun hHeld => ?_)
                  (try simp only [Act.put, pB, pC, pD])
                  refine tkT (i := 9) (h := ?_)
                  (try simp only [Act.put, pB, pC, pD])
                  refine tkT (i := 10) (h := ?_)
                  (try simp only [Act.put, pB, pC, pD])
                  refine tkT (i := 11) (h := ?_)
                  (try simp only [Act.put, pB, pC, pD])
                  refine tkT (i := 12) (h := ?_)
                  (try simp only [Act.put, pB, pC, pD])
                  refine tkT (i := 13) (h := ?_)
                  (try simp only [Act.put, pB, pC, pD])
                  refine tkT (i := 14) (h := ?_)
                  (try simp only [Act.put, pB, pC, pD])
                  refine tkT (i := 15) (h := ?_)
                  (try simp only [Act.put, pB, pC, pD])
                  refine tkT (i := 16) (h := ?_)
                  (try simp only [Act.put, pB, pC, pD])
                  refine tkT (i := 17) (h := ?_)
                  (try simp only [Act.put, pB, pC, pD])
                  refine tkT (i := 18) (h := ?_)
                  (try simp only [Act.put, pB, pC, pD])
                  refine tkT (i := 19) (h := ?_)
                  (try simp only [Act.put, pB, pC, pD])
                  refine tkT (i := 20) (h := ?_)
                  (try simp only [Act.put, pB, pC, pD])
                  refine tkT (i := 21) (h := ?_)
                  (try simp only [Act.put, pB, pC, pD])
                  refine tkT (i := 22) (h := ?_)
                  (try simp only [Act.put, pB, pC, pD])
                  refine wpAnyH_ready (rs := [23]) (by kernel_rfl) (by simp) ?_
                  refine AllReadyH.cons (by (simp only [List.getElem?_toArray, List.getElem?_cons_succ, List.getElem?_cons_zero]) <;> rfl) (fun K hK => ?_) AllReadyH.nil
                  go_simp
                  (go_at_call 59; refine (HCM.out _).mono ?_; rintro e w5 ⟨rfl, hb5⟩; have hB5 : Below (wr.alloc (.cells #[.int .i64 f, .int .i64 bt, .int .i64 vi] 83)).heap.size (wr.alloc (.cells #[.int .i64 f, .int .i64 bt, .int .i64 vi] 83)) w5 := (by refine Below.trans hB4 ?_; refine Below.trans ?_ (hb5.mono (by first | exact Nat.le_refl _ | omega | (simp; done) | (simp; omega))); exact bw); have hA5 := hB5.size; clear hb5)
                  refine hK.out _ _ (by exact HALL.out _ bw) (fun hHeld => ?_)
                  (try simp only [Act.put, pB, pC, pD])
                  refine tkT (i := 24) (h := ?_)
                  (try simp only [Act.put, pB, pC, pD])
                  refine tkT (i := 25) (h := ?_)
                  (try simp only [Act.put, pB, pC, pD])
                  refine tkT (i := 26) (h := ?_)
                  (try simp only [Act.put, pB, pC, pD])
                  refine wpAnyH_done (by kernel_rfl) ?_ _
                  refine NoPanic.normal ?_
                  go_wp2_with fail
                  go_ret
                  exact ⟨rfl, HRES.out _ bw⟩
end Go.Proofs.YtnecdeaikmhanaaGreatDoor
