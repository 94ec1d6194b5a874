/- A part of the proof; packed by a program of mine out of my texts. -/
import Derived.Test.YtnecdeaikmhanaaGreatDoorPE0
import Derived.Test.YtnecdeaikmhanaaGreatDoorPE1
import Derived.Test.YtnecdeaikmhanaaGreatDoorPE2
import Derived.OwnWalk
import Derived.Deep.QuietTactic
import Derived.BigQuiet
namespace Go.Proofs.YtnecdeaikmhanaaGreatDoor
open Go.RowKit
set_option linter.unusedVariables false
theorem best_none {l : List Ent} {x : Int} : BestAt l x 0 (-1) := .inl ⟨rfl, fun i hi => by omega⟩
theorem best_skip {l : List Ent} {x best : Int} {k : Nat} (h : BestAt l x k best) (hh : hasF (l.getD k (0, 0, 0)).1 (l.getD k (0, 0, 0)).2.1 x = false) : BestAt l x (k + 1) best := by
  rcases h with ⟨h1, h2⟩ | ⟨j, h1, h2, h3, h4⟩
  · exact .inl ⟨h1, fun i hi => if e : i = k then e ▸ hh else h2 i (by omega)⟩
  · refine .inr ⟨j, h1, by omega, h3, fun i hi hi2 => ?_⟩
    by_cases e : i = k
    · subst e; rw [hh] at hi2; cases hi2
    · exact h4 i (by omega) hi2
theorem best_keep {l : List Ent} {x : Int} {k j : Nat} (h : BestAt l x k (j : Int)) (hle : (l.getD k (0, 0, 0)).2.1 ≤ (l.getD j (0, 0, 0)).2.1) : BestAt l x (k + 1) (j : Int) := by
  rcases h with ⟨h1, h2⟩ | ⟨j', h1, h2, h3, h4⟩
  · omega
  · obtain rfl : j = j' := by omega
    refine .inr ⟨j, rfl, by omega, h3, fun i hi hi2 => ?_⟩
    by_cases e : i = k
    · subst e; exact hle
    · exact h4 i (by omega) hi2
theorem best_new {l : List Ent} {x best : Int} {k : Nat} (h : BestAt l x k best) (hh : hasF (l.getD k (0, 0, 0)).1 (l.getD k (0, 0, 0)).2.1 x = true) (hb : best < 0 ∨ ∃ j : Nat, best = (j : Int) ∧ (l.getD j (0, 0, 0)).2.1 < (l.getD k (0, 0, 0)).2.1) : BestAt l x (k + 1) (k : Int) := by
  refine .inr ⟨k, rfl, by omega, hh, fun i hi hi2 => ?_⟩
  by_cases e : i = k
  · subst e; exact Int.le_refl _
  · rcases h with ⟨h1, h2⟩ | ⟨j', h1, h2, h3, h4⟩
    · have := h2 i (by omega); rw [this] at hi2; cases hi2
    · have h5 := h4 i (by omega) hi2
      rcases hb with hb | ⟨j, hb1, hb2⟩
      · omega
      · obtain rfl : j = j' := by omega
        omega
theorem best_lt {l : List Ent} {x best : Int} {k : Nat} (h : BestAt l x k best) : best = -1 ∨ ∃ j : Nat, best = (j : Int) ∧ j < k := by
  rcases h with ⟨h1, _⟩ | ⟨j, h1, h2, _⟩
  · exact .inl h1
  · exact .inr ⟨j, h1, h2⟩
set_option maxRecDepth 100000 in
set_option maxHeartbeats 8000000 in
theorem l2Find_any (v : Value) (l : List Ent) (x : Int) (hx0 : 0 ≤ x) (hx1 : x ≤ 255) (hok : tableOkF l = true) (w : World) (hv : EntsAt w v l) :
    Calls Tryz.prog 81 #[v, .int .i64 x] w fun e w' => e = .returned (.int .i64 (fV (vF l) x 9)) ∧ Below w.heap.size w w' := by
  obtain ⟨hl12, hall⟩ := tableOk_all hok
  have hfin : ∀ best, BestAt l x l.length best → fV (vF l) x 9 = if best < 0 then 0 else (l.getD best.toNat (0, 0, 0)).2.2 := fun best h => best_find hok h
  obtain ⟨a, cap, rfl, hc, hm⟩ := hv.form
  obtain ⟨n, hn⟩ : ∃ n, l.length = n := ⟨_, rfl⟩
  obtain ⟨R, hR⟩ : ∃ R, fV (vF l) x 9 = R := ⟨_, rfl⟩
  rw [hR] at hfin ⊢
  rw [hn] at hc hv hfin hl12 ⊢
  have HFIN := Lib.hid hfin
  have HN := Lib.hid hn
  have H := Lib.hid hv
  have HALL := Lib.hid hall
  clear hfin hn hv hall hok hR
  go_enter Tryz.func81, Tryz.ntmps81
  go_wp2_with fail
  go_loopg [5, 6] n (fun gk s5 s6 wr => ∃ (k : Nat) (best : Int), s5 = .int .i64 best ∧ s6 = .int .i64 (k : Int) ∧ k + gk = n ∧ Hid (BestAt l x k best) ∧ Hid (Below w.heap.size w wr))
  case atStart => exact ⟨0, -1, rfl, rfl, by omega, Lib.hid best_none, Lib.hid (Below.refl _ _)⟩
  case round =>
    obtain ⟨k, best, rfl, rfl, hk, hB, hb⟩ := hrel
    by_cases hg : gk = 0
    · subst hg
      obtain rfl : k = n := by omega
      have hdn : decide ((k : Int) < (k : Int)) = false := by simp
      rcases best_lt hB.out with rfl | ⟨j, rfl, hj⟩
      · have e := HFIN.out _ hB.out
        rw [if_pos (by omega)] at e
        subst e
        go_wp2_with fail
        go_ret
        exact ⟨rfl, hb.out⟩
      · have e := HFIN.out _ hB.out
        rw [if_neg (by omega), Int.toNat_natCast] at e
        subst e
        obtain ⟨bb, off, rfl, hbb, c0, c1, c2⟩ := (H.out.below hb.out).get j hj
        have j0 : (0 : Int) ≤ (j : Int) := by omega
        have jn : (j : Int) < (k : Int) := by omega
        have jl : ¬ (j : Int) < 0 := by omega
        obtain ⟨V, hV⟩ : ∃ V, (l.getD j (0, 0, 0)).2.2 = V := ⟨_, rfl⟩
        rw [hV] at c2
        have HV := Lib.hid hV
        clear c0 c1 hV
        go_wp2_with fail
        go_ret
        exact ⟨congrArg (fun z => Ending.returned (.int .i64 z)) HV.out.symm, hb.out⟩
    · have hkn : k < n := by omega
      have hkI : (k : Int) < (n : Int) := by omega
      have k0 : (0 : Int) ≤ (k : Int) := by omega
      have hgk : 1 ≤ gk := by omega
      obtain ⟨bb, off, rfl, hbb, c0, c1, _⟩ := (H.out.below hb.out).get k hkn
      have hent := (HALL.out k (by rw [HN.out]; exact hkn)).1
      obtain ⟨b0, b8, f0, f255, _⟩ := entOk_parts hent
      obtain ⟨h, hh⟩ : ∃ h, hasF (l.getD k (0, 0, 0)).1 (l.getD k (0, 0, 0)).2.1 x = h := ⟨_, rfl⟩
      obtain ⟨f, hf⟩ : ∃ f, (l.getD k (0, 0, 0)).1 = f := ⟨_, rfl⟩
      obtain ⟨bt, hbt⟩ : ∃ bt, (l.getD k (0, 0, 0)).2.1 = bt := ⟨_, rfl⟩
      have hhas : ∀ W, Calls Tryz.prog 118 #[.agg #[.int .i64 f, .int .i64 bt], .int .i64 x] W fun e w' => e = .returned (.bool h) ∧ Below W.heap.size W w' := fun W => by
        rw [← hh, hf, hbt]; exact l1Has_any f bt x (by rw [← hbt]; exact b0) (by rw [← hbt]; exact b8) (by rw [← hf]; exact f0) (by rw [← hf]; exact f255) hx0 hx1 W
      rw [hf] at c0
      rw [hbt] at c1
      have HHAS := Lib.hid hhas
      have HH := Lib.hid hh
      have HBT := Lib.hid hbt
      have HK := Lib.hid hk
      clear hhas hh hbt hk hg hent b0 b8 f0 f255 hf
      cases h
      · go_wp2_with fail
        refine wp_region_noPanic ?_
        refine wp_region_held_drew (S := (fun w' => w'.cell? ⟨bb, off + k * 3, none⟩ = some (.int .i64 f) ∧ w'.cell? ⟨bb, off + k * 3 + 1, none⟩ = some (.int .i64 bt))) (by kernel_rfl) (by simp [go_sem, *]) (fun hHeld => ?_)
        refine tkT (i := 0) (h := ?_)
        (try simp only [Act.put, pB, pC, pD])
        refine tkT (i := 1) (h := ?_)
        (try simp only [Act.put, pB, pC, pD])
        refine tkT (i := 2) (h := ?_)
        (try simp only [Act.put, pB, pC, pD])
        refine tkT (i := 3) (h := ?_)
        (try simp only [Act.put, pB, pC, pD])
        refine tkT (i := 4) (h := ?_)
        (try simp only [Act.put, pB, pC, pD])
        refine tkT (i := 5) (h := ?_)
        (try simp only [Act.put, pB, pC, pD])
        refine wpAnyH_ready (rs := [6]) (by kernel_rfl) (by simp) ?_
        refine AllReadyH.cons (by (simp only [List.getElem?_toArray, List.getElem?_cons_succ, List.getElem?_cons_zero]) <;> rfl) (fun K hK => ?_) AllReadyH.nil
        go_simp
        (go_at_call 118; refine (HHAS.out _).mono ?_; rintro e w1 ⟨rfl, hb1⟩; have hB1 : Below wr.heap.size wr w1 := (by refine Below.trans ?_ (hb1.mono (by first | exact Nat.le_refl _ | omega | (simp; done) | (simp; omega))); exact bw); obtain ⟨hc1, hf1⟩ := bcell hB1; clear hb1)
        refine hK.out _ _ (by simp [go_sem, *]) (fun hHeld => ?_)
        (try simp only [Act.put, pB, pC, pD])
        refine tkT (i := 7) (h := ?_)
        (try simp only [Act.put, pB, pC, pD])
        refine tkS (i := 8) (h := ?_)
        (try simp only [Act.put, pB, pC, pD])
        refine tkS (i := 9) (h := ?_)
        (try simp only [Act.put, pB, pC, pD])
        refine tkS (i := 10) (h := ?_)
        (try simp only [Act.put, pB, pC, pD])
        refine tkS (i := 11) (h := ?_)
        (try simp only [Act.put, pB, pC, pD])
        refine tkS (i := 12) (h := ?_)
        (try simp only [Act.put, pB, pC, pD])
        refine tkS (i := 13) (h := ?_)
        (try simp only [Act.put, pB, pC, pD])
        refine tkS (i := 14) (h := ?_)
        (try simp only [Act.put, pB, pC, pD])
        refine tkS (i := 15) (h := ?_)
        (try simp only [Act.put, pB, pC, pD])
        refine tkS (i := 16) (h := ?_)
        (try simp only [Act.put, pB, pC, pD])
        refine tkS (i := 17) (h := ?_)
        (try simp only [Act.put, pB, pC, pD])
        refine tkS (i := 18) (h := ?_)
        (try simp only [Act.put, pB, pC, pD])
        refine tkS (i := 19) (h := ?_)
        (try simp only [Act.put, pB, pC, pD])
        refine tkS (i := 20) (h := ?_)
        (try simp only [Act.put, pB, pC, pD])
        refine tkS (i := 21) (h := ?_)
        (try simp only [Act.put, pB, pC, pD])
        refine tkS (i := 22) (h := ?_)
        (try simp only [Act.put, pB, pC, pD])
        refine tkS (i := 23) (h := ?_)
        (try simp only [Act.put, pB, pC, pD])
        refine tkS (i := 24) (h := ?_)
        (try simp only [Act.put, pB, pC, pD])
        refine tkT (i := 25) (h := ?_)
        (try simp only [Act.put, pB, pC, pD])
        refine wpAnyH_done (by kernel_rfl) ?_ _
        refine NoPanic.normal ?_
        go_wp2_with fail
        go_roundg (gk - 1)
        case measure => omega
        case rel => exact ⟨k + 1, best, rfl, by go_num, by have := HK.out; omega, Lib.hid (best_skip hB.out HH.out), Lib.hid (hb.out.trans (hB1.mono hb.out.size))⟩
      · rcases best_lt hB.out with rfl | ⟨j, rfl, hj⟩
        · go_wp2_with fail
          refine wp_region_noPanic ?_
          refine wp_region_held_drew (S := (fun w' => w'.cell? ⟨bb, off + k * 3, none⟩ = some (.int .i64 f) ∧ w'.cell? ⟨bb, off + k * 3 + 1, none⟩ = some (.int .i64 bt))) (by kernel_rfl) (by simp [go_sem, *]) (fun hHeld => ?_)
          refine tkT (i := 0) (h := ?_)
          (try simp only [Act.put, pB, pC, pD])
          refine tkT (i := 1) (h := ?_)
          (try simp only [Act.put, pB, pC, pD])
          refine tkT (i := 2) (h := ?_)
          (try simp only [Act.put, pB, pC, pD])
          refine tkT (i := 3) (h := ?_)
          (try simp only [Act.put, pB, pC, pD])
          refine tkT (i := 4) (h := ?_)
          (try simp only [Act.put, pB, pC, pD])
          refine tkT (i := 5) (h := ?_)
          (try simp only [Act.put, pB, pC, pD])
          refine wpAnyH_ready (rs := [6]) (by kernel_rfl) (by simp) ?_
          refine AllReadyH.cons (by (simp only [List.getElem?_toArray, List.getElem?_cons_succ, List.getElem?_cons_zero]) <;> rfl) (fun K hK => ?_) AllReadyH.nil
          go_simp
          (go_at_call 118; refine (HHAS.out _).mono ?_; rintro e w1 ⟨rfl, hb1⟩; have hB1 : Below wr.heap.size wr w1 := (by refine Below.trans ?_ (hb1.mono (by first | exact Nat.le_refl _ | omega | (simp; done) | (simp; omega))); exact bw); obtain ⟨hc1, hf1⟩ := bcell hB1; clear hb1)
          refine hK.out _ _ (by simp [go_sem, *]) (fun hHeld => ?_)
          (try simp only [Act.put, pB, pC, pD])
          refine tkT (i := 7) (h := ?_)
          (try simp only [Act.put, pB, pC, pD])
          refine tkT (i := 8) (h := ?_)
          (try simp only [Act.put, pB, pC, pD])
          refine tkT (i := 9) (h := ?_)
          (try simp only [Act.put, pB, pC, pD])
          refine tkT (i := 10) (h := ?_)
          (try simp only [Act.put, pB, pC, pD])
          refine tkS (i := 11) (h := ?_)
          (try simp only [Act.put, pB, pC, pD])
          refine tkS (i := 12) (h := ?_)
          (try simp only [Act.put, pB, pC, pD])
          refine tkS (i := 13) (h := ?_)
          (try simp only [Act.put, pB, pC, pD])
          refine tkS (i := 14) (h := ?_)
          (try simp only [Act.put, pB, pC, pD])
          refine tkS (i := 15) (h := ?_)
          (try simp only [Act.put, pB, pC, pD])
          refine tkS (i := 16) (h := ?_)
          (try simp only [Act.put, pB, pC, pD])
          refine tkS (i := 17) (h := ?_)
          (try simp only [Act.put, pB, pC, pD])
          refine tkS (i := 18) (h := ?_)
          (try simp only [Act.put, pB, pC, pD])
          refine tkS (i := 19) (h := ?_)
          (try simp only [Act.put, pB, pC, pD])
          refine tkS (i := 20) (h := ?_)
          (try simp only [Act.put, pB, pC, pD])
          refine tkS (i := 21) (h := ?_)
          (try simp only [Act.put, pB, pC, pD])
          refine tkS (i := 22) (h := ?_)
          (try simp only [Act.put, pB, pC, pD])
          refine tkS (i := 23) (h := ?_)
          (try simp only [Act.put, pB, pC, pD])
          refine tkT (i := 24) (h := ?_)
          (try simp only [Act.put, pB, pC, pD])
          refine tkT (i := 25) (h := ?_)
          (try simp only [Act.put, pB, pC, pD])
          refine wpAnyH_done (by kernel_rfl) ?_ _
          refine NoPanic.normal ?_
          go_wp2_with fail
          go_roundg (gk - 1)
          case measure => omega
          case rel => exact ⟨k + 1, k, rfl, by go_num, by have := HK.out; omega, Lib.hid (best_new hB.out HH.out (.inl (by omega))), Lib.hid (hb.out.trans (hB1.mono hb.out.size))⟩
        · obtain ⟨_, _, e, _, _, p1, _⟩ := (H.out.below hb.out).get j (by omega)
          simp only [Option.some.injEq, Addr.mk.injEq] at e
          obtain ⟨rfl, rfl, _⟩ := e
          obtain ⟨bj, hbj⟩ : ∃ bj, (l.getD j (0, 0, 0)).2.1 = bj := ⟨_, rfl⟩
          rw [hbj] at p1
          have HBJ := Lib.hid hbj
          have j0 : (0 : Int) ≤ (j : Int) := by omega
          have jn : (j : Int) < (n : Int) := by omega
          have jl : ¬ (j : Int) < 0 := by omega
          have jd : decide ((j : Int) < 0) = false := decide_eq_false jl
          clear hbj
          by_cases hcmp : bj < bt
          · have hcd : decide (bj < bt) = true := decide_eq_true hcmp
            go_wp2_with fail
            refine wp_region_noPanic ?_
            refine wp_region_held_drew (S := (fun w' => w'.cell? ⟨bb, off + k * 3, none⟩ = some (.int .i64 f) ∧ w'.cell? ⟨bb, off + k * 3 + 1, none⟩ = some (.int .i64 bt) ∧ w'.cell? ⟨bb, off + j * 3 + 1, none⟩ = some (.int .i64 bj))) (by kernel_rfl) (by simp [go_sem, *]) (fun hHeld => ?_)
            refine tkT (i := 0) (h := ?_)
            (try simp only [Act.put, pB, pC, pD])
            refine tkT (i := 1) (h := ?_)
            (try simp only [Act.put, pB, pC, pD])
            refine tkT (i := 2) (h := ?_)
            (try simp only [Act.put, pB, pC, pD])
            refine tkT (i := 3) (h := ?_)
            (try simp only [Act.put, pB, pC, pD])
            refine tkT (i := 4) (h := ?_)
            (try simp only [Act.put, pB, pC, pD])
            refine tkT (i := 5) (h := ?_)
            (try simp only [Act.put, pB, pC, pD])
            refine wpAnyH_ready (rs := [6]) (by kernel_rfl) (by simp) ?_
            refine AllReadyH.cons (by (simp only [List.getElem?_toArray, List.getElem?_cons_succ, List.getElem?_cons_zero]) <;> rfl) (fun K hK => ?_) AllReadyH.nil
            go_simp
            (go_at_call 118; refine (HHAS.out _).mono ?_; rintro e w1 ⟨rfl, hb1⟩; have hB1 : Below wr.heap.size wr w1 := (by refine Below.trans ?_ (hb1.mono (by first | exact Nat.le_refl _ | omega | (simp; done) | (simp; omega))); exact bw); obtain ⟨hc1, hf1⟩ := bcell hB1; clear hb1)
            refine hK.out _ _ (by simp [go_sem, *]) (fun hHeld => ?_)
            (try simp only [Act.put, pB, pC, pD])
            refine tkT (i := 7) (h := ?_)
            (try simp only [Act.put, pB, pC, pD])
            refine tkT (i := 8) (h := ?_)
            (try simp only [Act.put, pB, pC, pD])
            refine tkT (i := 9) (h := ?_)
            (try simp only [Act.put, pB, pC, pD])
            refine tkT (i := 10) (h := ?_)
            (try simp only [Act.put, pB, pC, pD])
            refine tkT (i := 11) (h := ?_)
            (try simp only [Act.put, pB, pC, pD])
            refine tkT (i := 12) (h := ?_)
            (try simp only [Act.put, pB, pC, pD])
            refine tkT (i := 13) (h := ?_)
            (try simp only [Act.put, pB, pC, pD])
            refine tkT (i := 14) (h := ?_)
            (try simp only [Act.put, pB, pC, pD])
            refine tkT (i := 15) (h := ?_)
            (try simp only [Act.put, pB, pC, pD])
            refine tkT (i := 16) (h := ?_)
            (try simp only [Act.put, pB, pC, pD])
            refine tkT (i := 17) (h := ?_)
            (try simp only [Act.put, pB, pC, pD])
            refine tkT (i := 18) (h := ?_)
            (try simp only [Act.put, pB, pC, pD])
            refine tkT (i := 19) (h := ?_)
            (try simp only [Act.put, pB, pC, pD])
            refine tkT (i := 20) (h := ?_)
            (try simp only [Act.put, pB, pC, pD])
            refine tkT (i := 21) (h := ?_)
            (try simp only [Act.put, pB, pC, pD])
            refine tkT (i := 22) (h := ?_)
            (try simp only [Act.put, pB, pC, pD])
            refine tkT (i := 23) (h := ?_)
            (try simp only [Act.put, pB, pC, pD])
            refine tkT (i := 24) (h := ?_)
            (try simp only [Act.put, pB, pC, pD])
            refine tkT (i := 25) (h := ?_)
            (try simp only [Act.put, pB, pC, pD])
            refine wpAnyH_done (by kernel_rfl) ?_ _
            refine NoPanic.normal ?_
            go_wp2_with fail
            go_roundg (gk - 1)
            case measure => omega
            case rel => exact ⟨k + 1, k, rfl, by go_num, by have := HK.out; omega, Lib.hid (best_new hB.out HH.out (.inr ⟨j, rfl, by rw [HBJ.out, HBT.out]; exact hcmp⟩)), Lib.hid (hb.out.trans (hB1.mono hb.out.size))⟩
          · have hcd : decide (bj < bt) = false := decide_eq_false hcmp
            go_wp2_with fail
            refine wp_region_noPanic ?_
            refine wp_region_held_drew (S := (fun w' => w'.cell? ⟨bb, off + k * 3, none⟩ = some (.int .i64 f) ∧ w'.cell? ⟨bb, off + k * 3 + 1, none⟩ = some (.int .i64 bt) ∧ w'.cell? ⟨bb, off + j * 3 + 1, none⟩ = some (.int .i64 bj))) (by kernel_rfl) (by simp [go_sem, *]) (fun hHeld => ?_)
            refine tkT (i := 0) (h := ?_)
            (try simp only [Act.put, pB, pC, pD])
            refine tkT (i := 1) (h := ?_)
            (try simp only [Act.put, pB, pC, pD])
            refine tkT (i := 2) (h := ?_)
            (try simp only [Act.put, pB, pC, pD])
            refine tkT (i := 3) (h := ?_)
            (try simp only [Act.put, pB, pC, pD])
            refine tkT (i := 4) (h := ?_)
            (try simp only [Act.put, pB, pC, pD])
            refine tkT (i := 5) (h := ?_)
            (try simp only [Act.put, pB, pC, pD])
            refine wpAnyH_ready (rs := [6]) (by kernel_rfl) (by simp) ?_
            refine AllReadyH.cons (by (simp only [List.getElem?_toArray, List.getElem?_cons_succ, List.getElem?_cons_zero]) <;> rfl) (fun K hK => ?_) AllReadyH.nil
            go_simp
            (go_at_call 118; refine (HHAS.out _).mono ?_; rintro e w1 ⟨rfl, hb1⟩; have hB1 : Below wr.heap.size wr w1 := (by refine Below.trans ?_ (hb1.mono (by first | exact Nat.le_refl _ | omega | (simp; done) | (simp; omega))); exact bw); obtain ⟨hc1, hf1⟩ := bcell hB1; clear hb1)
            refine hK.out _ _ (by simp [go_sem, *]) (fun hHeld => ?_)
            (try simp only [Act.put, pB, pC, pD])
            refine tkT (i := 7) (h := ?_)
            (try simp only [Act.put, pB, pC, pD])
            refine tkT (i := 8) (h := ?_)
            (try simp only [Act.put, pB, pC, pD])
            refine tkT (i := 9) (h := ?_)
            (try simp only [Act.put, pB, pC, pD])
            refine tkT (i := 10) (h := ?_)
            (try simp only [Act.put, pB, pC, pD])
            refine tkT (i := 11) (h := ?_)
            (try simp only [Act.put, pB, pC, pD])
            refine tkT (i := 12) (h := ?_)
            (try simp only [Act.put, pB, pC, pD])
            refine tkT (i := 13) (h := ?_)
            (try simp only [Act.put, pB, pC, pD])
            refine tkT (i := 14) (h := ?_)
            (try simp only [Act.put, pB, pC, pD])
            refine tkT (i := 15) (h := ?_)
            (try simp only [Act.put, pB, pC, pD])
            refine tkT (i := 16) (h := ?_)
            (try simp only [Act.put, pB, pC, pD])
            refine tkT (i := 17) (h := ?_)
            (try simp only [Act.put, pB, pC, pD])
            refine tkT (i := 18) (h := ?_)
            (try simp only [Act.put, pB, pC, pD])
            refine tkT (i := 19) (h := ?_)
            (try simp only [Act.put, pB, pC, pD])
            refine tkT (i := 20) (h := ?_)
            (try simp only [Act.put, pB, pC, pD])
            refine tkT (i := 21) (h := ?_)
            (try simp only [Act.put, pB, pC, pD])
            refine tkT (i := 22) (h := ?_)
            (try simp only [Act.put, pB, pC, pD])
            refine tkT (i := 23) (h := ?_)
            (try simp only [Act.put, pB, pC, pD])
            refine tkT (i := 24) (h := ?_)
            (try simp only [Act.put, pB, pC, pD])
            refine tkT (i := 25) (h := ?_)
            (try simp only [Act.put, pB, pC, pD])
            refine wpAnyH_done (by kernel_rfl) ?_ _
            refine NoPanic.normal ?_
            go_wp2_with fail
            go_roundg (gk - 1)
            case measure => omega
            case rel => exact ⟨k + 1, j, rfl, by go_num, by have := HK.out; omega, Lib.hid (best_keep hB.out (by rw [HBJ.out, HBT.out]; omega)), Lib.hid (hb.out.trans (hB1.mono hb.out.size))⟩
end Go.Proofs.YtnecdeaikmhanaaGreatDoor
namespace Go.Proofs.YtnecdeaikmhanaaGreatDoor
open Go.RowKit
set_option linter.unusedVariables false
set_option maxRecDepth 100000 in
set_option maxHeartbeats 4000000 in
theorem l42Ok_any (v : Value) (ls : List (List Ent)) (w : World) (hv : TabsAt w v ls) :
    Calls Tryz.prog 80 #[v] w fun e w' => e = .returned (.bool (tablesOkF ls)) ∧ Below w.heap.size w w' := by
  obtain ⟨a, cap, rfl, hc, hm⟩ := hv.form
  obtain ⟨n, hn⟩ : ∃ n, ls.length = n := ⟨_, rfl⟩
  obtain ⟨R, hR⟩ : ∃ R, tablesOkF ls = R := ⟨_, rfl⟩
  rw [hn] at hc hv ⊢
  rw [hR]
  have HN := Lib.hid hn
  have H := Lib.hid hv
  have HR := Lib.hid hR
  clear hn hv hR
  go_enter Tryz.func80, Tryz.ntmps80
  go_wp2_with fail
  go_loopg [3] n (fun gk s3 wr => ∃ k : Nat, s3 = .int .i64 (k : Int) ∧ k + gk = n ∧ Hid (Below w.heap.size w wr) ∧ Hid (∀ j, j < k → tableOkF (ls.getD j []) = true))
  case atStart => exact ⟨0, rfl, by omega, Lib.hid (Below.refl _ _), Lib.hid fun j hj => by omega⟩
  case round =>
    obtain ⟨k, rfl, hk, hb, hno⟩ := hrel
    by_cases hg : gk = 0
    · subst hg
      obtain rfl : k = n := by omega
      have hdn : decide ((k : Int) < (k : Int)) = false := by simp
      have hval : R = (decide ((1 : Int) ≤ (k : Int)) && decide ((k : Int) ≤ 5)) := by
        rw [← HR.out]
        unfold tablesOkF
        rw [HN.out, show ((List.range k).all fun i => tableOkF (ls.getD i [])) = true from List.all_eq_true.2 fun i hi => hno.out i (by simpa using hi), Bool.and_true]
        by_cases q1 : 1 ≤ k <;> by_cases q2 : k ≤ 5 <;> simp [q1, q2] <;> omega
      have hin := fun W => in_any (k : Int) 1 5 W
      rw [← hval] at hin
      have HIN := Lib.hid hin
      clear hin hval
      go_wp2_with (go_at_call 41; refine (HIN.out _).mono ?_; rintro e w1 ⟨rfl, rfl⟩)
      go_ret
      exact ⟨rfl, hb.out⟩
    · have hkn : k < n := by omega
      have hkI : (k : Int) < (n : Int) := by omega
      have k0 : (0 : Int) ≤ (k : Int) := by omega
      have hgk : 1 ≤ gk := by omega
      obtain ⟨b, off, tv, rfl, hbb, c0, hE⟩ := (H.out.below hb.out).get k hkn
      obtain ⟨ta, tc, rfl, htc, htm⟩ := hE.form
      obtain ⟨l, hl⟩ : ∃ l, ls.getD k [] = l := ⟨_, rfl⟩
      rw [hl] at c0 hE htc
      obtain ⟨d, hd⟩ : ∃ d, tableOkF l = d := ⟨_, rfl⟩
      obtain ⟨tn, htn⟩ : ∃ tn, l.length = tn := ⟨_, rfl⟩
      rw [htn] at c0 hE htc
      have htab := specTableOk_any _ l wr hE
      rw [hd] at htab
      have HTAB := Lib.hid htab
      have HL := Lib.hid hl
      have HD := Lib.hid hd
      have HK := Lib.hid hk
      clear htab hE hl hd htn hk hg
      cases d
      · have e := HR.out
        rw [tablesOk_bad (ls := ls) (i := k) (by rw [HN.out]; exact hkn) (by rw [HL.out]; exact HD.out)] at e
        subst e
        go_wp2_with (go_at_call 117; refine HTAB.out.mono ?_; rintro e w1 ⟨rfl, hb1⟩; have BB := Lib.hid (hb.out.trans (hb1.mono hb.out.size)); clear hb1)
        go_ret
        exact ⟨rfl, BB.out⟩
      · go_wp2_with (go_at_call 117; refine HTAB.out.mono ?_; rintro e w1 ⟨rfl, hb1⟩; have BB := Lib.hid (hb.out.trans (hb1.mono hb.out.size)); clear hb1)
        go_roundg (gk - 1)
        case measure => omega
        case rel => exact ⟨k + 1, by go_num, by have := HK.out; omega, BB, Lib.hid fun j hj => by
          by_cases hjk : j = k
          · rw [hjk, HL.out]; exact HD.out
          · exact hno.out j (by omega)⟩
end Go.Proofs.YtnecdeaikmhanaaGreatDoor
namespace Go.Proofs.YtnecdeaikmhanaaGreatDoor
set_option linter.unusedVariables false
def goW (f : Int → Int) (n : Nat) : Nat → Int → List Int → List Int × Bool
  | 0, _, way => (way, false)
  | k + 1, h, way => if f h = h then (way, true) else if f h < 1 ∨ (n : Int) < f h then (way, false) else goW f n k (f h) (way ++ [f h])
def goS (f : Int → Int) (n : Nat) : Nat → Int → List Int → List Int × Bool
  | 0, _, way => (way, false)
  | k + 1, h, way => if f h = h then (way ++ [h], true) else if f h < 1 ∨ (n : Int) < f h then (way ++ [h], false) else goS f n k (f h) (way ++ [h])
def itF (f : Int → Int) (h : Int) : Nat → Int
  | 0 => h
  | k + 1 => f (itF f h k)
theorem itF_shift (f : Int → Int) (h : Int) : ∀ k, itF f (f h) k = itF f h (k + 1)
  | 0 => rfl
  | k + 1 => by show f (itF f (f h) k) = _; rw [itF_shift f h k]; rfl
theorem pigeon : ∀ (n : Nat) (g : Nat → Int), (∀ i, i ≤ n → 1 ≤ g i ∧ g i ≤ (n : Int)) → ∃ i j, i < j ∧ j ≤ n ∧ g i = g j
  | 0, g, h => by have := h 0 (Nat.le_refl _); omega
  | n + 1, g, h => by
    by_cases hex : ∃ i, i ≤ n ∧ g i = g (n + 1)
    · obtain ⟨i, hi, e⟩ := hex
      exact ⟨i, n + 1, by omega, Nat.le_refl _, e⟩
    · have hne : ∀ i, i ≤ n → g i ≠ g (n + 1) := fun i hi e => hex ⟨i, hi, e⟩
      have hv := h (n + 1) (Nat.le_refl _)
      obtain ⟨i, j, hij, hj, e⟩ := pigeon n (fun i => if g (n + 1) < g i then g i - 1 else g i) (fun i hi => by
        have h1 := h i (by omega)
        have h2 := hne i hi
        split <;> omega)
      refine ⟨i, j, hij, by omega, ?_⟩
      have h1 := hne i (by omega)
      have h2 := hne j (by omega)
      split at e <;> split at e <;> omega
theorem itF_stay {f : Int → Int} {h : Int} {n : Nat} (hf : f (itF f h n) = itF f h n) : ∀ m, itF f h (n + m) = itF f h n
  | 0 => rfl
  | m + 1 => by show f (itF f h (n + m)) = _; rw [itF_stay hf m, hf]
theorem itF_per {f : Int → Int} {h : Int} {i j : Nat} (e : itF f h i = itF f h j) : ∀ m, itF f h (i + m) = itF f h (j + m)
  | 0 => e
  | m + 1 => by show f (itF f h (i + m)) = f (itF f h (j + m)); rw [itF_per e m]
theorem itF_cyc {f : Int → Int} {h : Int} {i d : Nat} (e : itF f h i = itF f h (i + d)) : ∀ m, itF f h i = itF f h (i + m * d)
  | 0 => by simp
  | m + 1 => by
    have h1 := itF_per e (m * d)
    have h2 := itF_cyc e m
    rw [h2, h1]
    congr 1
    rw [Nat.succ_mul]; omega
theorem no_end {f : Int → Int} {h : Int} {n : Nat} (h1 : 1 ≤ h) (hn : h ≤ (n : Int)) (hgo : ∀ j, j < n → f (itF f h j) ≠ itF f h j ∧ 1 ≤ f (itF f h j) ∧ f (itF f h j) ≤ (n : Int)) : f (itF f h n) ≠ itF f h n := by
  intro hf
  obtain ⟨i, j, hij, hj, e⟩ := pigeon n (itF f h) (fun i hi => by
    cases i with
    | zero => exact ⟨h1, hn⟩
    | succ i => exact (hgo i (by omega)).2)
  obtain ⟨d, rfl⟩ : ∃ d, j = i + d := ⟨j - i, by omega⟩
  have h2 := itF_cyc e n
  have h3 : itF f h (i + n * d) = itF f h n := by
    obtain ⟨m, hm⟩ : ∃ m, i + n * d = n + m := ⟨i + n * d - n, by
      have : n * 1 ≤ n * d := Nat.mul_le_mul_left n (by omega)
      omega⟩
    rw [hm]; exact itF_stay hf m
  rw [h3] at h2
  exact (hgo i (by omega)).1 (by rw [h2]; exact hf)
theorem goS_goW {f : Int → Int} {n : Nat} : ∀ (k : Nat) (h : Int) (way : List Int), ((∀ j, j < k → f (itF f h j) ≠ itF f h j ∧ 1 ≤ f (itF f h j) ∧ f (itF f h j) ≤ (n : Int)) → f (itF f h k) ≠ itF f h k) → goS f n (k + 1) h way = goW f n k h (way ++ [h])
  | 0, h, way, hne => by
    have := hne (fun j hj => by omega)
    simp only [itF] at this
    unfold goS goW
    rw [if_neg this]
    split <;> rfl
  | k + 1, h, way, hne => by
    have e1 : goS f n (k + 1 + 1) h way = if f h = h then (way ++ [h], true) else if f h < 1 ∨ (n : Int) < f h then (way ++ [h], false) else goS f n (k + 1) (f h) (way ++ [h]) := rfl
    have e2 : goW f n (k + 1) h (way ++ [h]) = if f h = h then (way ++ [h], true) else if f h < 1 ∨ (n : Int) < f h then (way ++ [h], false) else goW f n k (f h) (way ++ [h] ++ [f h]) := rfl
    rw [e1, e2]
    by_cases a : f h = h
    · rw [if_pos a, if_pos a]
    · rw [if_neg a, if_neg a]
      by_cases b : f h < 1 ∨ (n : Int) < f h
      · rw [if_pos b, if_pos b]
      · rw [if_neg b, if_neg b]
        refine goS_goW k (f h) _ (fun hj => ?_)
        rw [itF_shift]
        refine hne (fun j hjk => ?_)
        cases j with
        | zero => exact ⟨a, by simp only [itF]; omega, by simp only [itF]; omega⟩
        | succ j => have := hj j (by omega); rw [itF_shift] at this; exact this
theorem goS_eq {f : Int → Int} {n : Nat} {h : Int} (h1 : 1 ≤ h) (hn : h ≤ (n : Int)) : goS f n (n + 1) h [] = goW f n n h [h] :=
  goS_goW n h [] (fun hgo => no_end h1 hn hgo)
def nextF (ls : List (List Ent)) (x h : Int) : Int := fV (vF (ls.getD (h - 1).toNat [])) x 9
def wayF (ls : List (List Ent)) (h x : Int) : List Int × Bool :=
  if tablesOkF ls = true ∧ 1 ≤ h ∧ h ≤ (ls.length : Int) ∧ addrF x = true then goW (nextF ls x) ls.length ls.length h [h] else ([], false)
end Go.Proofs.YtnecdeaikmhanaaGreatDoor
namespace Go.Proofs.YtnecdeaikmhanaaGreatDoor
open Go.RowKit
set_option linter.unusedVariables false
theorem set_getD {vs : List Value} {k i : Nat} {u : Value} (hk : k < vs.length) : (vs.set k u).getD i undef = if i = k then u else vs.getD i undef := by
  by_cases h : i = k
  · subst h; simp [hk]
  · rw [if_neg h]; simp [Ne.symm h]
def EntNew (w : World) (lo : Nat) (v : Value) (l : List Ent) : Prop :=
  ∃ xs, w.ownsRow lo 103 3 v l.length xs ∧ ∀ i, i < l.length → xs.getD (i * 3) undef = .int .i64 (l.getD i (0, 0, 0)).1 ∧ xs.getD (i * 3 + 1) undef = .int .i64 (l.getD i (0, 0, 0)).2.1 ∧ xs.getD (i * 3 + 2) undef = .int .i64 (l.getD i (0, 0, 0)).2.2
theorem EntNew.below {W w1 : World} {B : Nat} {v : Value} {l : List Ent} (h : EntNew W B v l) (hb : Below W.heap.size W w1) : EntNew w1 B v l := by
  obtain ⟨xs, h1, h2⟩ := h
  exact ⟨xs, owns_belowR h1 hb, h2⟩
theorem EntNew.kept {W w1 : World} {g : Nat} {v : Value} {l : List Ent} (h : EntNew W (g + 1) v l) (hg : W.grownBy w1 (some g)) : EntNew w1 (g + 1) v l := by
  obtain ⟨xs, h1, h2⟩ := h
  refine ⟨xs, World.ownsRow.kept h1 hg ?_, h2⟩
  cases hv : v.ownBlock with
  | none => exact .inl rfl
  | some k => right; have := (World.ownsRow.lt h1 k hv).1; intro e; cases e; omega
theorem EntNew.lift {w : World} {B B' : Nat} {v : Value} {l : List Ent} (h : EntNew w B v l) (hb : B' ≤ B) : EntNew w B' v l := by
  obtain ⟨xs, h1, h2⟩ := h
  refine ⟨xs, ⟨h1.1, ?_⟩, h2⟩
  rcases h1.2 with h | ⟨g, cap, cur, h1, h2, h3⟩
  · exact .inl h
  · exact .inr ⟨g, cap, cur, h1, Nat.le_trans hb h2, h3⟩
theorem EntNew.ents {w : World} {B : Nat} {v : Value} {l : List Ent} (h : EntNew w B v l) : EntsAt w v l := by
  obtain ⟨xs, h1, h2⟩ := h
  rcases h1.2 with ⟨rfl, hn⟩ | ⟨g, cap, cur, rfl, hb, hg, hnc, hcm, hcs, htake⟩
  · exact ⟨none, 0, by rw [hn], by omega, Nat.zero_le _, .inl hn⟩
  · have hxl := h1.1
    refine ⟨_, cap, rfl, hnc, hcm, .inr ⟨g, 0, rfl, heap_lt hg, fun i hi => ?_⟩⟩
    obtain ⟨e0, e1, e2⟩ := h2 i hi
    have key : ∀ j, j < l.length * 3 → w.cell? ⟨g, 0 + j, none⟩ = some (xs.getD j undef) := fun j hj => by
      rw [Nat.zero_add, h1.cellAt j (by omega), List.getD_eq_getElem?_getD, List.getElem?_eq_getElem (by omega)]; rfl
    rw [← e0, ← e1, ← e2]
    exact ⟨key _ (by omega), by rw [Nat.add_assoc]; exact key _ (by omega), by rw [Nat.add_assoc]; exact key _ (by omega)⟩
theorem info_e3 : (Tryz.prog.info? 103).map (fun i => (i.zero, i.size, i.bytes)) = some (some (.agg #[.int .i64 0, .int .i64 0, .int .i64 0]), 3, 24) := by kernel_rfl
theorem info_t2 : (Tryz.prog.info? 100).map (fun i => (i.zero, i.size, i.bytes)) = some (some (.slice none 0 0), 1, 24) := by kernel_rfl
end Go.Proofs.YtnecdeaikmhanaaGreatDoor
namespace Go.Proofs.YtnecdeaikmhanaaGreatDoor
open Go.RowKit
set_option linter.unusedVariables false
def OwnInts (w : World) (B : Nat) (v : Value) (l : List Int) : Prop := w.ownsRow B 3 1 v l.length (l.map (Value.int .i64))
theorem OwnInts.ints {w : World} {B : Nat} {v : Value} {l : List Int} (h : OwnInts w B v l) : IntsAt w v l := by
  have h' : w.ownsRow B 3 1 v l.length (l.map (Value.int .i64)) := h
  rcases h'.2 with ⟨rfl, hn⟩ | ⟨g, cap, cur, rfl, hb, hg, hnc, hcm, hcs, htake⟩
  · exact ⟨none, 0, by rw [hn], by omega, by unfold maxLen; omega, .inl hn⟩
  · refine ⟨some ⟨g, 0, none⟩, cap, rfl, hnc, hcm, .inr ⟨g, 0, rfl, ?_, fun i hi => ?_⟩⟩
    · by_cases hlt : g < w.heap.size
      · exact hlt
      · rw [Array.getElem?_eq_none (by omega)] at hg; simp at hg
    · rw [Nat.zero_add, h'.cellAt i (by omega)]
      simp [List.getElem?_eq_getElem hi]
theorem OwnInts.below {W w1 : World} {B : Nat} {v : Value} {l : List Int} (h : OwnInts W B v l) (hb : Below W.heap.size W w1) : OwnInts w1 B v l := owns_belowR h hb
theorem OwnInts.lift {w : World} {B B' : Nat} {v : Value} {l : List Int} (h : OwnInts w B v l) (hb : B' ≤ B) : OwnInts w B' v l := by
  refine ⟨h.1, ?_⟩
  rcases h.2 with h | ⟨g, cap, cur, h1, h2, h3⟩
  · exact .inl h
  · exact .inr ⟨g, cap, cur, h1, Nat.le_trans hb h2, h3⟩
theorem same_list {l m : List Int} (h : l.length = m.length) (hs : ∀ j, j < l.length → l.getD j 0 = m.getD j 0) : l = m := by
  apply List.ext_getElem h
  intro j h1 h2
  have := hs j h1
  simpa [List.getElem?_eq_getElem h1, List.getElem?_eq_getElem h2] using this
structure Marked (lo hi : Nat) (w w' : World) : Prop where
  os : w'.os = w.os
  tape : w'.tape = w.tape
  output : w'.output = w.output
  size : w'.heap.size = w.heap.size
  out : ∀ b : Nat, b < lo ∨ hi ≤ b → w'.heap[b]? = w.heap[b]?
  other : ∀ (b : Nat) cur T mk, w.heap[b]? = some (.cells cur T mk) → T ≠ 3 → T ≠ 103 → w'.heap[b]? = w.heap[b]?
  ints : ∀ (b : Nat) cur T mk, w.heap[b]? = some (.cells cur T mk) → ∃ cur', w'.heap[b]? = some (.cells cur' T mk) ∧ cur'.size = cur.size
theorem Marked.refl (lo hi : Nat) (w : World) : Marked lo hi w w := ⟨rfl, rfl, rfl, rfl, fun _ _ => rfl, fun _ _ _ _ _ _ _ => rfl, fun b cur T mk h => ⟨cur, h, rfl⟩⟩
theorem Marked.trans {lo hi : Nat} {a b c : World} (h : Marked lo hi a b) (g : Marked lo hi b c) : Marked lo hi a c := by
  refine ⟨g.os.trans h.os, g.tape.trans h.tape, g.output.trans h.output, g.size.trans h.size, fun x hx => (g.out x hx).trans (h.out x hx), fun x cur T mk hx hT hE => ?_, fun x cur T mk hx => ?_⟩
  · have e := h.other x cur T mk hx hT hE
    exact (g.other x cur T mk (e.trans hx) hT hE).trans e
  · obtain ⟨c1, h1, h2⟩ := h.ints x cur T mk hx
    obtain ⟨c2, g1, g2⟩ := g.ints x c1 T mk h1
    exact ⟨c2, g1, g2.trans h2⟩
theorem Marked.below {lo hi B : Nat} {w w' : World} (h : Marked lo hi w w') (hB : B ≤ lo) : Below B w w' :=
  ⟨h.os, h.tape, h.output, Nat.le_of_eq h.size.symm, fun i hi => h.out i (.inl (by omega))⟩
theorem setCell_block {w : World} {g i : Nat} {u : Value} {cur : Array Value} {T : TypeId} {mk : Nat × Nat} (h : w.heap[g]? = some (.cells cur T mk)) :
    (w.setCell ⟨g, i, none⟩ u).heap[g]? = some (.cells (cur.setIfInBounds i u) T mk) := by
  have hg : g < w.heap.size := by
    by_cases hlt : g < w.heap.size
    · exact hlt
    · rw [Array.getElem?_eq_none (by omega)] at h; simp at h
  rw [Array.getElem?_eq_getElem hg] at h
  simp only [Option.some.injEq] at h
  simp [World.setCell, hg, Array.getElem_modify, h]
theorem Marked.set {lo hi g i : Nat} {a w : World} {u : Value} {cur : Array Value} {S : TypeId} {mk : Nat × Nat} (hm : Marked lo hi a w) (hlo : lo ≤ g) (hhi : g < hi) (h : w.heap[g]? = some (.cells cur S mk)) (hS : S = 3 ∨ S = 103) : Marked lo hi a (w.setCell ⟨g, i, none⟩ u) := by
  refine hm.trans ⟨rfl, rfl, rfl, by simp [World.setCell], fun b hb => Below.heap_setCell _ _ _ _ (by intro e; simp at e; omega), fun b cur' T mk' hb hT hE => ?_, fun b cur' T mk' hb => ?_⟩
  · by_cases e : b = g
    · subst e; rw [hb] at h; simp only [Option.some.injEq, Obj.cells.injEq] at h; rw [h.2.1] at hT hE; rcases hS with hS | hS <;> contradiction
    · exact Below.heap_setCell _ _ _ _ e
  · by_cases e : b = g
    · subst e
      exact ⟨_, setCell_block hb, by simp⟩
    · exact ⟨cur', (Below.heap_setCell _ _ _ _ e).trans hb, rfl⟩
def HasInts (w : World) (lo hi : Nat) (v : Value) (n : Nat) : Prop :=
  (v = .slice none 0 0 ∧ n = 0) ∨ ∃ g cap cur, v = .slice (some ⟨g, 0, none⟩) n cap ∧ lo ≤ g ∧ g < hi ∧ w.heap[g]? = some (.cells cur 3 (0, 0)) ∧ n ≤ cap ∧ cap ≤ maxLen ∧ cur.size = cap
theorem OwnInts.has {w : World} {B : Nat} {v : Value} {l : List Int} (h : OwnInts w B v l) {hi : Nat} (hh : w.heap.size ≤ hi) : HasInts w B hi v l.length := by
  rcases World.ownsRow.lt h |> fun hlt => (⟨hlt, h.2⟩ : _ ∧ _) with ⟨hlt, ⟨rfl, hn⟩ | ⟨g, cap, cur, rfl, hb, hg, hnc, hcm, hcs, htake⟩⟩
  · exact .inl ⟨rfl, hn⟩
  · exact .inr ⟨g, cap, cur, rfl, hb, by have := (hlt g rfl).2; omega, hg, hnc, hcm, by simpa using hcs⟩
theorem OwnInts.out {w w' : World} {B lo hi : Nat} {v : Value} {l : List Int} (h : OwnInts w B v l) (hm : Marked lo hi w w') (hB : hi ≤ B) : OwnInts w' B v l := by
  refine ⟨h.1, ?_⟩
  rcases h.2 with h' | ⟨g, cap, cur, h1, h2, h3, h4⟩
  · exact .inl h'
  · exact .inr ⟨g, cap, cur, h1, h2, (hm.out g (.inr (by omega))).trans h3, h4⟩
theorem OwnInts.other {w w' : World} {lo g : Nat} {v : Value} {l : List Int} (h : OwnInts w lo v l) (hm : Marked g (g + 1) w w') (hne : v.ownBlock ≠ some g) : OwnInts w' lo v l := by
  refine ⟨h.1, ?_⟩
  rcases h.2 with h' | ⟨g', cap, cur, h1, h2, h3, h4⟩
  · exact .inl h'
  · have : g' ≠ g := by intro e; subst e; exact hne (by rw [h1]; rfl)
    exact .inr ⟨g', cap, cur, h1, h2, (hm.out g' (by omega)).trans h3, h4⟩
def HasEnts (w : World) (lo hi : Nat) (v : Value) (n : Nat) : Prop :=
  (v = .slice none 0 0 ∧ n = 0) ∨ ∃ g cap cur, v = .slice (some ⟨g, 0, none⟩) n cap ∧ lo ≤ g ∧ g < hi ∧ w.heap[g]? = some (.cells cur 103 (0, 0)) ∧ n ≤ cap ∧ cap ≤ maxLen ∧ cur.size = cap * 3
theorem HasEnts.below {w w' : World} {lo hi n : Nat} {v : Value} (h : HasEnts w lo hi v n) (hb : Below w.heap.size w w') : HasEnts w' lo hi v n := by
  rcases h with h | ⟨g, cap, cur, h1, h2, h3, h4, h5⟩
  · exact .inl h
  · exact .inr ⟨g, cap, cur, h1, h2, h3, (hb.block g (heap_lt h4)).trans h4, h5⟩
theorem EntNew.has {w : World} {B lo hi : Nat} {v : Value} {l : List Ent} (h : EntNew w B v l) (hl : lo ≤ B) (hh : w.heap.size ≤ hi) : HasEnts w lo hi v l.length := by
  obtain ⟨xs, h1, _⟩ := h
  rcases h1.2 with ⟨rfl, hn⟩ | ⟨g, cap, cur, rfl, hb, hg, hnc, hcm, hcs, htake⟩
  · exact .inl ⟨rfl, hn⟩
  · exact .inr ⟨g, cap, cur, rfl, by omega, by have := heap_lt hg; omega, hg, hnc, hcm, hcs⟩
end Go.Proofs.YtnecdeaikmhanaaGreatDoor
namespace Go.Proofs.YtnecdeaikmhanaaGreatDoor
open Go.RowKit
set_option linter.unusedVariables false
theorem info_intR : (Tryz.prog.info? 3).map (fun i => (i.zero, i.size, i.bytes)) = some (some (.int .i64 0), 1, 8) := by kernel_rfl
theorem lit_int (W : World) (u : Value) : SliceAt (W.alloc (.cells #[u] 3)) (.slice (some ⟨W.heap.size, 0, none⟩) 1 1) 1 (fun _ => u) :=
  ⟨_, 1, rfl, Nat.le_refl _, by unfold maxLen; omega, .inr ⟨W.heap.size, 0, rfl, by simp, fun i hi => by
    obtain rfl : i = 0 := by omega
    simp⟩⟩
theorem own_one (w : World) (h : Int) : OwnInts (w.alloc (.cells #[.int .i64 h] 3)) w.heap.size (.slice (some ⟨w.heap.size, 0, none⟩) 1 1) [h] :=
  World.ownsRow_lit (base := w.heap.size) (e := 3) (size := 1) w #[.int .i64 h] 1 (Nat.le_refl _) (by simp [maxLen]) rfl
theorem OwnInts.form {w : World} {B : Nat} {v : Value} {l : List Int} (h : OwnInts w B v l) : ∃ a cap, v = .slice a l.length cap ∧ l.length ≤ cap ∧ cap ≤ 9223372036854775807 := owns_form h
def WayPost (R : List Int × Bool) (w : World) (e : Ending) (w' : World) : Prop := ∃ v, e = .returned (.tuple #[v, .bool R.2]) ∧ OwnInts w' w.heap.size v R.1 ∧ Below w.heap.size w w'
set_option maxRecDepth 100000 in
set_option maxHeartbeats 8000000 in
theorem implSendWay_any (v : Value) (ls : List (List Ent)) (h x : Int) (w : World) (hv : TabsAt w v ls) :
    Calls Tryz.prog 68 #[v, .int .i64 h, .int .i64 x] w (WayPost (wayF ls h x) w) := by
  have hfw := forwarding_any v ls w hv
  obtain ⟨i0, hi, hz0, hz1, hz2⟩ := info_parts info_intR
  obtain ⟨a, cap, rfl, hc, hm⟩ := hv.form
  obtain ⟨n, hn⟩ : ∃ n, ls.length = n := ⟨_, rfl⟩
  obtain ⟨R, hR⟩ : ∃ R, wayF ls h x = R := ⟨_, rfl⟩
  rw [hR]
  unfold wayF at hR
  rw [hn] at hfw hR hc ⊢
  have HFW := Lib.hid hfw
  have HN := Lib.hid hn
  have HR := Lib.hid hR
  clear hfw hn hR hv
  unfold WayPost
  cases hok : tablesOkF ls with
  | false =>
    have e := HR.out
    rw [hok, if_neg (by simp)] at e
    subst e
    have hfw : Calls Tryz.prog 105 #[.slice a n cap] w fun e w' => e = .returned (.tuple #[.nilFunc, .bool false]) ∧ Below w.heap.size w w' := HFW.out.mono fun e w1 ⟨h1, h2⟩ => by
      rcases h1 with ⟨h1, _⟩ | ⟨_, h1⟩
      · rw [hok] at h1; cases h1
      · exact ⟨h1, h2⟩
    have HFW := Lib.hid hfw
    clear hfw
    go_enter Tryz.func68, Tryz.ntmps68
    go_wp2_with (go_at_call 105; refine HFW.out.mono ?_; rintro e w1 ⟨rfl, hb1⟩)
    refine bodyPost_ret (results_tmp2 rfl _ _ _) rfl ?_
    exact ⟨_, rfl, World.ownsRow_nil _ _ _ _, hb1⟩
  | true =>
    obtain ⟨hl1, hl5, _⟩ := tablesOk_at hok
    rw [HN.out] at hl1 hl5
    have hfw : Calls Tryz.prog 105 #[.slice a n cap] w fun e w' => ∃ F, e = .returned (.tuple #[fwdV F, .bool true]) ∧ (∃ fv xs, FindAt w' F fv xs ls) ∧ Below w.heap.size w w' := HFW.out.mono fun e w1 ⟨h1, h2⟩ => by
      rcases h1 with ⟨_, F, fv, xs, h1, h3⟩ | ⟨h1, _⟩
      · exact ⟨F, h1, ⟨fv, xs, h3⟩, h2⟩
      · rw [hok] at h1; cases h1
    have HFW := Lib.hid hfw
    have HOK := Lib.hid hok
    clear hfw hok
    by_cases h1 : h < 1
    · have e := HR.out
      rw [if_neg (by omega)] at e
      subst e
      go_enter Tryz.func68, Tryz.ntmps68
      go_wp2_with (go_at_call 105; refine HFW.out.mono ?_; rintro e w1 ⟨F, rfl, hF, hb1⟩; unfold fwdV)
      refine bodyPost_ret (results_tmp2 rfl _ _ _) rfl ?_
      exact ⟨_, rfl, World.ownsRow_nil _ _ _ _, hb1⟩
    · by_cases h2 : (n : Int) < h
      · have e := HR.out
        rw [if_neg (by omega)] at e
        subst e
        go_enter Tryz.func68, Tryz.ntmps68
        go_wp2_with (go_at_call 105; refine HFW.out.mono ?_; rintro e w1 ⟨F, rfl, hF, hb1⟩; unfold fwdV)
        refine bodyPost_ret (results_tmp2 rfl _ _ _) rfl ?_
        exact ⟨_, rfl, World.ownsRow_nil _ _ _ _, hb1⟩
      · obtain ⟨A, hA⟩ : ∃ A, addrF x = A := ⟨_, rfl⟩
        have haddr : ∀ W, Calls Tryz.prog 67 #[.int .i64 x] W fun e w' => e = .returned (.bool A) ∧ Drew W w' := fun W => by rw [← hA]; exact isAddr_any x W
        have HAD := Lib.hid haddr
        have HA := Lib.hid hA
        clear haddr hA
        cases A
        · have e := HR.out
          rw [if_neg (by rw [HA.out]; simp)] at e
          subst e
          go_enter Tryz.func68, Tryz.ntmps68
          go_wp2_with (first | (go_at_call 105; refine HFW.out.mono ?_; rintro e w1 ⟨F, rfl, hF, hb1⟩; unfold fwdV) | (go_at_call 67; refine (HAD.out _).mono ?_; rintro e w2 ⟨rfl, hd⟩; have hb2 := hd.below w1.heap.size))
          refine bodyPost_ret (results_tmp2 rfl _ _ _) rfl ?_
          exact ⟨_, rfl, World.ownsRow_nil _ _ _ _, hb1.trans (hb2.mono hb1.size)⟩
        · have e := HR.out
          rw [if_pos ⟨HOK.out, by omega, by omega, HA.out⟩] at e
          have hx : 0 ≤ x ∧ x ≤ 255 := by
            have := HA.out; unfold addrF at this; simpa using this
          have HE := Lib.hid e
          have HX := Lib.hid hx
          clear e hx
          have h1' : 1 ≤ h := by omega
          have h2' : h ≤ (n : Int) := by omega
          go_enter Tryz.func68, Tryz.ntmps68
          go_wp2_with (first | (go_at_call 105; refine HFW.out.mono ?_; rintro e w1 ⟨F, rfl, hF, hb1⟩; unfold fwdV) | (go_at_call 67; refine (HAD.out _).mono ?_; rintro e w2 ⟨rfl, hd⟩; have hb2 := hd.below w1.heap.size; have BB : Hid (Below w.heap.size w w2) := Lib.hid (hb1.trans (hb2.mono hb1.size)); have HF : Hid (∃ fv xs, FindAt w2 F fv xs ls) := Lib.hid (by obtain ⟨fv, xs, hF⟩ := hF; exact ⟨fv, xs, hF.below hb2⟩); clear hb1 hb2 hF hd))
          go_loopg [1, 10] n (fun gk s1 s10 wr => ∃ (q : Int) (way : List Int), s1 = .int .i64 q ∧ Hid (OwnInts wr w2.heap.size s10 way) ∧ way.length + gk = n + 1 ∧ 1 ≤ q ∧ q ≤ (n : Int) ∧ Hid (goW (nextF ls x) n gk q way = R) ∧ Hid (Below w2.heap.size w2 wr))
          case atStart => exact ⟨h, [h], rfl, Lib.hid (own_one w2 h), by simp; omega, h1', h2', HE, Lib.hid (Below.alloc (Below.refl _ _) (Nat.le_refl _) _)⟩
          case round =>
            obtain ⟨q, way, rfl, hown, hlen, q1, q2, hgo, hb⟩ := hrel
            obtain ⟨wa, wc, e, hwl, hwc⟩ := hown.out.form
            subst e
            obtain ⟨L, hL⟩ : ∃ L, way.length = L := ⟨_, rfl⟩
            rw [hL] at hown hlen hwl ⊢
            have HL := Lib.hid hL
            clear hL
            cases gk with
            | zero =>
              have hdn : ¬ (L : Int) ≤ (n : Int) := by omega
              have e := hgo.out
              have e' : R = (way, false) := e.symm
              subst e'
              go_wp2_with fail
              refine bodyPost_ret (results_tmp2 rfl _ _ _) rfl ?_
              exact ⟨_, rfl, hown.out.lift BB.out.size, BB.out.trans (hb.out.mono BB.out.size)⟩
            | succ k =>
              have hdn : (L : Int) ≤ (n : Int) := by omega
              obtain ⟨j, rfl⟩ : ∃ j : Nat, q = (j : Int) + 1 := ⟨(q - 1).toNat, by omega⟩
              have hjn : j < n := by omega
              obtain ⟨T, hT⟩ : ∃ T, nextF ls x ((j : Int) + 1) = T := ⟨_, rfl⟩
              have hstep : goW (nextF ls x) n (k + 1) ((j : Int) + 1) way = if T = (j : Int) + 1 then (way, true) else if T < 1 ∨ (n : Int) < T then (way, false) else goW (nextF ls x) n k T (way ++ [T]) := by rw [← hT]; rfl
              have hcall : ∀ W, Below w2.heap.size w2 W → Calls Tryz.prog 138 #[.int .i64 ((j : Int) + 1), .int .i64 x, .pointer (some ⟨F, 0, none⟩)] W fun e w' => e = .returned (.int .i64 T) ∧ Below W.heap.size W w' := fun W hW => by
                obtain ⟨fv, xs, hF⟩ := HF.out
                have := fwd1_any F fv xs ls j x HX.out.1 HX.out.2 W (hF.below hW) (by rw [HN.out]; exact hjn) (by rw [HN.out]; exact hl5)
                unfold nextF at hT
                rw [show ((j : Int) + 1 - 1).toNat = j by omega] at hT
                rw [hT] at this
                exact this
              have HC := Lib.hid hcall
              have HS := Lib.hid (hstep.symm.trans hgo.out)
              clear hcall hstep hT
              by_cases c1 : T = (j : Int) + 1
              · have e := HS.out
                rw [if_pos c1] at e
                subst e
                have hcb : (T == (j : Int) + 1) = true := by simp [c1]
                go_wp2_with (go_at_call 138; refine (HC.out _ hb.out).mono ?_; rintro e w3 ⟨rfl, hb3⟩)
                refine bodyPost_ret (results_tmp2 rfl _ _ _) rfl ?_
                exact ⟨_, rfl, (hown.out.below hb3).lift BB.out.size, (BB.out.trans (hb.out.mono BB.out.size)).trans (hb3.mono (Nat.le_trans BB.out.size hb.out.size))⟩
              · have hcb : (T == (j : Int) + 1) = false := by simp [c1]
                by_cases c2 : T < 1
                · have e := HS.out
                  rw [if_neg c1, if_pos (.inl c2)] at e
                  subst e
                  go_wp2_with (go_at_call 138; refine (HC.out _ hb.out).mono ?_; rintro e w3 ⟨rfl, hb3⟩)
                  refine bodyPost_ret (results_tmp2 rfl _ _ _) rfl ?_
                  exact ⟨_, rfl, (hown.out.below hb3).lift BB.out.size, (BB.out.trans (hb.out.mono BB.out.size)).trans (hb3.mono (Nat.le_trans BB.out.size hb.out.size))⟩
                · by_cases c3 : (n : Int) < T
                  · have e := HS.out
                    rw [if_neg c1, if_pos (.inr c3)] at e
                    subst e
                    go_wp2_with (go_at_call 138; refine (HC.out _ hb.out).mono ?_; rintro e w3 ⟨rfl, hb3⟩)
                    refine bodyPost_ret (results_tmp2 rfl _ _ _) rfl ?_
                    exact ⟨_, rfl, (hown.out.below hb3).lift BB.out.size, (BB.out.trans (hb.out.mono BB.out.size)).trans (hb3.mono (Nat.le_trans BB.out.size hb.out.size))⟩
                  · have e := HS.out
                    rw [if_neg c1, if_neg (by omega)] at e
                    have HG := Lib.hid e
                    have HLEN := Lib.hid hlen
                    clear e hlen
                    go_wp2_with (first | (go_at_call 138; refine (HC.out _ hb.out).mono ?_; rintro e w3 ⟨rfl, hb3⟩; have hown3 : w3.ownsRow w2.heap.size 3 1 (.slice wa L wc) L (way.map (Value.int .i64)) := (by have := hown.out.below hb3; unfold OwnInts at this; rw [HL.out] at this; exact this); have OWN3 := Lib.hid hown3; have B3 := Lib.hid (hb.out.trans (hb3.mono hb.out.size)); have hs3 : w2.heap.size ≤ w3.heap.size := B3.out.size; clear hown3 hb3) | (at_builtin; refine wpList_append_src rfl (.tmp 61) (.tmp 63) 37 rfl w2.heap.size 3 i0 (.int .i64 0) 8 Tryz.underlying37 hi hz0 hz1 hz2 rfl (.slice wa L wc) L (way.map (Value.int .i64)) rfl (World.ownsRow.alloc OWN3.out _) (.slice (some ⟨w3.heap.size, 0, none⟩) 1 1) 1 (fun _ => .int .i64 T) rfl (lit_int w3 _) (fun j hj => rfl) (by unfold maxLen; omega) (by omega) (by (try simp); omega) ?_; intro v' w4 hown4 hgrow4))
                    go_roundg k
                    case measure => omega
                    case rel =>
                      refine ⟨T, way ++ [T], rfl, Lib.hid ?_, by have := HLEN.out; rw [List.length_append, HL.out, List.length_singleton]; omega, by omega, by omega, HG, Lib.hid (Below.grown (Below.alloc B3.out hs3 _) hgrow4 (by simp; omega) (fun g hg => (World.ownsRow.lt OWN3.out g hg).1))⟩
                      unfold OwnInts
                      rw [List.length_append, HL.out, List.map_append]
                      exact hown4
end Go.Proofs.YtnecdeaikmhanaaGreatDoor
