/- A part of the proof; packed by a program of mine out of my texts. -/
import Derived.Test.YtnecdeaikmhanaaGreatDoorPE0
import Derived.Test.YtnecdeaikmhanaaGreatDoorPE1
import Derived.Test.YtnecdeaikmhanaaGreatDoorPE2
import Derived.Test.YtnecdeaikmhanaaGreatDoorPE3
import Derived.Test.YtnecdeaikmhanaaGreatDoorPE4
import Derived.Test.YtnecdeaikmhanaaGreatDoorPE5
import Derived.Test.YtnecdeaikmhanaaGreatDoorPE7
import Derived.Test.YtnecdeaikmhanaaGreatDoorPE8
import Derived.Test.YtnecdeaikmhanaaGreatDoorPE9
namespace Go.Proofs.YtnecdeaikmhanaaGreatDoor
open Go.RowKit
set_option linter.unusedVariables false
def IdxPost (l : List Int) (x : Int) (w : World) (e : Ending) (w' : World) : Prop := ∃ i : Int, e = .returned (.int .i64 i) ∧ -1 ≤ i ∧ (0 ≤ i ↔ x ∈ l) ∧ w' = w
theorem idx_no {l : List Int} {x : Int} {w : World} (h : ∀ j, j < l.length → l.getD j 0 ≠ x) : IdxPost l x w (.returned (.int .i64 (-1))) w :=
  ⟨-1, rfl, by omega, ⟨fun h => by omega, fun hm => by
    obtain ⟨i, hi, rfl⟩ := List.mem_iff_getElem.1 hm
    exact absurd (by rw [List.getD_eq_getElem?_getD, List.getElem?_eq_getElem hi]; rfl) (h i hi)⟩, rfl⟩
theorem idx_yes {l : List Int} {x : Int} {w : World} {k : Nat} (hk : k < l.length) (h : l.getD k 0 = x) : IdxPost l x w (.returned (.int .i64 (k : Int))) w :=
  ⟨k, rfl, by omega, ⟨fun _ => by rw [List.getD_eq_getElem?_getD, List.getElem?_eq_getElem hk] at h; rw [← h]; exact List.getElem_mem hk, fun _ => by omega⟩, rfl⟩
set_option maxHeartbeats 2000000 in
theorem slIndex_any (v : Value) (l : List Int) (x : Int) (w : World) (h : IntsAt w v l) : Calls Tryz.prog 168 #[v, .int .i64 x] w (IdxPost l x w) := by
  obtain ⟨a, cap, rfl, hc, hm⟩ := h.form
  obtain ⟨n, hn⟩ : ∃ n, l.length = n := ⟨_, rfl⟩
  rw [hn] at hc h ⊢
  have HN := Lib.hid hn
  have H := Lib.hid h
  clear hn h
  go_enter Tryz.func168, Tryz.ntmps168
  go_wp2_with fail
  go_loopg [8] n (fun gk s8 wr => ∃ k : Nat, s8 = .int .i64 (k : Int) ∧ k + gk = n ∧ Hid (∀ j, j < k → l.getD j 0 ≠ x) ∧ wr = w)
  case atStart => exact ⟨0, rfl, by omega, Lib.hid fun j hj => by omega, rfl⟩
  case round =>
    obtain ⟨k, rfl, hk, hno, rfl⟩ := hrel
    by_cases hg : gk = 0
    · subst hg
      obtain rfl : k = n := by omega
      have hdn : decide ((k : Int) < (k : Int)) = false := by simp
      go_wp2_with fail
      go_ret
      exact idx_no (by rw [HN.out]; exact hno.out)
    · have hkn : k < n := by omega
      have hkI : (k : Int) < (n : Int) := by omega
      have k0 : (0 : Int) ≤ (k : Int) := by omega
      have hgk : 1 ≤ gk := by omega
      obtain ⟨b, off, rfl, hb, hz⟩ := H.out.get k hkn
      obtain ⟨y, hy⟩ : ∃ y, l.getD k 0 = y := ⟨_, rfl⟩
      rw [hy] at hz
      have HY := Lib.hid hy
      have HK := Lib.hid hk
      clear hy hk hg
      by_cases hxy : x = y
      · subst hxy
        go_wp2_with fail
        go_ret
        exact idx_yes (by rw [HN.out]; exact hkn) HY.out
      · have hxb : (x == y) = false := by simp [hxy]
        have HXY := Lib.hid hxy
        clear hxy
        go_wp2_with fail
        go_roundg (gk - 1)
        case measure => omega
        case rel => exact ⟨k + 1, by go_num, by have := HK.out; omega, Lib.hid fun j hj => by
          by_cases hjk : j = k
          · subst hjk; rw [HY.out]; exact fun e => HXY.out e.symm
          · exact hno.out j (by omega), rfl⟩
set_option maxHeartbeats 1000000 in
theorem contains_any (v : Value) (l : List Int) (x : Int) (w : World) (h : IntsAt w v l) : Calls Tryz.prog 140 #[v, .int .i64 x] w fun e w' => e = .returned (.bool (decide (x ∈ l))) ∧ w' = w := by
  have HI := Lib.hid (slIndex_any v l x w h)
  obtain ⟨a, cap, rfl, hc, hm⟩ := h.form
  clear h
  go_enter Tryz.func140, Tryz.ntmps140
  go_wp2_with fail
  refine HI.out.mono ?_
  rintro e w1 ⟨i, rfl, hi, hiff, rfl⟩
  by_cases h0 : 0 ≤ i
  · have hd : decide (x ∈ l) = true := decide_eq_true (hiff.1 h0)
    have HD := Lib.hid hd
    clear hiff hd
    go_wp2_with fail
    go_ret
    exact ⟨by rw [HD.out]; simp, rfl⟩
  · have hd : decide (x ∈ l) = false := decide_eq_false (fun h => h0 (hiff.2 h))
    have HD := Lib.hid hd
    have h0d : decide (0 ≤ i) = false := decide_eq_false h0
    clear hiff hd
    go_wp2_with fail
    go_ret
    exact ⟨by rw [HD.out]; simp, rfl⟩
def CmpPost (a b : List Int) (w : World) (e : Ending) (w' : World) : Prop := ∃ c : Int, e = .returned (.int .i64 c) ∧ -1 ≤ c ∧ c ≤ 1 ∧ (a.length = b.length → c = cmpF a b) ∧ w' = w
theorem cmp_long {a b : List Int} {w : World} (h : b.length < a.length) : CmpPost a b w (.returned (.int .i64 1)) w := ⟨1, rfl, by omega, by omega, fun h' => by omega, rfl⟩
theorem cmp_short {a b : List Int} {w : World} (h : a.length < b.length) : CmpPost a b w (.returned (.int .i64 (-1))) w := ⟨-1, rfl, by omega, by omega, fun h' => by omega, rfl⟩
theorem cmp_same {a b : List Int} {w : World} (h : ∀ j, j < a.length → a.getD j 0 = b.getD j 0) : CmpPost a b w (.returned (.int .i64 0)) w := ⟨0, rfl, by omega, by omega, fun h' => (cmpF_same h' h).symm, rfl⟩
theorem cmp_at {a b : List Int} {w : World} {k : Nat} {c : Int} (hk : k < a.length) (h : ∀ j, j < k → a.getD j 0 = b.getD j 0) (hc : cmpI (a.getD k 0) (b.getD k 0) = c) (h0 : c ≠ 0) : CmpPost a b w (.returned (.int .i64 c)) w := by
  unfold cmpI at hc
  by_cases h1 : a.getD k 0 < b.getD k 0
  · rw [if_pos h1] at hc
    subst hc
    exact ⟨-1, rfl, by omega, by omega, fun h' => (cmpF_lt h' hk h h1).symm, rfl⟩
  · rw [if_neg h1] at hc
    by_cases h2 : b.getD k 0 < a.getD k 0
    · rw [if_pos h2] at hc
      subst hc
      exact ⟨1, rfl, by omega, by omega, fun h' => (cmpF_gt h' hk h h2).symm, rfl⟩
    · rw [if_neg h2] at hc
      exact absurd hc.symm h0
theorem cmpI_eq0 {x y : Int} (h : cmpI x y = 0) : x = y := by
  unfold cmpI at h
  by_cases h1 : x < y
  · rw [if_pos h1] at h; omega
  · rw [if_neg h1] at h
    by_cases h2 : y < x
    · rw [if_pos h2] at h; omega
    · omega
set_option maxHeartbeats 4000000 in
theorem slCompare_any (v1 v2 : Value) (l1 l2 : List Int) (w : World) (h1 : IntsAt w v1 l1) (h2 : IntsAt w v2 l2) : Calls Tryz.prog 185 #[v1, v2] w (CmpPost l1 l2 w) := by
  obtain ⟨a1, cap1, rfl, hc1, hm1⟩ := h1.form
  obtain ⟨a2, cap2, rfl, hc2, hm2⟩ := h2.form
  obtain ⟨n1, hn1⟩ : ∃ n, l1.length = n := ⟨_, rfl⟩
  obtain ⟨n2, hn2⟩ : ∃ n, l2.length = n := ⟨_, rfl⟩
  rw [hn1] at hc1 h1 ⊢
  rw [hn2] at hc2 h2 ⊢
  have HN1 := Lib.hid hn1
  have HN2 := Lib.hid hn2
  have H1 := Lib.hid h1
  have H2 := Lib.hid h2
  clear hn1 hn2 h1 h2
  go_enter Tryz.func185, Tryz.ntmps185
  go_wp2_with fail
  go_loopg [11] n1 (fun gk s11 wr => ∃ k : Nat, s11 = .int .i64 (k : Int) ∧ k + gk = n1 ∧ Hid (∀ j, j < k → l1.getD j 0 = l2.getD j 0) ∧ Hid (k ≤ n2) ∧ wr = w)
  case atStart => exact ⟨0, rfl, by omega, Lib.hid fun j hj => by omega, Lib.hid (by omega), rfl⟩
  case round =>
    obtain ⟨k, rfl, hk, hno, hk2, rfl⟩ := hrel
    by_cases hg : gk = 0
    · subst hg
      obtain rfl : k = n1 := by omega
      have hdn : decide ((k : Int) < (k : Int)) = false := by simp
      by_cases hlt : k < n2
      · have hltI : (k : Int) < (n2 : Int) := by omega
        go_wp2_with fail
        go_ret
        exact cmp_short (by rw [HN1.out, HN2.out]; exact hlt)
      · have hltI : ¬ (k : Int) < (n2 : Int) := by omega
        have hltd : decide ((k : Int) < (n2 : Int)) = false := decide_eq_false hltI
        go_wp2_with fail
        go_ret
        exact cmp_same (by rw [HN1.out]; exact hno.out)
    · have hkn : k < n1 := by omega
      have hkI : (k : Int) < (n1 : Int) := by omega
      have k0 : (0 : Int) ≤ (k : Int) := by omega
      have hgk : 1 ≤ gk := by omega
      have HK := Lib.hid hk
      obtain ⟨b, off, rfl, hb, hz⟩ := H1.out.get k hkn
      obtain ⟨x, hx⟩ : ∃ x, l1.getD k 0 = x := ⟨_, rfl⟩
      rw [hx] at hz
      have HX := Lib.hid hx
      clear hx hk hg
      by_cases hlt : k < n2
      · have hltI : (k : Int) < (n2 : Int) := by omega
        have hged : decide ((n2 : Int) ≤ (k : Int)) = false := decide_eq_false (by omega)
        obtain ⟨b2, off2, rfl, hb2, hz2⟩ := H2.out.get k hlt
        obtain ⟨y, hy⟩ : ∃ y, l2.getD k 0 = y := ⟨_, rfl⟩
        rw [hy] at hz2
        have HY := Lib.hid hy
        obtain ⟨c, hc⟩ : ∃ c, cmpI x y = c := ⟨_, rfl⟩
        have HCO := Lib.hid (fun W => compare_any x y W)
        rw [hc] at HCO
        have HC := Lib.hid hc
        clear hy hc
        by_cases hc0 : c = 0
        · subst hc0
          go_wp2_with fail
          refine (HCO.out _).mono ?_
          rintro e w1 ⟨rfl, rfl⟩
          go_wp2_with fail
          go_roundg (gk - 1)
          case measure => omega
          case rel => exact ⟨k + 1, by go_num, by have := HK.out; omega, Lib.hid fun j hj => by
            by_cases hjk : j = k
            · subst hjk; rw [HX.out, HY.out]; exact cmpI_eq0 HC.out
            · exact hno.out j (by omega), Lib.hid (by omega), rfl⟩
        · have hcb : (c != 0) = true := by simp [hc0]
          have HC0 := Lib.hid hc0
          clear hc0
          go_wp2_with fail
          refine (HCO.out _).mono ?_
          rintro e w1 ⟨rfl, rfl⟩
          go_wp2_with fail
          go_ret
          exact cmp_at (by rw [HN1.out]; exact hkn) hno.out (by rw [HX.out, HY.out]; exact HC.out) HC0.out
      · have hged : decide ((n2 : Int) ≤ (k : Int)) = true := decide_eq_true (by omega)
        go_wp2_with fail
        go_ret
        exact cmp_long (by rw [HN1.out, HN2.out]; omega)
theorem cmpF_or {a b : List Int} {c : Int} (h : a.length = b.length → c = cmpF a b) : (if cmpI (a.length : Int) (b.length : Int) ≠ 0 then cmpI (a.length : Int) (b.length : Int) else c) = cmpF a b := by
  by_cases h1 : a.length < b.length
  · have c1 : cmpI (a.length : Int) (b.length : Int) = -1 := by unfold cmpI; rw [if_pos (by omega)]
    rw [c1, if_pos (by decide)]
    unfold cmpF
    rw [if_pos h1]
  · by_cases h2 : b.length < a.length
    · have c1 : cmpI (a.length : Int) (b.length : Int) = 1 := by unfold cmpI; rw [if_neg (by omega), if_pos (by omega)]
      rw [c1, if_pos (by decide)]
      unfold cmpF
      rw [if_neg h1, if_pos h2]
    · have c1 : cmpI (a.length : Int) (b.length : Int) = 0 := by unfold cmpI; rw [if_neg (by omega), if_neg (by omega)]
      rw [c1, if_neg (by decide)]
      exact h (by omega)
set_option maxRecDepth 100000 in
set_option maxHeartbeats 2000000 in
theorem pathCmp_any (v1 v2 : Value) (l1 l2 : List Int) (w : World) (h1 : IntsAt w v1 l1) (h2 : IntsAt w v2 l2) (g1 : GoodP l1) (g2 : GoodP l2) (hE : ErrOk w) :
    Calls Tryz.prog 180 #[v1, v2] w fun e w' => e = .returned (.int .i64 (cmpF l1 l2)) ∧ Below w.heap.size w w' := by
  have hk1 : ∀ W, Below w.heap.size w W → Calls Tryz.prog 101 #[v1] W fun e w' => e = .returned (.bool true) ∧ Below W.heap.size W w' := fun W hW => pathOk_good v1 l1 W (h1.below hW) g1 (hE.below hW)
  have hk2 : ∀ W, Below w.heap.size w W → Calls Tryz.prog 101 #[v2] W fun e w' => e = .returned (.bool true) ∧ Below W.heap.size W w' := fun W hW => pathOk_good v2 l2 W (h2.below hW) g2 (hE.below hW)
  have hcm : ∀ W, Below w.heap.size w W → Calls Tryz.prog 185 #[v1, v2] W (CmpPost l1 l2 W) := fun W hW => slCompare_any v1 v2 l1 l2 W (h1.below hW) (h2.below hW)
  obtain ⟨a1, cap1, rfl, hc1, hm1⟩ := h1.form
  obtain ⟨a2, cap2, rfl, hc2, hm2⟩ := h2.form
  obtain ⟨n1, hn1⟩ : ∃ n, l1.length = n := ⟨_, rfl⟩
  obtain ⟨n2, hn2⟩ : ∃ n, l2.length = n := ⟨_, rfl⟩
  have hcl := fun W => compare_any (n1 : Int) (n2 : Int) W
  obtain ⟨d, hd⟩ : ∃ d, cmpI (n1 : Int) (n2 : Int) = d := ⟨_, rfl⟩
  have hfin : ∀ c, (l1.length = l2.length → c = cmpF l1 l2) → (if d ≠ 0 then d else c) = cmpF l1 l2 := fun c hc => by rw [← hd, ← hn1, ← hn2]; exact cmpF_or hc
  rw [hd] at hcl
  rw [hn1] at hc1 hk1 hcm ⊢
  rw [hn2] at hc2 hk2 hcm ⊢
  have K1 := Lib.hid hk1
  have K2 := Lib.hid hk2
  have CM := Lib.hid hcm
  have CL := Lib.hid hcl
  have FIN := Lib.hid hfin
  obtain ⟨R, hR⟩ : ∃ R, cmpF l1 l2 = R := ⟨_, rfl⟩
  rw [hR] at FIN ⊢
  have HR := Lib.hid hR
  clear hk1 hk2 hcm hcl hfin h1 h2 g1 g2 hE hn1 hn2 hd hR
  go_enter Tryz.func180, Tryz.ntmps180
  go_wp2_with fail
  refine (K1.out _ (Below.refl _ _)).mono ?_
  rintro e w1 ⟨rfl, hb1⟩
  have B1 := Lib.hid hb1
  clear hb1
  go_wp2_with fail
  refine (K2.out _ B1.out).mono ?_
  rintro e w2 ⟨rfl, hb2⟩
  have B2 := Lib.hid (B1.out.trans (hb2.mono B1.out.size))
  clear hb2
  go_wp2_with fail
  refine (CL.out _).mono ?_
  rintro e w3 ⟨rfl, rfl⟩
  go_wp2_with fail
  refine (CM.out _ B2.out).mono ?_
  rintro e w4 ⟨c, rfl, hc1, hc2, hc3, rfl⟩
  have HOR := Lib.hid (or_any _ d c _ (ints_two w4 d c))
  have B4 := Lib.hid (Below.alloc B2.out B2.out.size (.cells #[.int .i64 d, .int .i64 c] 3))
  rw [FIN.out c (fun h => (hc3 h).trans HR.out)] at HOR
  clear hc1 hc2 hc3
  go_wp2_with fail
  refine HOR.out.mono ?_
  rintro e w5 ⟨rfl, rfl⟩
  go_wp2_with fail
  go_ret
  exact ⟨rfl, B4.out⟩
theorem minF_take {ll : List (List Int)} {k : Nat} (h1 : 1 ≤ k) (hk : k < ll.length) : minF (ll.take (k + 1)) = minStep (minF (ll.take k)) (ll.getD k []) := by
  rw [List.take_add_one, List.getElem?_eq_getElem hk]
  have hne : ll.take k ≠ [] := by intro e; have h9 := congrArg List.length e; rw [List.length_take] at h9; simp only [List.length_nil] at h9; omega
  show minF (ll.take k ++ [ll[k]]) = _
  rw [minF_push hne, List.getD_eq_getElem?_getD, List.getElem?_eq_getElem hk]; rfl
set_option maxRecDepth 100000 in
set_option maxHeartbeats 4000000 in
theorem minFunc_any (v : Value) (ll : List (List Int)) (w : World) (h : RowsAt w v ll) (h0 : ll ≠ []) (hg : ∀ i, i < ll.length → GoodP (ll.getD i [])) (hE : ErrOk w) :
    Calls Tryz.prog 179 #[v, .func (.func 180) #[] #[]] w fun e w' => ∃ v', e = .returned v' ∧ IntsAt w v' (minF ll) ∧ Below w.heap.size w w' := by
  obtain ⟨a, cap, rfl, hc, hm⟩ := h.form
  obtain ⟨n, hn⟩ : ∃ n, ll.length = n := ⟨_, rfl⟩
  have hn1 : 1 ≤ n := by
    rw [← hn]
    match ll, h0 with
    | _ :: _, _ => simp
  rw [hn] at hc h ⊢
  have HN := Lib.hid hn
  have H := Lib.hid h
  have HG := Lib.hid hg
  have HE := Lib.hid hE
  have h1d : decide ((n : Int) < 1) = false := decide_eq_false (by omega)
  obtain ⟨b, off, u0, rfl, hb, hx0, hu0⟩ := h.get 0 (by omega)
  rw [Nat.add_zero] at hx0
  have hnI : (0 : Int) < (n : Int) := by omega
  have hnN : 0 < n := by omega
  have U0 := Lib.hid hu0
  clear hn h h0 hg hE hu0
  go_enter Tryz.func179, Tryz.ntmps179
  go_wp2_with fail
  go_loopg [5, 6] (n - 1) (fun gk s5 s6 wr => ∃ k : Nat, s6 = .int .i64 (k : Int) ∧ 1 ≤ k ∧ k + gk = n ∧ Hid (IntsAt w s5 (minF (ll.take k))) ∧ Hid (GoodP (minF (ll.take k))) ∧ Hid (Below w.heap.size w wr))
  case atStart =>
    have e1 : minF (ll.take 1) = ll.getD 0 [] := by
      cases ll with
      | nil => have := HN.out; simp at this; omega
      | cons x t => rfl
    exact ⟨1, rfl, by omega, by omega, Lib.hid (by rw [e1]; exact U0.out), Lib.hid (by rw [e1]; exact HG.out 0 (by rw [HN.out]; omega)), Lib.hid (Below.refl _ _)⟩
  case round =>
    clear U0
    obtain ⟨k, rfl, hk1, hk, M, MG, BB⟩ := hrel
    obtain ⟨ma, mc, e, _, _⟩ := M.out.form
    subst e
    by_cases hg : gk = 0
    · subst hg
      obtain rfl : k = n := by omega
      have hdn : decide ((k : Int) < (k : Int)) = false := by simp
      have et : ll.take k = ll := List.take_of_length_le (by rw [HN.out]; exact Nat.le_refl _)
      go_wp2_with fail
      go_ret
      refine ⟨_, rfl, ?_, BB.out⟩
      have hM := M.out
      rw [← et]
      simpa [et] using hM
    · have hkn : k < n := by omega
      have hkI : (k : Int) < (n : Int) := by omega
      have k0 : (0 : Int) ≤ (k : Int) := by omega
      have hgk : 1 ≤ gk := by omega
      have HK := Lib.hid hk
      obtain ⟨b', off', u, e, hb', hx, hu⟩ := H.out.get k hkn
      simp only [Option.some.injEq, Addr.mk.injEq] at e
      obtain ⟨rfl, rfl, _⟩ := e
      have hxr := (BB.out.cell (p := ⟨b, off + k, none⟩) hb).trans hx
      have hnx := minF_take hk1 (by rw [HN.out]; exact hkn : k < ll.length)
      have hgk' := HG.out k (by rw [HN.out]; exact hkn)
      obtain ⟨l, hl⟩ : ∃ l, ll.getD k [] = l := ⟨_, rfl⟩
      rw [hl] at hu hnx hgk'
      obtain ⟨m, hmm⟩ : ∃ m, minF (ll.take k) = m := ⟨_, rfl⟩
      rw [hmm] at M MG hnx ⊢
      obtain ⟨ua, uc, e, _, _⟩ := hu.form
      subst e
      have hcmp : Calls Tryz.prog 180 #[.slice ua l.length uc, .slice ma m.length mc] wr fun e w' => e = .returned (.int .i64 (cmpF l m)) ∧ Below wr.heap.size wr w' := pathCmp_any _ _ l m wr (hu.below BB.out) (M.out.below BB.out) hgk' MG.out (HE.out.below BB.out)
      obtain ⟨c, hcc⟩ : ∃ c, cmpF l m = c := ⟨_, rfl⟩
      have hnx2 : minF (ll.take (k + 1)) = if c < 0 then l else m := by rw [hnx]; unfold minStep; rw [hcc]
      rw [hcc] at hcmp
      have HC := Lib.hid hcmp
      have HNX := Lib.hid hnx2
      have U := Lib.hid hu
      have UG := Lib.hid hgk'
      clear hx hnx hnx2 hcmp hgk' hcc hu hk hg hl hmm
      go_wp2_with fail
      refine HC.out.mono ?_
      rintro e w1 ⟨rfl, hb1⟩
      have B1 := Lib.hid (BB.out.trans (hb1.mono BB.out.size))
      have hxr1 := (hb1.cell (p := ⟨b, off + k, none⟩) (by have := BB.out.size; simp; omega)).trans hxr
      clear hb1
      by_cases hlt : c < 0
      · go_wp2_with fail
        go_roundg (gk - 1)
        case measure => omega
        case rel => exact ⟨k + 1, by go_num, by omega, by have := HK.out; omega, Lib.hid (by rw [HNX.out, if_pos hlt]; exact U.out), Lib.hid (by rw [HNX.out, if_pos hlt]; exact UG.out), B1⟩
      · go_wp2_with fail
        go_roundg (gk - 1)
        case measure => omega
        case rel => exact ⟨k + 1, by go_num, by omega, by have := HK.out; omega, Lib.hid (by rw [HNX.out, if_neg (by omega)]; exact M.out), Lib.hid (by rw [HNX.out, if_neg (by omega)]; exact MG.out), B1⟩
end Go.Proofs.YtnecdeaikmhanaaGreatDoor
namespace Go.Proofs.YtnecdeaikmhanaaGreatDoor
open Go.RowKit Go.Maps
set_option linter.unusedVariables false
set_option maxRecDepth 100000
def RelB (w : World) (B n : Nat) (rs : List (List Int)) : Prop := ∃ (cnt : Nat) (D : DataW Unit), w.ownsMap Tryz.prog 154 (plainElem Tryz.prog 3) B cnt D ∧ Reads D (valTo rs n n 0)
theorem RelB.below {w w' : World} {B n : Nat} {rs : List (List Int)} (h : RelB w B n rs) (hb : Below w.heap.size w w') : RelB w' B n rs := by
  obtain ⟨cnt, D, o1, o2⟩ := h
  exact ⟨cnt, D, ownsMap_below o1 hb, o2⟩
theorem valTo_of {rs : List (List Int)} {n : Nat} {x y : Int} (hx : 1 ≤ x) (hxn : x ≤ n) (hy : 1 ≤ y) (hyn : y ≤ n) : valTo rs n n 0 x y = ofF rs x y := by
  obtain ⟨i, rfl⟩ : ∃ i : Nat, x = (i : Int) + 1 := ⟨(x - 1).toNat, by omega⟩
  obtain ⟨k, rfl⟩ : ∃ k : Nat, y = (k : Int) + 1 := ⟨(y - 1).toNat, by omega⟩
  rw [valTo_all (by omega) (by omega)]
  unfold ofF
  congr 1 <;> omega
set_option maxHeartbeats 2000000 in
theorem of_any (m : Int) (B n : Nat) (rs : List (List Int)) (x y : Int) (w : World) (h : RelB w B n rs) (hn : n ≤ 1000) (hx : 1 ≤ x) (hxn : x ≤ n) (hy : 1 ≤ y) (hyn : y ≤ n) :
    Calls Tryz.prog 141 #[.agg #[.int .i64 m, .map (some B)], .int .i64 x, .int .i64 y] w fun e w' => e = .returned (.int .i64 (ofF rs x y)) ∧ Below w.heap.size w w' := by
  have hlk : ∀ W, RelB W B n rs → (Instr.lookup 118 (.map (some B)) (.agg #[.int .i64 x, .int .i64 y]) false).run Tryz.prog W = .ok (.int .i64 (ofF rs x y)) W := fun W hW => by
    obtain ⟨cnt, D, o1, o2⟩ := hW
    have wx : (Lit.int .i64 x).wf = true := WalkArith.wf_i64 (by omega)
    have wy : (Lit.int .i64 y).wf = true := WalkArith.wf_i64 (by omega)
    obtain ⟨c2, hrun, hat2, _⟩ := o1.lookup_int cp_law Tryz.underlying118 Tryz.underlying3 (cp_zero W) (cp_key wx wy)
    rw [hrun, o2.look wx wy hat2, valTo_of hx hxn hy hyn]
  have hl := hlk _ (h.below (Below.alloc (Below.refl _ _) (Nat.le_refl _) (.cells #[.int .i64 m, .map (some B)] 120)))
  clear hlk h
  go_enter Tryz.func141, Tryz.ntmps141
  go_wp2_with fail
  go_ret
  exact ⟨rfl, by exact bw⟩
set_option maxHeartbeats 4000000 in
theorem exports_any (m : Int) (B n : Nat) (rs : List (List Int)) (x o y : Int) (w : World) (h : RelB w B n rs) (hn : n ≤ 1000) (hx : 1 ≤ x) (hxn : x ≤ n) (ho : 0 ≤ o) (hon : o ≤ n) (hy : 1 ≤ y) (hyn : y ≤ n) :
    Calls Tryz.prog 183 #[.agg #[.int .i64 m, .map (some B)], .int .i64 x, .int .i64 o, .int .i64 y] w fun e w' => e = .returned (.bool (mayF rs x o y)) ∧ Below w.heap.size w w' := by
  have h1 : ∀ W, Below w.heap.size w W → Calls Tryz.prog 141 #[.agg #[.int .i64 m, .map (some B)], .int .i64 x, .int .i64 y] W fun e w' => e = .returned (.int .i64 (ofF rs x y)) ∧ Below W.heap.size W w' := fun W hW => of_any m B n rs x y W (h.below hW) hn hx hxn hy hyn
  have h2 : o ≠ 0 → ∀ W, Below w.heap.size w W → Calls Tryz.prog 141 #[.agg #[.int .i64 m, .map (some B)], .int .i64 x, .int .i64 o] W fun e w' => e = .returned (.int .i64 (ofF rs x o)) ∧ Below W.heap.size W w' := fun h0 W hW => of_any m B n rs x o W (h.below hW) hn hx hxn (by omega) hon
  have hal := Below.alloc (Below.refl w.heap.size w) (Nat.le_refl _) (.cells #[.int .i64 m, .map (some B)] 120)
  have hc0 : ∀ W, Below (w.alloc (.cells #[.int .i64 m, .map (some B)] 120)).heap.size (w.alloc (.cells #[.int .i64 m, .map (some B)] 120)) W → W.cell? ⟨w.heap.size, 0, none⟩ = some (.int .i64 m) ∧ W.cell? ⟨w.heap.size, 1, none⟩ = some (.map (some B)) ∧ Below w.heap.size w W := fun W hW => ⟨(hW.cell (p := ⟨w.heap.size, 0, none⟩) (by simp)).trans (by simp), (hW.cell (p := ⟨w.heap.size, 1, none⟩) (by simp)).trans (by simp), hal.trans (hW.mono (by simp))⟩
  obtain ⟨r, hr⟩ : ∃ r, ofF rs x y = r := ⟨_, rfl⟩
  obtain ⟨s, hs⟩ : ∃ s, ofF rs x o = s := ⟨_, rfl⟩
  rw [hr] at h1
  rw [hs] at h2
  unfold mayF
  rw [hr, hs]
  have H1 := Lib.hid h1
  have H2 := Lib.hid h2
  have HC := Lib.hid hc0
  have HA := Lib.hid hal
  clear h1 h2 h hr hs hc0 hal
  by_cases hr0 : r = 0
  · subst hr0
    go_enter Tryz.func183, Tryz.ntmps183
    go_wp2_with fail
    refine (H1.out _ HA.out).mono ?_
    rintro e w1 ⟨rfl, hb1⟩
    obtain ⟨c0, c1, b1⟩ := HC.out _ hb1
    clear hb1
    go_wp2_with fail
    go_ret
    exact ⟨by simp, b1⟩
  · have hrb : (r != 0) = true := by simp [hr0]
    by_cases ho0 : o = 0
    · subst ho0
      go_enter Tryz.func183, Tryz.ntmps183
      go_wp2_with fail
      refine (H1.out _ HA.out).mono ?_
      rintro e w1 ⟨rfl, hb1⟩
      obtain ⟨c0, c1, b1⟩ := HC.out _ hb1
      clear hb1
      go_wp2_with fail
      go_ret
      exact ⟨by simp [hr0], b1⟩
    · have hob : (o == 0) = false := by simp [ho0]
      by_cases hs1 : s = 1
      · subst hs1
        go_enter Tryz.func183, Tryz.ntmps183
        go_wp2_with fail
        refine (H1.out _ HA.out).mono ?_
        rintro e w1 ⟨rfl, hb1⟩
        obtain ⟨c0, c1, b1⟩ := HC.out _ hb1
        have L1 := Lib.hid hb1
        clear hb1
        go_wp2_with fail
        refine (H2.out ho0 _ b1).mono ?_
        rintro e w2 ⟨rfl, hb2⟩
        have L2 := Lib.hid (L1.out.trans (hb2.mono L1.out.size))
        obtain ⟨d0, d1, b2⟩ := HC.out _ L2.out
        clear hb2 c0 c1
        go_wp2_with fail
        go_ret
        exact ⟨by simp [hr0], b2⟩
      · have hsb : (s == 1) = false := by simp [hs1]
        go_enter Tryz.func183, Tryz.ntmps183
        go_wp2_with fail
        refine (H1.out _ HA.out).mono ?_
        rintro e w1 ⟨rfl, hb1⟩
        obtain ⟨c0, c1, b1⟩ := HC.out _ hb1
        have L1 := Lib.hid hb1
        clear hb1
        go_wp2_with fail
        refine (H2.out ho0 _ b1).mono ?_
        rintro e w2 ⟨rfl, hb2⟩
        have L2 := Lib.hid (L1.out.trans (hb2.mono L1.out.size))
        obtain ⟨d0, d1, b2⟩ := HC.out _ L2.out
        clear hb2 c0 c1
        go_wp2_with fail
        refine (H1.out _ b2).mono ?_
        rintro e w3 ⟨rfl, hb3⟩
        have L3 := Lib.hid (L2.out.trans (hb3.mono L2.out.size))
        obtain ⟨e0, e1, b3⟩ := HC.out _ L3.out
        clear hb3 d0 d1
        go_wp2_with fail
        go_ret
        exact ⟨by by_cases h : r = 1 <;> simp [hr0, ho0, hs1, h], b3⟩
end Go.Proofs.YtnecdeaikmhanaaGreatDoor
namespace Go.Proofs.YtnecdeaikmhanaaGreatDoor
open Go.RowKit Go.Maps
set_option linter.unusedVariables false
set_option maxRecDepth 100000
theorem annB_empty {rs ways : List (List Int)} {house rel : Int} {k : Nat} (h : ways.getD k [] = []) : annB rs ways house rel k = false := by
  unfold annB tellsF
  rw [h]
  simp
theorem annB_rel {rs ways : List (List Int)} {house rel : Int} {k : Nat} (h : ofF rs house ((k : Int) + 1) ≠ rel) : annB rs ways house rel k = false := by
  unfold annB
  rw [decide_eq_false h, Bool.false_and]
theorem annB_in {rs ways : List (List Int)} {house rel : Int} {k : Nat} (h : house ∈ ways.getD k []) : annB rs ways house rel k = false := by
  unfold annB tellsF
  rw [decide_eq_true h]
  simp
theorem annB_may {rs ways : List (List Int)} {house rel : Int} {k : Nat} (h0 : ways.getD k [] ≠ []) (h : ofF rs house ((k : Int) + 1) = rel) (hn : house ∉ ways.getD k []) : annB rs ways house rel k = mayF rs ((k : Int) + 1) (if 1 < (ways.getD k []).length then (ways.getD k []).getD 1 0 else 0) house := by
  unfold annB tellsF
  rw [decide_eq_true h, decide_eq_false hn, decide_eq_true h0]
  simp
set_option maxHeartbeats 8000000 in
theorem announced_any (w0 : World) (N B G n L : Nat) (rs ways : List (List Int)) (home house rel : Int) (w : World) (S : NetS w0 w N B G rs ways n home) (hW : Ways31 ways n L) (hn : n ≤ 1000) (hh1 : 1 ≤ house) (hhn : house ≤ n) :
    Calls Tryz.prog 177 #[.pointer (some ⟨N, 0, none⟩), .int .i64 house, .int .i64 rel] w fun e w' => ∃ v', e = .returned v' ∧ RowsM w w' v' (annF rs ways house rel n) ∧ Below w.heap.size w w' := by
  have hrel : RelB w B n rs := S.own
  have hof : ∀ W, Below w.heap.size w W → ∀ k : Nat, k < n → Calls Tryz.prog 141 #[.agg #[.int .i64 (n : Int), .map (some B)], .int .i64 house, .int .i64 ((k : Int) + 1)] W fun e w' => e = .returned (.int .i64 (ofF rs house ((k : Int) + 1))) ∧ Below W.heap.size W w' := fun W hb k hk => of_any n B n rs house _ W (hrel.below hb) hn hh1 hhn (by omega) (by omega)
  have hex : ∀ W, Below w.heap.size w W → ∀ k : Nat, k < n → ∀ o : Int, 0 ≤ o → o ≤ n → Calls Tryz.prog 183 #[.agg #[.int .i64 (n : Int), .map (some B)], .int .i64 ((k : Int) + 1), .int .i64 o, .int .i64 house] W fun e w' => e = .returned (.bool (mayF rs ((k : Int) + 1) o house)) ∧ Below W.heap.size W w' := fun W hb k hk o h0 h1 => exports_any n B n rs _ o house W (hrel.below hb) hn (by omega) (by omega) h0 h1 hh1 hhn
  have hcell : ∀ W, Below w.heap.size w W → W.cell? ⟨N, 0, none⟩ = some (.int .i64 (n : Int)) ∧ W.cell? ⟨N, 1, none⟩ = some (.map (some B)) ∧ W.cell? ⟨N, 3, none⟩ = some (.slice (some ⟨G, 0, none⟩) n n) := fun W hb => ⟨(S.below hb).c0, (S.below hb).c1, (S.below hb).c3⟩
  have HS := Lib.hid S.rows.rows
  have HOF := Lib.hid hof
  have HEX := Lib.hid hex
  have HCE := Lib.hid hcell
  have HW := Lib.hid hW
  obtain ⟨e0, e1, e3⟩ := hcell w (Below.refl _ _)
  clear hof hex hcell hW S hrel e0 e1
  go_enter Tryz.func177, Tryz.ntmps177
  go_wp2_with fail
  clear e3
  go_loopg [7, 16] n (fun gk s7 s16 wr => ∃ k : Nat, s16 = .int .i64 (k : Int) ∧ k + gk = n ∧ Hid (RowsM w wr s7 (annF rs ways house rel k)) ∧ Hid (Below w.heap.size w wr))
  case atStart => exact ⟨0, rfl, by omega, Lib.hid (by rw [annF_zero]; exact RowsM.nil _ _), Lib.hid (Below.refl _ _)⟩
  case round =>
    obtain ⟨k, rfl, hk, O, BB⟩ := hrel
    obtain ⟨oa, oc, e, _, _⟩ := O.out.form
    subst e
    by_cases hg : gk = 0
    · subst hg
      obtain rfl : k = n := by omega
      have hdn : decide ((k : Int) < (k : Int)) = false := by simp
      go_wp2_with fail
      go_ret
      exact ⟨_, rfl, O.out, BB.out⟩
    · have hkn : k < n := by omega
      have hkI : (k : Int) < (n : Int) := by omega
      have k0 : (0 : Int) ≤ (k : Int) := by omega
      have hgk : 1 ≤ gk := by omega
      have HK := Lib.hid hk
      have hwx : IntKind.i64.wrap ((k : Int) + 1) = (k : Int) + 1 := IntWalk.i64_in _ (by omega)
      obtain ⟨b, off, u, e, hb, hx, hu⟩ := HS.out.get k hkn
      simp only [Option.some.injEq, Addr.mk.injEq] at e
      obtain ⟨rfl, rfl, _⟩ := e
      rw [Nat.zero_add] at hx
      have hxr := (BB.out.cell (p := ⟨G, k, none⟩) hb).trans hx
      obtain ⟨c0, c1, c3⟩ := HCE.out wr BB.out
      obtain ⟨way, hway⟩ : ∃ p, ways.getD k [] = p := ⟨_, rfl⟩
      have hin := HW.out.inn k hkn
      rw [hway] at hu hin
      obtain ⟨ua, uc, e, huc, hum⟩ := hu.form
      subst e
      obtain ⟨m, hm⟩ : ∃ m, way.length = m := ⟨_, rfl⟩
      rw [hm] at hu huc hxr
      have hal := annF_len rs ways house rel k
      have hann : annF rs ways house rel (k + 1) = annF rs ways house rel k ++ (if annB rs ways house rel k then [way] else []) := by
        cases hbb : annB rs ways house rel k
        · rw [annF_no hbb]; simp
        · rw [annF_yes hbb, hway]; rfl
      obtain ⟨q, hq⟩ : ∃ q, (annF rs ways house rel k).length = q := ⟨_, rfl⟩
      rw [hq] at hal ⊢
      have HQ := Lib.hid hq
      have HANN := Lib.hid hann
      have U := Lib.hid hu
      have UR := Lib.hid (hu.below BB.out)
      have HIN := Lib.hid hin
      have HWA := Lib.hid hway
      have HM := Lib.hid hm
      clear hx hk hg hu hin hway hann hq hm
      by_cases hm0 : m = 0
      · subst hm0
        have hno : annB rs ways house rel k = false := annB_empty (by rw [HWA.out]; exact List.length_eq_zero_iff.1 HM.out)
        go_wp2_with fail
        go_roundg (gk - 1)
        case measure => omega
        case rel => exact ⟨k + 1, by go_num, by have := HK.out; omega, Lib.hid (by rw [HANN.out, hno]; simpa using (by have := O.out; rw [HQ.out] at this; exact this)), BB⟩
      · have hmb : ((m : Int) == 0) = false := by simp [hm0]
        have hne : Hid (ways.getD k [] ≠ []) := Lib.hid (by rw [HWA.out]; intro e; apply hm0; rw [← HM.out, e]; rfl)
        obtain ⟨z, hz⟩ : ∃ z, ofF rs house ((k : Int) + 1) = z := ⟨_, rfl⟩
        have HC1 := Lib.hid (HOF.out wr BB.out k hkn)
        rw [hz] at HC1
        have HZ := Lib.hid hz
        clear hz
        by_cases hzr : z = rel
        · subst hzr
          have hzb : (z != z) = false := by simp
          have HCO := Lib.hid (fun W hW => contains_any (.slice ua m uc) way house W (U.out.below hW))
          by_cases hmem : house ∈ way
          · have hno : Hid (annB rs ways house z k = false) := Lib.hid (annB_in (by rw [HWA.out]; exact hmem))
            rw [decide_eq_true hmem] at HCO
            clear hmem
            go_wp2_with fail
            refine HC1.out.mono ?_
            rintro e w1 ⟨rfl, hb1⟩
            have B1 := Lib.hid (BB.out.trans (hb1.mono BB.out.size))
            have O1 := Lib.hid (O.out.below hb1)
            clear hb1
            go_wp2_with fail
            refine (HCO.out _ B1.out).mono ?_
            rintro e w2 ⟨rfl, rfl⟩
            go_wp2_with fail
            go_roundg (gk - 1)
            case measure => omega
            case rel => exact ⟨k + 1, by go_num, by have := HK.out; omega, Lib.hid (by rw [HANN.out, hno.out]; simpa using (by have := O1.out; rw [HQ.out] at this; exact this)), B1⟩
          · rw [decide_eq_false hmem] at HCO
            have hmay : annB rs ways house z k = mayF rs ((k : Int) + 1) (if 1 < m then way.getD 1 0 else 0) house := by
              have := annB_may (rs := rs) (ways := ways) (house := house) (rel := z) (k := k) hne.out HZ.out (by rw [HWA.out]; exact hmem)
              rw [HWA.out, HM.out] at this
              exact this
            have ho : 0 ≤ (if 1 < m then way.getD 1 0 else 0) ∧ (if 1 < m then way.getD 1 0 else 0) ≤ (n : Int) := by
              by_cases h1 : 1 < m
              · rw [if_pos h1, List.getD_eq_getElem?_getD, List.getElem?_eq_getElem (by rw [HM.out]; exact h1)]
                have := HIN.out _ (List.getElem_mem (by rw [HM.out]; exact h1 : 1 < way.length))
                simp only [Option.getD_some]
                omega
              · rw [if_neg h1]; omega
            obtain ⟨bb, hbb⟩ : ∃ b, annB rs ways house z k = b := ⟨_, rfl⟩
            rw [hbb] at hmay HANN
            have HXX : ∀ o : Int, (if 1 < m then way.getD 1 0 else 0) = o → Hid (∀ W, Below w.heap.size w W → Calls Tryz.prog 183 #[.agg #[.int .i64 (n : Int), .map (some B)], .int .i64 ((k : Int) + 1), .int .i64 o, .int .i64 house] W fun e w' => e = .returned (.bool bb) ∧ Below W.heap.size W w') := fun o he => Lib.hid fun W hW => by
              rw [he] at ho hmay
              rw [hmay]; exact HEX.out W hW k hkn o ho.1 ho.2
            clear hmay ho hmem hbb
            have fin : ∀ W1 : World, Hid (Below w.heap.size w W1) → Hid (RowsM w W1 (.slice oa q oc) (annF rs ways house z k)) → bb = false → Hid (RowsM w W1 (.slice oa q oc) (annF rs ways house z (k + 1))) := fun W1 _ h2 h3 => Lib.hid (by rw [HANN.out, h3]; simpa using h2.out)
            have FIN := Lib.hid fin
            clear fin
            have O' : Hid (RowsM w wr (.slice oa q oc) (annF rs ways house z k)) := Lib.hid (by have := O.out; rw [HQ.out] at this; exact this)
            clear O
            by_cases h1 : 1 < m
            · have h1I : (1 : Int) < (m : Int) := by omega
              obtain ⟨b2, off2, rfl, hb2, hy⟩ := U.out.get 1 h1
              obtain ⟨o, ho⟩ : ∃ o, way.getD 1 0 = o := ⟨_, rfl⟩
              rw [ho] at hy
              have HX := HXX o (by rw [if_pos h1]; exact ho)
              have hYY := Lib.hid (fun W (hW : Below w.heap.size w W) => (hW.cell (p := ⟨b2, off2 + 1, none⟩) hb2).trans hy)
              clear HXX ho hy
              go_wp2_with fail
              refine HC1.out.mono ?_
              rintro e w1 ⟨rfl, hb1⟩
              have B1 := Lib.hid (BB.out.trans (hb1.mono BB.out.size))
              have O1 := Lib.hid (O'.out.below hb1)
              clear hb1
              go_wp2_with fail
              refine (HCO.out _ B1.out).mono ?_
              rintro e w2 ⟨rfl, rfl⟩
              have y1 := hYY.out w2 B1.out
              obtain ⟨d0, d1, d3⟩ := HCE.out w2 B1.out
              go_wp2_with fail
              refine (HX.out _ B1.out).mono ?_
              rintro e w3 ⟨rfl, hb3⟩
              have B3 := Lib.hid (B1.out.trans (hb3.mono B1.out.size))
              have O3 := Lib.hid (O1.out.below hb3)
              clear hb3
              cases bb
              · go_wp2_with fail
                go_roundg (gk - 1)
                case measure => omega
                case rel => exact ⟨k + 1, by go_num, by have := HK.out; omega, FIN.out w3 B3 O3 trivial, B3⟩
              · have hB3 := B3.out.size
                go_wp2_with (at_builtin; refine wpList_append_rowM rfl (.tmp 56) (.tmp 58) rfl w _ _ _ way q HQ.out rfl O3.out hB3 _ rfl rfl U.out (by omega) ?_; intro ad c w4 hR4 hb4; have R4 := Lib.hid hR4; have B4 := Lib.hid (B3.out.trans hb4); clear hR4 hb4)
                go_roundg (gk - 1)
                case measure => omega
                case rel => exact ⟨k + 1, by go_num, by have := HK.out; omega, Lib.hid (by rw [HANN.out]; exact R4.out), B4⟩
            · have h1I : ¬ (1 : Int) < (m : Int) := by omega
              have h1d : decide ((1 : Int) < (m : Int)) = false := decide_eq_false h1I
              have HX := HXX 0 (by rw [if_neg h1])
              clear HXX
              go_wp2_with fail
              refine HC1.out.mono ?_
              rintro e w1 ⟨rfl, hb1⟩
              have B1 := Lib.hid (BB.out.trans (hb1.mono BB.out.size))
              have O1 := Lib.hid (O'.out.below hb1)
              clear hb1
              go_wp2_with fail
              refine (HCO.out _ B1.out).mono ?_
              rintro e w2 ⟨rfl, rfl⟩
              obtain ⟨d0, d1, d3⟩ := HCE.out w2 B1.out
              go_wp2_with fail
              refine (HX.out _ B1.out).mono ?_
              rintro e w3 ⟨rfl, hb3⟩
              have B3 := Lib.hid (B1.out.trans (hb3.mono B1.out.size))
              have O3 := Lib.hid (O1.out.below hb3)
              clear hb3
              cases bb
              · go_wp2_with fail
                go_roundg (gk - 1)
                case measure => omega
                case rel => exact ⟨k + 1, by go_num, by have := HK.out; omega, FIN.out w3 B3 O3 trivial, B3⟩
              · have hB3 := B3.out.size
                go_wp2_with (at_builtin; refine wpList_append_rowM rfl (.tmp 56) (.tmp 58) rfl w _ _ _ way q HQ.out rfl O3.out hB3 _ rfl rfl U.out (by omega) ?_; intro ad c w4 hR4 hb4; have R4 := Lib.hid hR4; have B4 := Lib.hid (B3.out.trans hb4); clear hR4 hb4)
                go_roundg (gk - 1)
                case measure => omega
                case rel => exact ⟨k + 1, by go_num, by have := HK.out; omega, Lib.hid (by rw [HANN.out]; exact R4.out), B4⟩
        · have hzb : (z != rel) = true := by simp [hzr]
          have hno : Hid (annB rs ways house rel k = false) := Lib.hid (annB_rel (by rw [HZ.out]; exact hzr))
          clear hzr
          go_wp2_with fail
          refine HC1.out.mono ?_
          rintro e w1 ⟨rfl, hb1⟩
          have B1 := Lib.hid (BB.out.trans (hb1.mono BB.out.size))
          have O1 := Lib.hid (O.out.below hb1)
          clear hb1
          go_wp2_with fail
          go_roundg (gk - 1)
          case measure => omega
          case rel => exact ⟨k + 1, by go_num, by have := HK.out; omega, Lib.hid (by rw [HANN.out, hno.out]; simpa using (by have := O1.out; rw [HQ.out] at this; exact this)), B1⟩
end Go.Proofs.YtnecdeaikmhanaaGreatDoor
namespace Go.Proofs.YtnecdeaikmhanaaGreatDoor
open Go.RowKit Go.Maps
set_option linter.unusedVariables false
set_option maxRecDepth 100000
theorem rows_two {w : World} {u1 u2 : Value} {l1 l2 : List Int} (h1 : IntsAt w u1 l1) (h2 : IntsAt w u2 l2) : RowsAt (w.alloc (.cells #[u1, u2] 37)) (.slice (some ⟨w.heap.size, 0, none⟩) 2 2) [l1, l2] := by
  have hA := Below.alloc (Below.refl w.heap.size w) (Nat.le_refl _) (.cells #[u1, u2] 37)
  refine ⟨fun i => if i = 0 then u1 else u2, ⟨_, _, rfl, Nat.le_refl _, by unfold maxLen; simp, .inr ⟨w.heap.size, 0, rfl, by simp, fun i hi => ?_⟩⟩, fun i hi => ?_⟩
  · rw [Nat.zero_add, cell_of_row _ _ _ #[u1, u2] 37 (0, 0) (heap_alloc_new w _)]
    match i, hi with
    | 0, _ => rfl
    | 1, _ => rfl
  · match i, hi with
    | 0, _ => exact h1.below hA
    | 1, _ => exact h2.below hA
def WPickPost (rs ways : List (List Int)) (home house : Int) (w : World) (e : Ending) (w' : World) : Prop := ∃ v', e = .returned v' ∧ OwnInts w' w.heap.size v' (pick31 rs ways home house) ∧ Below w.heap.size w w'
theorem wpick_of {rs ways : List (List Int)} {home house : Int} {w w' : World} {v' : Value} {l : List Int} (ho : OwnInts w' w.heap.size v' l) (hb : Below w.heap.size w w') (h : pick31 rs ways home house = l) : WPickPost rs ways home house w (.returned v') w' := ⟨v', rfl, by rw [h]; exact ho, hb⟩
set_option maxHeartbeats 8000000 in
theorem pick_way (w0 : World) (N B G n L : Nat) (rs ways : List (List Int)) (home house : Int) (w : World) (S : NetS w0 w N B G rs ways n home) (hr : rs.length = n) (hW : Ways31 ways n L) (hGd : Good31 ways n) (hL : L ≤ 500) (hn : n ≤ 5) (hh1 : 1 ≤ house) (hhn : house ≤ n) :
    Calls Tryz.prog 156 #[.pointer (some ⟨N, 0, none⟩), .int .i64 house] w (WPickPost rs ways home house w) := by
  by_cases hho : house = home
  · subst hho
    have c2 := S.c2
    clear S
    go_enter Tryz.func156, Tryz.ntmps156
    go_wp2_with fail
    go_ret
    exact wpick_of (OwnInts.one w house) bw (pick31_home _ _ _)
  · have hhb : (house == home) = false := by simp [hho]
    have c2 := S.c2
    have han : ∀ W, Below w.heap.size w W → ∀ r : Int, Calls Tryz.prog 177 #[.pointer (some ⟨N, 0, none⟩), .int .i64 house, .int .i64 r] W fun e w' => ∃ v', e = .returned v' ∧ RowsM W w' v' (annF rs ways house r n) ∧ Below W.heap.size W w' := fun W hb r => announced_any w0 N B G n L rs ways home house r W (S.below hb) hW (by omega) hh1 hhn
    have hgood : ∀ r : Int, ∀ i, i < (annF rs ways house r n).length → GoodP ((annF rs ways house r n).getD i []) ∧ ((annF rs ways house r n).getD i []).length ≤ 500 := fun r i hi => by
      rw [List.getD_eq_getElem?_getD, List.getElem?_eq_getElem hi]
      obtain ⟨b, hb, _, e⟩ := annF_mem (List.getElem_mem hi)
      simp only [Option.getD_some]
      rw [e]
      exact ⟨goodP_of (fun z hz => by have := hW.inn b hb z hz; omega) (hGd b hb), by have := hW.short b hb; omega⟩
    have hat : ∀ r : Nat, 1 ≤ r → r ≤ 3 → (∀ j : Nat, 1 ≤ j → j < r → annF rs ways house j n = []) → annF rs ways house r n ≠ [] → pick31 rs ways home house = house :: minF (annF rs ways house r n) := fun r h1 h3 hlow hne => by
      rw [pick31_at hho h1 h3 (fun j a b => by rw [row31_ann hr, if_pos (hlow j a b)]) (by rw [row31_ann hr, if_neg hne]; simp), row31_ann hr, if_neg hne]
    have hnone : (∀ j : Nat, 1 ≤ j → j < 4 → annF rs ways house j n = []) → pick31 rs ways home house = [] := fun h => pick31_none hho (fun j a b => by rw [row31_ann hr, if_pos (h j a b)])
    have HAN := Lib.hid han
    have HGO := Lib.hid hgood
    have HAT := Lib.hid hat
    have HNO := Lib.hid hnone
    have HE := Lib.hid S.err
    obtain ⟨P, hP⟩ : ∃ P, pick31 rs ways home house = P := ⟨_, rfl⟩
    rw [hP] at HAT HNO
    have HP := Lib.hid hP
    clear han hgood hat hnone hP S hGd hW hho hr
    go_enter Tryz.func156, Tryz.ntmps156
    go_wp2_with fail
    clear c2
    go_loopg [18] 3 (fun gk s18 wr => ∃ k : Nat, s18 = .int .i64 (k : Int) ∧ k + gk = 3 ∧ Hid (∀ j : Nat, 1 ≤ j → j < k + 1 → annF rs ways house j n = []) ∧ Hid (Below (w.heap.size + 1) (w.alloc (.cells #[.int .i64 1, .int .i64 2, .int .i64 3] 3)) wr))
    case atStart => exact ⟨0, rfl, by omega, Lib.hid fun j h1 h2 => by omega, Lib.hid (Below.refl _ _)⟩
    case round =>
      obtain ⟨k, rfl, hk, HL, BB⟩ := hrel
      have hsz : (w.alloc (.cells #[.int .i64 1, .int .i64 2, .int .i64 3] 3)).heap.size = w.heap.size + 1 := World.size_alloc _ _
      have BW : Hid (Below w.heap.size w wr) := Lib.hid ((Below.alloc (Below.refl _ _) (Nat.le_refl _) _ : Below w.heap.size w (w.alloc (.cells #[.int .i64 1, .int .i64 2, .int .i64 3] 3))).trans (BB.out.mono (by omega)))
      by_cases hg : gk = 0
      · subst hg
        obtain rfl : k = 3 := by omega
        have e := HNO.out HL.out
        go_wp2_with fail
        go_ret
        exact wpick_of (OwnInts.nil _ _) BW.out (HP.out.trans e)
      · have hgk : 1 ≤ gk := by omega
        have hcells : wr.cell? ⟨w.heap.size, k, none⟩ = some (.int .i64 ((k : Int) + 1)) := by
          refine (BB.out.cell (p := ⟨w.heap.size, k, none⟩) (by simp)).trans ?_
          have : k = 0 ∨ k = 1 ∨ k = 2 := by omega
          rcases this with rfl | rfl | rfl <;> simp
        have hkI : (k : Int) < 3 := by omega
        have hk3 : k < 3 := by omega
        have k0 : (0 : Int) ≤ (k : Int) := by omega
        have HK := Lib.hid hk
        obtain ⟨r, hr⟩ : ∃ r : Nat, r = k + 1 := ⟨_, rfl⟩
        have hrI : (k : Int) + 1 = (r : Int) := by omega
        have hwx : IntKind.i64.wrap ((k : Int) + 1) = (k : Int) + 1 := IntWalk.i64_in _ (by omega)
        have HC := Lib.hid (HAN.out wr BW.out ((k : Int) + 1))
        have HR := Lib.hid hr
        have HRI := Lib.hid hrI
        clear hk hg hsz hr hrI
        go_wp2_with fail
        refine HC.out.mono ?_
        rintro e w1 ⟨v1, rfl, hR1, hb1⟩
        obtain ⟨ra, rc, e, hrc, hrm⟩ := hR1.form
        subst e
        have R1 := Lib.hid (hR1.rows hb1)
        have B1 := Lib.hid (BB.out.trans (hb1.mono (by have := BB.out.size; simp at this; omega)))
        have BW1 := Lib.hid (BW.out.trans (hb1.mono BW.out.size))
        have hg1 := HGO.out ((k : Int) + 1)
        have hat1 : annF rs ways house ((k : Int) + 1) n ≠ [] → P = house :: minF (annF rs ways house ((k : Int) + 1) n) := by
          rw [HRI.out]
          intro hne
          exact HAT.out r (by have := HR.out; omega) (by have := HR.out; omega) (fun j a b => HL.out j a (by have := HR.out; omega)) hne
        have hlow : annF rs ways house ((k : Int) + 1) n = [] → ∀ j : Nat, 1 ≤ j → j < k + 1 + 1 → annF rs ways house j n = [] := fun he j a b => by
          by_cases hj : j = k + 1
          · subst hj; have e2 : ((k + 1 : Nat) : Int) = (k : Int) + 1 := by omega
            rw [e2]; exact he
          · exact HL.out j a (by omega)
        obtain ⟨ann, hann⟩ : ∃ l, annF rs ways house ((k : Int) + 1) n = l := ⟨_, rfl⟩
        rw [hann] at R1 hg1 hat1 hlow hrc ⊢
        obtain ⟨m, hm⟩ : ∃ m, ann.length = m := ⟨_, rfl⟩
        rw [hm] at R1 hrc ⊢
        have HG1 := Lib.hid hg1
        have HA1 := Lib.hid hat1
        have HLO := Lib.hid hlow
        have HM := Lib.hid hm
        clear hR1 hb1 hg1 hat1 hlow hann hm
        by_cases hm0 : m = 0
        · subst hm0
          have he : ann = [] := List.length_eq_zero_iff.1 HM.out
          go_wp2_with fail
          go_roundg (gk - 1)
          case measure => omega
          case rel => exact ⟨k + 1, by go_num, by have := HK.out; omega, Lib.hid (HLO.out he), B1⟩
        · have hmI : (0 : Int) < (m : Int) := by omega
          have hne : ann ≠ [] := by intro e; apply hm0; rw [← HM.out, e]; rfl
          have hmin := minF_in hne
          obtain ⟨i, hi, hie⟩ := List.mem_iff_getElem.1 hmin
          have hml : (minF ann).length ≤ 500 := by
            have := (HG1.out i hi).2
            rw [List.getD_eq_getElem?_getD, List.getElem?_eq_getElem hi, Option.getD_some, hie] at this
            exact this
          have hbx := Below.alloc (Below.refl w1.heap.size w1) (Nat.le_refl _) (.cells #[.int .i64 house] 3)
          have HMF := Lib.hid (minFunc_any (.slice ra m rc) ann _ (R1.out.below hbx) hne (fun i hi => (HG1.out i hi).1) ((HE.out.below BW1.out).below hbx))
          have O1 := Lib.hid (OwnInts.one w1 house)
          have BA := Lib.hid hbx
          have HML := Lib.hid hml
          have HPE := Lib.hid (HA1.out hne)
          clear hmin hi hie hml hbx hne
          go_wp2_with fail
          refine HMF.out.mono ?_
          rintro e w2 ⟨v2, rfl, hI2, hb2⟩
          obtain ⟨va2, vc2, e, _, _⟩ := hI2.form
          subst e
          have I2 := Lib.hid (hI2.below hb2)
          have O2 := Lib.hid (O1.out.ints.below hb2)
          have B2 := Lib.hid (BW1.out.trans ((BA.out.trans (hb2.mono BA.out.size)).mono BW1.out.size))
          have HCC := Lib.hid (slConcatI_any _ [house] (minF ann) _ (rows_two O2.out I2.out) (by simp) (by have := HML.out; omega))
          clear hI2 hb2
          go_wp2_with fail
          refine HCC.out.mono ?_
          rintro e w3 ⟨v3, rfl, hO3, hb3⟩
          have hs2 := B2.out.size
          have O3 := Lib.hid (hO3.lift (show w.heap.size ≤ _ by simp; omega))
          have B3 := Lib.hid ((Below.alloc B2.out hs2 (.cells #[.slice (some ⟨w1.heap.size, 0, none⟩) 1 1, .slice va2 (minF ann).length vc2] 37)).trans (hb3.mono (by simp; omega)))
          clear hO3 hb3
          go_wp2_with fail
          go_ret
          exact wpick_of O3.out B3.out (HP.out.trans HPE.out)
end Go.Proofs.YtnecdeaikmhanaaGreatDoor
