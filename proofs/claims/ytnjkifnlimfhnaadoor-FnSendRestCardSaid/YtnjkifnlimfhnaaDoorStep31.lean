/- spec.l31None, l31Step: nets of ways. spec.l31End: where a net comes to. -/
import Derived.Test.YtnjkifnlimfhnaaDoorPick31
namespace Go.Proofs.YtnjkifnlimfhnaaDoor
open Go.RowKit
set_option linter.unusedVariables false

def none31 (n : Nat) (home : Int) : List (List Int) := (List.range n).map fun i => if ((i : Nat) : Int) + 1 = home then [home] else []
def net31 (rs ways : List (List Int)) (home house : Int) (n : Nat) : List (List Int) := (List.range n).map fun i => if ((i : Nat) : Int) + 1 = house then pick31 rs ways home house else ways.getD i []
theorem map_range_getD {α : Type} (f : Nat → List α) (n i : Nat) (hi : i < n) : ((List.range n).map f).getD i [] = f i := by simp [hi]
theorem map_range_succ {α : Type} (f : Nat → α) (n : Nat) : (List.range (n + 1)).map f = (List.range n).map f ++ [f n] := by rw [List.range_succ, List.map_append]; rfl
/-- every house but home has no way, or one of two houses at least -/
def Far31 (ways : List (List Int)) (home : Int) (n : Nat) : Prop := ∀ i : Nat, i < n → (i : Int) + 1 ≠ home → ways.getD i [] = [] ∨ 2 ≤ (ways.getD i []).length
theorem none31_ways (n L : Nat) (home : Int) (hL : 1 ≤ L) : Ways31 (none31 n home) n L := by
  refine ⟨by simp [none31], fun i hi z hz => ?_, fun i hi => ?_⟩
  · unfold none31 at hz
    rw [map_range_getD _ _ _ hi] at hz
    split at hz
    · simp at hz; omega
    · simp at hz
  · unfold none31
    rw [map_range_getD _ _ _ hi]
    split <;> simp <;> omega
theorem none31_far (n : Nat) (home : Int) : Far31 (none31 n home) home n := fun i hi hne => by
  unfold none31
  rw [map_range_getD _ _ _ hi, if_neg hne]
  exact .inl rfl
theorem net31_ways {rs ways : List (List Int)} {n L : Nat} {home house : Int} (hq : rs.length = n) (h : Ways31 ways n L) (h1 : 1 ≤ house) (hn : house ≤ n) : Ways31 (net31 rs ways home house n) n (L + 1) := by
  refine ⟨by simp [net31], fun i hi z hz => ?_, fun i hi => ?_⟩
  · unfold net31 at hz
    rw [map_range_getD _ _ _ hi] at hz
    split at hz
    · by_cases hh : house = home
      · subst hh
        rw [pick31_home] at hz
        simp at hz; omega
      · rcases pick31_picked rs ways hh with e | ⟨b, hb, _, e⟩
        · rw [e] at hz; simp at hz
        · rw [e] at hz
          rcases List.mem_cons.1 hz with rfl | hz
          · omega
          · exact h.inn b (by omega) z hz
    · exact h.inn i hi z hz
  · unfold net31
    rw [map_range_getD _ _ _ hi]
    split
    · by_cases hh : house = home
      · subst hh
        rw [pick31_home]
        simp
      · rcases pick31_picked rs ways hh with e | ⟨b, hb, _, e⟩
        · rw [e]; simp
        · rw [e, List.length_cons]; have := h.short b (by omega); omega
    · have := h.short i hi; omega
theorem net31_far {rs ways : List (List Int)} {n : Nat} {home house : Int} (h : Far31 ways home n) : Far31 (net31 rs ways home house n) home n := fun i hi hne => by
  unfold net31
  rw [map_range_getD _ _ _ hi]
  split
  · rename_i hh
    rcases pick31_picked rs ways (home := home) (house := house) (by omega) with e | ⟨b, hb, hbn, e⟩
    · exact .inl e
    · right
      rw [e, List.length_cons]
      have : (ways.getD b []).length ≠ 0 := fun e => hbn (List.length_eq_zero_iff.1 e)
      omega
  · exact h i hi hne
set_option maxRecDepth 100000 in
set_option maxHeartbeats 4000000 in
theorem l31None_any (v : Value) (rs : List (List Int)) (n : Nat) (home : Int) (w : World) (hv : RowsAt w v rs) (hl : rs.length = n) (hn : n ≤ 1000) :
    Calls Tryd.prog 45 #[v, .int .i64 home] w fun e w' => ∃ v', e = .returned v' ∧ RowsL w' w.heap.size v' (none31 n home) ∧ Below w.heap.size w w' := by
  obtain ⟨a, cap, rfl, hc, hm⟩ := hv.form
  rw [hl] at hc ⊢
  clear hv hl rs
  go_enter Tryd.func45, Tryd.ntmps45
  go_wp2_with fail
  go_loopg [5, 6] n (fun gk s5 s6 wr => ∃ i : Nat, s6 = .int .i64 ((i : Int) + 1) ∧ i + gk = n ∧ Hid (RowsL wr w.heap.size s5 (none31 i home)) ∧ Hid (Below w.heap.size w wr))
  case atStart => exact ⟨0, by go_num, by omega, Lib.hid (RowsL.zero w), Lib.hid (Below.alloc (Below.refl _ _) (Nat.le_refl _) _)⟩
  case round =>
    obtain ⟨i, rfl, hi, O, BB⟩ := hrel
    obtain ⟨oa, oc, e, hoc, hocm⟩ := O.out.form
    subst e
    have hlen : (none31 i home).length = i := by simp [none31]
    rw [hlen] at hoc O ⊢
    have HL := Lib.hid hlen
    clear hlen
    have hswr : w.heap.size ≤ wr.heap.size := BB.out.size
    by_cases hg : gk = 0
    · subst hg
      obtain rfl : i = n := by omega
      have hdn : ¬ (i : Int) + 1 ≤ (i : Int) := by omega
      go_wp2_with fail
      go_ret
      exact ⟨_, rfl, O.out, BB.out⟩
    · have hin : (i : Int) + 1 ≤ (n : Int) := by omega
      have hgk : 1 ≤ gk := by omega
      have hnx : none31 (i + 1) home = none31 i home ++ [if (i : Int) + 1 = home then [home] else []] := map_range_succ _ _
      have HNX := Lib.hid hnx
      clear hnx
      by_cases hh : (i : Int) + 1 = home
      · have HH := Lib.hid hh
        have hhb : ((i : Int) + 1 == home) = true := by simp [hh]
        have HI1 := Lib.hid ((OwnInts.one wr home).lift hswr)
        have hA := Below.alloc (Below.refl wr.heap.size wr) (Nat.le_refl _) (.cells #[.int .i64 home] 3)
        have O1 := Lib.hid (O.out.below hA)
        have B1 := Lib.hid (BB.out.trans (hA.mono hswr))
        clear hA hh
        go_wp2_with (at_builtin; refine wpList_append_row rfl (.tmp 17) (.tmp 20) rfl w.heap.size _ _ _ [home] i HL.out rfl O1.out (by simp; omega) _ rfl (by simp) HI1.out ⟨_, _, _, rfl⟩ (by omega) ?_; intro ad c w2 hR2 hb2 hs2; have R2 := Lib.hid hR2; have B2 := Lib.hid (B1.out.trans hb2); clear hR2 hb2)
        go_roundg (gk - 1)
        case measure => omega
        case rel => exact ⟨i + 1, by go_num, by omega, Lib.hid (by rw [HNX.out, if_pos HH.out]; exact R2.out), B2⟩
      · have HH := Lib.hid hh
        have hhb : ((i : Int) + 1 == home) = false := by simp [hh]
        have HI1 := Lib.hid ((OwnInts.zero wr).lift hswr)
        have hA := Below.alloc (Below.refl wr.heap.size wr) (Nat.le_refl _) (.cells #[] 3)
        have O1 := Lib.hid (O.out.below hA)
        have B1 := Lib.hid (BB.out.trans (hA.mono hswr))
        clear hA hh
        go_wp2_with (at_builtin; refine wpList_append_row rfl (.tmp 22) (.tmp 24) rfl w.heap.size _ _ _ [] i HL.out rfl O1.out (by simp; omega) _ rfl (by simp) HI1.out ⟨_, _, _, rfl⟩ (by omega) ?_; intro ad c w2 hR2 hb2 hs2; have R2 := Lib.hid hR2; have B2 := Lib.hid (B1.out.trans hb2); clear hR2 hb2)
        go_roundg (gk - 1)
        case measure => omega
        case rel => exact ⟨i + 1, by go_num, by omega, Lib.hid (by rw [HNX.out, if_neg HH.out]; exact R2.out), B2⟩
set_option maxRecDepth 100000 in
set_option maxHeartbeats 4000000 in
theorem l31Step_any (v wv : Value) (rs ways : List (List Int)) (n L : Nat) (home house : Int) (w : World) (hv : RowsAt w v rs) (hq : Square rs n) (hw : RowsAt w wv ways) (hW : Ways31 ways n L) (hn : n ≤ 1000) (hL : L ≤ 100000) (hh1 : 1 ≤ house) (hhn : house ≤ n) :
    Calls Tryd.prog 46 #[v, .int .i64 home, wv, .int .i64 house] w fun e w' => ∃ v', e = .returned v' ∧ RowsL w' w.heap.size v' (net31 rs ways home house n) ∧ Below w.heap.size w w' := by
  obtain ⟨a, cap, rfl, hc, hm⟩ := hv.form
  obtain ⟨wa, wc, rfl, hwc, hwm⟩ := hw.form
  rw [hq.1] at hv hc ⊢
  rw [hW.len] at hw hwc ⊢
  have hpk : ∀ W, Below w.heap.size w W → Calls Tryd.prog 67 #[.slice a n cap, .int .i64 home, .slice wa n wc, .int .i64 house] W fun e w' => ∃ v', e = .returned v' ∧ OwnInts w' W.heap.size v' (pick31 rs ways home house) ∧ Below W.heap.size W w' := fun W hb => l31Pick_any _ _ rs ways n L home house W (hv.below hb) hq (hw.below hb) hW hn hL hh1 hhn
  have HPK := Lib.hid hpk
  have H := Lib.hid hw
  have HSH := Lib.hid hW.short
  clear hv hq hW hpk hw
  go_enter Tryd.func46, Tryd.ntmps46
  go_wp2_with fail
  go_loopg [9, 10] n (fun gk s9 s10 wr => ∃ i : Nat, s10 = .int .i64 (i : Int) ∧ i + gk = n ∧ Hid (RowsL wr w.heap.size s9 (net31 rs ways home house i)) ∧ Hid (Below w.heap.size w wr))
  case atStart => exact ⟨0, by go_num, by omega, Lib.hid (RowsL.zero w), Lib.hid (Below.alloc (Below.refl _ _) (Nat.le_refl _) _)⟩
  case round =>
    obtain ⟨i, rfl, hi, O, BB⟩ := hrel
    obtain ⟨oa, oc, e, hoc, hocm⟩ := O.out.form
    subst e
    have hlen : (net31 rs ways home house i).length = i := by simp [net31]
    rw [hlen] at hoc O ⊢
    have HL := Lib.hid hlen
    clear hlen
    have hswr : w.heap.size ≤ wr.heap.size := BB.out.size
    by_cases hg : gk = 0
    · subst hg
      obtain rfl : i = n := by omega
      have hdn : decide ((i : Int) < (i : Int)) = false := by simp
      go_wp2_with fail
      go_ret
      exact ⟨_, rfl, O.out, BB.out⟩
    · have hin : (i : Int) < (n : Int) := by omega
      have hinN : i < n := by omega
      have i0 : (0 : Int) ≤ (i : Int) := by omega
      have hgk : 1 ≤ gk := by omega
      have hnx : net31 rs ways home house (i + 1) = net31 rs ways home house i ++ [if (i : Int) + 1 = house then pick31 rs ways home house else ways.getD i []] := map_range_succ _ _
      have HNX := Lib.hid hnx
      clear hnx
      by_cases hh : (i : Int) + 1 = house
      · have HH := Lib.hid hh
        have hhb : ((i : Int) + 1 == house) = true := by simp [hh]
        clear hh
        go_wp2_with fail
        refine (HPK.out wr BB.out).mono ?_
        rintro e w1 ⟨u, rfl, hu, hb1⟩
        have O1 := Lib.hid (O.out.below hb1)
        have U1 := Lib.hid (hu.lift hswr)
        have B1 := Lib.hid (BB.out.trans (hb1.mono hswr))
        have hs1 : w.heap.size ≤ w1.heap.size := B1.out.size
        obtain ⟨ua, uc, e, _, _⟩ := hu.form
        subst e
        clear hu hb1
        go_wp2_with (at_builtin; refine wpList_append_row rfl (.tmp 22) (.tmp 28) rfl w.heap.size _ _ _ (pick31 rs ways home house) i HL.out rfl O1.out hs1 _ rfl rfl U1.out ⟨_, _, _, rfl⟩ (by omega) ?_; intro ad c w2 hR2 hb2 hs2; have R2 := Lib.hid hR2; have B2 := Lib.hid (B1.out.trans hb2); clear hR2 hb2)
        go_roundg (gk - 1)
        case measure => omega
        case rel => exact ⟨i + 1, by go_num, by omega, Lib.hid (by rw [HNX.out, if_pos HH.out]; exact R2.out), B2⟩
      · have HH := Lib.hid hh
        have hhb : ((i : Int) + 1 == house) = false := by simp [hh]
        obtain ⟨rb, off, u, rfl, hrb, hu1, hu⟩ := (H.out.below BB.out).get i hinN
        obtain ⟨ua, uc, e, huc, hum⟩ := hu.form
        subst e
        have hsh := HSH.out i hinN
        obtain ⟨wl, hwl⟩ : ∃ m, (ways.getD i []).length = m := ⟨_, rfl⟩
        rw [hwl] at hu1 huc hu hsh
        have hA := Below.alloc (Below.refl wr.heap.size wr) (Nat.le_refl _) (.cells #[] 3)
        have HI1 := Lib.hid (OwnInts.zero wr)
        have HU := Lib.hid (hu.below hA)
        have O1 := Lib.hid (O.out.below hA)
        have B1 := Lib.hid (BB.out.trans (hA.mono hswr))
        have HWL := Lib.hid hwl
        have hA2 := Lib.hid hA
        clear hA hh hu hwl
        go_wp2_with (first
          | (at_builtin; refine wpList_append_ints rfl (.tmp 31) (.tmp 35) rfl wr.heap.size _ _ [] (ways.getD i []) wl (by rw [HWL.out]; simp) rfl HI1.out (by simp) rfl HU.out (by omega) ?_; intro ad c w2 hO2 hb2 hs2; have W2 := Lib.hid (hO2.lift hswr); have O2 := Lib.hid (RowsL.below O.out (hA2.out.trans hb2)); have B2 := Lib.hid (BB.out.trans ((hA2.out.trans hb2).mono hswr)); have hs2 : w.heap.size ≤ w2.heap.size := B2.out.size; clear hO2 hb2)
          | (at_builtin; refine wpList_append_row rfl (.tmp 30) (.tmp 37) rfl w.heap.size _ _ _ (ways.getD i []) i HL.out rfl O2.out hs2 _ rfl rfl W2.out ⟨_, _, _, rfl⟩ (by omega) ?_; intro ad3 c3 w3 hR3 hb3 hs3; have R3 := Lib.hid hR3; have B3 := Lib.hid (B2.out.trans hb3); clear hR3 hb3))
        go_roundg (gk - 1)
        case measure => omega
        case rel => exact ⟨i + 1, by go_num, by omega, Lib.hid (by rw [HNX.out, if_neg HH.out]; exact R3.out), B3⟩
end Go.Proofs.YtnjkifnlimfhnaaDoor

namespace Go.Proofs.YtnjkifnlimfhnaaDoor
open Go.RowKit
set_option linter.unusedVariables false

def endTo31 (rs : List (List Int)) (home : Int) (n k : Nat) : List (List Int) := (List.range k).foldl (fun ways i => net31 rs ways home (((i % n : Nat) : Int) + 1) n) (none31 n home)
def end31 (rs : List (List Int)) (home : Int) (n : Nat) : List (List Int) := endTo31 rs home n (4 * n * n)
theorem endTo31_succ (rs : List (List Int)) (home : Int) (n k : Nat) : endTo31 rs home n (k + 1) = net31 rs (endTo31 rs home n k) home (((k % n : Nat) : Int) + 1) n := foldl_range_succ _ _ _
theorem endTo31_ways {rs : List (List Int)} {home : Int} {n : Nat} (hq : rs.length = n) (hn : 1 ≤ n) : ∀ k, Ways31 (endTo31 rs home n k) n (k + 1)
  | 0 => none31_ways n 1 home (Nat.le_refl _)
  | k + 1 => by
    rw [endTo31_succ]
    have := Nat.mod_lt k (show n > 0 by omega)
    exact net31_ways hq (endTo31_ways hq hn k) (by omega) (by omega)
theorem endTo31_far {rs : List (List Int)} {home : Int} {n : Nat} : ∀ k, Far31 (endTo31 rs home n k) home n
  | 0 => none31_far n home
  | k + 1 => by rw [endTo31_succ]; exact net31_far (endTo31_far k)
theorem mul_facts (n : Nat) (h5 : n ≤ 5) : ∃ N : Nat, 4 * n * n = N ∧ N ≤ 100 ∧ IntKind.i64.wrap (4 * (n : Int)) = 4 * (n : Int) ∧ (4 : Int) * (n : Int) * (n : Int) = (N : Int) ∧ IntKind.i64.wrap (N : Int) = (N : Int) := by
  have hN : 4 * n * n ≤ 100 := by
    have : n = 0 ∨ n = 1 ∨ n = 2 ∨ n = 3 ∨ n = 4 ∨ n = 5 := by omega
    rcases this with rfl | rfl | rfl | rfl | rfl | rfl <;> decide
  exact ⟨4 * n * n, rfl, hN, IntWalk.i64_in _ (by omega), by push_cast; rfl, IntWalk.i64_in _ (by omega)⟩
theorem rem_facts (i n : Nat) (hn : 1 ≤ n) (h5 : n ≤ 5) : ∃ r : Nat, i % n = r ∧ (i : Int).tmod (n : Int) = (r : Int) ∧ IntKind.i64.wrap (r : Int) = (r : Int) ∧ r < n := by
  have := Nat.mod_lt i (show n > 0 by omega)
  refine ⟨i % n, rfl, ?_, IntWalk.i64_in _ (by omega), this⟩
  rw [Int.tmod_eq_emod_of_nonneg (by omega)]; rfl
set_option maxRecDepth 100000 in
set_option maxHeartbeats 4000000 in
theorem l31End_any (v : Value) (rs : List (List Int)) (n : Nat) (home : Int) (w : World) (hv : RowsAt w v rs) (hq : Square rs n) (hn : 1 ≤ n) (h5 : n ≤ 5) :
    Calls Tryd.prog 22 #[v, .int .i64 home] w fun e w' => ∃ v', e = .returned v' ∧ RowsL w' w.heap.size v' (end31 rs home n) ∧ Below w.heap.size w w' := by
  obtain ⟨a, cap, rfl, hc, hm⟩ := hv.form
  rw [hq.1] at hv hc ⊢
  obtain ⟨N, hN, hN1, hw4, hmul, hwN⟩ := mul_facts n h5
  have hE : end31 rs home n = endTo31 rs home n N := by unfold end31; rw [hN]
  rw [hE]
  have hst : ∀ W wv i, Below w.heap.size w W → i < N → RowsAt W wv (endTo31 rs home n i) → ∀ r : Nat, i % n = r → Calls Tryd.prog 46 #[.slice a n cap, .int .i64 home, wv, .int .i64 ((r : Int) + 1)] W fun e w' => ∃ v', e = .returned v' ∧ RowsL w' W.heap.size v' (endTo31 rs home n (i + 1)) ∧ Below W.heap.size W w' := fun W wv i hb hi hw r hr => by
    have := Nat.mod_lt i (show n > 0 by omega)
    have := l31Step_any _ wv rs (endTo31 rs home n i) n (i + 1) home ((r : Int) + 1) W (hv.below hb) hq hw (endTo31_ways hq.1 hn i) (by omega) (by omega) (by omega) (by omega)
    rw [endTo31_succ, hr]
    exact this
  have HST := Lib.hid hst
  have H0 := Lib.hid (fun W hb => l31None_any (.slice a n cap) rs n home W (hv.below hb) hq.1 (by omega))
  clear hst hv hq hE hN
  go_enter Tryd.func22, Tryd.ntmps22
  go_wp2_with fail
  refine (H0.out w (Below.refl _ _)).mono ?_
  rintro e w1 ⟨v1, rfl, hR1, hb1⟩
  have R1 := Lib.hid hR1
  have B1 := Lib.hid hb1
  clear hR1 hb1
  go_wp2_with fail
  go_loopg [5, 6] N (fun gk s5 s6 wr => ∃ i : Nat, s6 = .int .i64 (i : Int) ∧ i + gk = N ∧ Hid (RowsL wr w.heap.size s5 (endTo31 rs home n i)) ∧ Hid (Below w.heap.size w wr))
  case atStart => exact ⟨0, rfl, by omega, R1, B1⟩
  case round =>
    obtain ⟨i, rfl, hi, O, BB⟩ := hrel
    have hswr : w.heap.size ≤ wr.heap.size := BB.out.size
    by_cases hg : gk = 0
    · subst hg
      obtain rfl : i = N := by omega
      have hdn : decide ((i : Int) < (i : Int)) = false := by simp
      go_wp2_with fail
      go_ret
      exact ⟨_, rfl, O.out, BB.out⟩
    · have hiN : i < N := by omega
      have hiI : (i : Int) < (N : Int) := by omega
      have hgk : 1 ≤ gk := by omega
      have hn0 : (n : Int) ≠ 0 := by omega
      have hnb : ((n : Int) == 0) = false := by simp; omega
      obtain ⟨r, hr, hr1, hr2, hr3⟩ := rem_facts i n hn h5
      have HC := Lib.hid (HST.out wr _ i BB.out hiN O.out.rows r hr)
      clear hr
      go_wp2_with fail
      refine HC.out.mono ?_
      rintro e w2 ⟨v2, rfl, hR2, hb2⟩
      have R2 := Lib.hid (hR2.lift hswr)
      have B2 := Lib.hid (BB.out.trans (hb2.mono hswr))
      clear hR2 hb2
      go_wp2_with fail
      go_roundg (gk - 1)
      case measure => omega
      case rel => exact ⟨i + 1, by go_num, by omega, R2, B2⟩
end Go.Proofs.YtnjkifnlimfhnaaDoor
