/- What a house tells: spec.l12Of, l12May, l31Tells. spec.l31Pick: the way that a house picks. -/
import Derived.Test.YtnjkifnlimfhnaaDoorRelsP
import Derived.Test.YtnjkifnlimfhnaaDoorRanksCmp
import Derived.Test.YtnjkifnlimfhnaaDoorRelsState
namespace Go.Proofs.YtnjkifnlimfhnaaDoor
open Go.RowKit
set_option linter.unusedVariables false

/-- n rows of n numbers each -/
def Square (rs : List (List Int)) (n : Nat) : Prop := rs.length = n ∧ ∀ i, i < n → (rs.getD i []).length = n
/-- what house y is to house x -/
def ofF (rs : List (List Int)) (x y : Int) : Int := relAt rs (x - 1).toNat (y - 1).toNat
def mayF (rs : List (List Int)) (house o t : Int) : Bool := decide (ofF rs house t ≠ 0) && (decide (o = 0) || decide (ofF rs house o = 1) || decide (ofF rs house t = 1))
def tellsF (rs : List (List Int)) (way : List Int) (house t : Int) : Bool := decide (way ≠ []) && !decide (t ∈ way) && mayF rs house (if 1 < way.length then way.getD 1 0 else 0) t
set_option maxHeartbeats 4000000 in
theorem l12Of_any (v : Value) (rs : List (List Int)) (n : Nat) (x y : Int) (w : World) (hv : RowsAt w v rs) (hq : Square rs n) (hx : 1 ≤ x) (hxn : x ≤ n) (hy : 1 ≤ y) (hyn : y ≤ n) :
    Calls Tryd.prog 74 #[v, .int .i64 x, .int .i64 y] w fun e w' => e = .returned (.int .i64 (ofF rs x y)) ∧ w' = w := by
  obtain ⟨a, cap, rfl, hc, hm⟩ := hv.form
  obtain ⟨i, rfl⟩ : ∃ i : Nat, x = (i : Int) + 1 := ⟨(x - 1).toNat, by omega⟩
  obtain ⟨k, rfl⟩ : ∃ k : Nat, y = (k : Int) + 1 := ⟨(y - 1).toNat, by omega⟩
  obtain ⟨q1, q2⟩ := hq
  rw [q1] at hv hc ⊢
  obtain ⟨b, off, u, rfl, hb, hu1, hu⟩ := hv.get i (by omega)
  obtain ⟨ai, ci, e, hci, hcm⟩ := hu.form
  subst e
  rw [q2 i (by omega)] at hu1 hu hci
  obtain ⟨b2, off2, rfl, hb2, hz⟩ := hu.get k (by omega)
  have hF : ofF rs ((i : Int) + 1) ((k : Int) + 1) = relAt rs i k := by unfold ofF; congr 1 <;> omega
  rw [hF]
  replace hz : w.cell? ⟨b2, off2 + k, none⟩ = some (.int .i64 (relAt rs i k)) := hz
  obtain ⟨z, hzz⟩ : ∃ z, relAt rs i k = z := ⟨_, rfl⟩
  rw [hzz] at hz ⊢
  have e1 : (i : Int) + 1 - 1 = (i : Int) := by omega
  have e2 : (k : Int) + 1 - 1 = (k : Int) := by omega
  have i0 : (0 : Int) ≤ (i : Int) := by omega
  have k0 : (0 : Int) ≤ (k : Int) := by omega
  have hin : (i : Int) < (n : Int) := by omega
  have hkn : (k : Int) < (n : Int) := by omega
  clear hv hu hF hzz q2
  go_enter Tryd.func74, Tryd.ntmps74
  go_wp2_with fail
  go_ret
  exact ⟨rfl, rfl⟩
set_option maxHeartbeats 4000000 in
theorem l12May_any (v : Value) (rs : List (List Int)) (n : Nat) (x o y : Int) (w : World) (hv : RowsAt w v rs) (hq : Square rs n) (hx : 1 ≤ x) (hxn : x ≤ n) (ho : 0 ≤ o) (hon : o ≤ n) (hy : 1 ≤ y) (hyn : y ≤ n) :
    Calls Tryd.prog 83 #[v, .int .i64 x, .int .i64 o, .int .i64 y] w fun e w' => e = .returned (.bool (mayF rs x o y)) ∧ w' = w := by
  have h1 := l12Of_any v rs n x y w hv hq hx hxn hy hyn
  obtain ⟨r, hr⟩ : ∃ r, ofF rs x y = r := ⟨_, rfl⟩
  have h2 : o ≠ 0 → Calls Tryd.prog 74 #[v, .int .i64 x, .int .i64 o] w fun e w' => e = .returned (.int .i64 (ofF rs x o)) ∧ w' = w := fun h => l12Of_any v rs n x o w hv hq hx hxn (by omega) hon
  obtain ⟨s, hs⟩ : ∃ s, ofF rs x o = s := ⟨_, rfl⟩
  rw [hr] at h1
  rw [hs] at h2
  unfold mayF
  rw [hr, hs]
  have H1 := Lib.hid h1
  have H2 := Lib.hid h2
  clear h1 h2 hv hr hs
  by_cases hr0 : r = 0
  · subst hr0
    go_enter Tryd.func83, Tryd.ntmps83
    go_wp2_with fail
    refine H1.out.mono ?_
    rintro e w1 ⟨rfl, rfl⟩
    go_wp2_with fail
    go_ret
    exact ⟨by simp, rfl⟩
  · have hrb : (r == 0) = false := by simp [hr0]
    by_cases ho0 : o = 0
    · subst ho0
      go_enter Tryd.func83, Tryd.ntmps83
      go_wp2_with fail
      refine H1.out.mono ?_
      rintro e w1 ⟨rfl, rfl⟩
      go_wp2_with fail
      go_ret
      exact ⟨by simp [hr0], rfl⟩
    · have hob : (o == 0) = false := by simp [ho0]
      by_cases hs1 : s = 1
      · subst hs1
        go_enter Tryd.func83, Tryd.ntmps83
        go_wp2_with fail
        refine H1.out.mono ?_
        rintro e w1 ⟨rfl, rfl⟩
        go_wp2_with fail
        refine (H2.out ho0).mono ?_
        rintro e w1 ⟨rfl, rfl⟩
        go_wp2_with fail
        go_ret
        exact ⟨by simp [hr0], rfl⟩
      · have hsb : (s == 1) = false := by simp [hs1]
        go_enter Tryd.func83, Tryd.ntmps83
        go_wp2_with fail
        refine H1.out.mono ?_
        rintro e w1 ⟨rfl, rfl⟩
        go_wp2_with fail
        refine (H2.out ho0).mono ?_
        rintro e w1 ⟨rfl, rfl⟩
        go_wp2_with fail
        refine H1.out.mono ?_
        rintro e w1 ⟨rfl, rfl⟩
        go_wp2_with fail
        go_ret
        exact ⟨by by_cases h : r = 1 <;> simp [hr0, ho0, hs1, h], rfl⟩
set_option maxHeartbeats 4000000 in
theorem l31Tells_any (v : Value) (rs : List (List Int)) (n : Nat) (wv : Value) (way : List Int) (x y : Int) (w : World) (hv : RowsAt w v rs) (hq : Square rs n) (hw : IntsAt w wv way) (hwin : ∀ z, z ∈ way → 1 ≤ z ∧ z ≤ n) (hx : 1 ≤ x) (hxn : x ≤ n) (hy : 1 ≤ y) (hyn : y ≤ n) :
    Calls Tryd.prog 75 #[v, wv, .int .i64 x, .int .i64 y] w fun e w' => e = .returned (.bool (tellsF rs way x y)) ∧ w' = w := by
  obtain ⟨a, cap, rfl, hc, hm⟩ := hw.form
  obtain ⟨m, hm'⟩ : ∃ m, way.length = m := ⟨_, rfl⟩
  rw [hm'] at hc hw ⊢
  by_cases h0 : m = 0
  · subst h0
    have : way = [] := List.length_eq_zero_iff.1 hm'
    subst this
    go_enter Tryd.func75, Tryd.ntmps75
    go_wp2_with fail
    go_ret
    exact ⟨by simp [tellsF], rfl⟩
  · have hmb : ((m : Int) == 0) = false := by simp [h0]
    have hne : way ≠ [] := by intro e; subst e; exact h0 (by simpa using hm'.symm)
    have hH := has_any (.slice a m cap) way y w hw
    obtain ⟨d, hd⟩ : ∃ d, decide (y ∈ way) = d := ⟨_, rfl⟩
    rw [hd] at hH
    have HH := Lib.hid hH
    cases d
    · have hin : ∀ i, i < m → 1 ≤ way.getD i 0 ∧ way.getD i 0 ≤ n := fun i hi => hwin _ (by simp [List.getElem?_eq_getElem (show i < way.length by omega)])
      by_cases h1 : 1 < m
      · have h1I : (1 : Int) < (m : Int) := by omega
        obtain ⟨b, off, rfl, hb, hz⟩ := hw.get 1 h1
        obtain ⟨o1, o2⟩ := hin 1 h1
        have hF : tellsF rs way x y = mayF rs x (way.getD 1 0) y := by unfold tellsF; rw [hd, hm', if_pos h1]; simp [hne]
        rw [hF]
        obtain ⟨o, ho⟩ : ∃ o, way.getD 1 0 = o := ⟨_, rfl⟩
        rw [ho] at hz o1 o2 ⊢
        have HM := Lib.hid (l12May_any v rs n x o y w hv hq hx hxn (by omega) o2 hy hyn)
        clear hv hw hin hwin hF hd hH
        go_enter Tryd.func75, Tryd.ntmps75
        go_wp2_with fail
        refine HH.out.mono ?_
        rintro e w1 ⟨rfl, rfl⟩
        go_wp2_with fail
        refine HM.out.mono ?_
        rintro e w1 ⟨rfl, rfl⟩
        go_wp2_with fail
        go_ret
        exact ⟨rfl, rfl⟩
      · obtain rfl : m = 1 := by omega
        have hF : tellsF rs way x y = mayF rs x 0 y := by unfold tellsF; rw [hd, hm', if_neg h1]; simp [hne]
        rw [hF]
        have HM := Lib.hid (l12May_any v rs n x 0 y w hv hq hx hxn (by omega) (by omega) hy hyn)
        clear hv hw hin hwin hF hd hH
        go_enter Tryd.func75, Tryd.ntmps75
        go_wp2_with fail
        refine HH.out.mono ?_
        rintro e w1 ⟨rfl, rfl⟩
        go_wp2_with fail
        refine HM.out.mono ?_
        rintro e w1 ⟨rfl, rfl⟩
        go_wp2_with fail
        go_ret
        exact ⟨rfl, rfl⟩
    · have hF : tellsF rs way x y = false := by unfold tellsF; rw [hd]; simp
      rw [hF]
      clear hv hw hwin hF hd hH
      go_enter Tryd.func75, Tryd.ntmps75
      go_wp2_with fail
      refine HH.out.mono ?_
      rintro e w1 ⟨rfl, rfl⟩
      go_wp2_with fail
      go_ret
      exact ⟨rfl, rfl⟩
end Go.Proofs.YtnjkifnlimfhnaaDoor

namespace Go.Proofs.YtnjkifnlimfhnaaDoor
open Go.RowKit
set_option linter.unusedVariables false

/-- house b + 1 is looked at -/
def step31 (rs ways : List (List Int)) (house rel : Int) (best : List Int) (b : Nat) : List Int :=
  if ofF rs house ((b : Int) + 1) = rel ∧ tellsF rs (ways.getD b []) ((b : Int) + 1) house = true then
    (if best = [] ∨ cmpF (house :: ways.getD b []) best < 0 then house :: ways.getD b [] else best) else best
def row31 (rs ways : List (List Int)) (house rel : Int) : List Int := (List.range rs.length).foldl (step31 rs ways house rel) []
def pick31 (rs ways : List (List Int)) (home house : Int) : List Int :=
  if house = home then [home] else if row31 rs ways house 1 ≠ [] then row31 rs ways house 1 else if row31 rs ways house 2 ≠ [] then row31 rs ways house 2 else row31 rs ways house 3
theorem pick31_home (rs ways : List (List Int)) (home : Int) : pick31 rs ways home home = [home] := by unfold pick31; rw [if_pos rfl]
theorem pick31_at {rs ways : List (List Int)} {home house : Int} (hne : house ≠ home) {r : Nat} (h1 : 1 ≤ r) (h3 : r ≤ 3) (hlow : ∀ j : Nat, 1 ≤ j → j < r → row31 rs ways house j = []) (hr : row31 rs ways house r ≠ []) : pick31 rs ways home house = row31 rs ways house r := by
  unfold pick31
  rw [if_neg hne]
  have : r = 1 ∨ r = 2 ∨ r = 3 := by omega
  rcases this with rfl | rfl | rfl
  · have hr : row31 rs ways house 1 ≠ [] := hr
    rw [if_pos hr]; rfl
  · have hr : row31 rs ways house 2 ≠ [] := hr
    rw [if_neg (by have := hlow 1 (by omega) (by omega); simpa using this), if_pos hr]; rfl
  · rw [if_neg (by have := hlow 1 (by omega) (by omega); simpa using this), if_neg (by have := hlow 2 (by omega) (by omega); simpa using this)]; rfl
theorem pick31_none {rs ways : List (List Int)} {home house : Int} (hne : house ≠ home) (hlow : ∀ j : Nat, 1 ≤ j → j < 4 → row31 rs ways house j = []) : pick31 rs ways home house = [] := by
  unfold pick31
  rw [if_neg hne, if_neg (by have := hlow 1 (by omega) (by omega); simpa using this), if_neg (by have := hlow 2 (by omega) (by omega); simpa using this)]
  exact hlow 3 (by omega) (by omega)
theorem foldl_range_succ {α : Type} (f : α → Nat → α) (z : α) (n : Nat) : (List.range (n + 1)).foldl f z = f ((List.range n).foldl f z) n := by rw [List.range_succ, List.foldl_append]; rfl
/-- what is picked is a way by a neighbour -/
def Picked (ways : List (List Int)) (house : Int) (n : Nat) (l : List Int) : Prop := l = [] ∨ ∃ b, b < n ∧ ways.getD b [] ≠ [] ∧ l = house :: ways.getD b []
theorem step31_picked {rs ways : List (List Int)} {house rel : Int} {n : Nat} {l : List Int} {b : Nat} (hb : b < n) (h : Picked ways house n l) : Picked ways house n (step31 rs ways house rel l b) := by
  unfold step31
  split
  · rename_i h1
    have hne : ways.getD b [] ≠ [] := by
      intro e
      have := h1.2
      unfold tellsF at this
      rw [e] at this
      simp at this
    split
    · exact .inr ⟨b, hb, hne, rfl⟩
    · exact h
  · exact h
theorem fold31_picked {rs ways : List (List Int)} {house rel : Int} {n : Nat} : ∀ m, m ≤ n → Picked ways house n ((List.range m).foldl (step31 rs ways house rel) [])
  | 0, _ => .inl rfl
  | m + 1, h => by rw [foldl_range_succ]; exact step31_picked (by omega) (fold31_picked m (by omega))
theorem pick31_picked (rs ways : List (List Int)) {home house : Int} (hne : house ≠ home) : Picked ways house rs.length (pick31 rs ways home house) := by
  unfold pick31
  rw [if_neg hne]
  split
  · exact fold31_picked _ (Nat.le_refl _)
  · split
    · exact fold31_picked _ (Nat.le_refl _)
    · exact fold31_picked _ (Nat.le_refl _)
/-- ways of houses: numbers from 1 to n, not too long -/
structure Ways31 (ways : List (List Int)) (n L : Nat) : Prop where
  len : ways.length = n
  inn : ∀ i, i < n → ∀ z, z ∈ ways.getD i [] → 1 ≤ z ∧ z ≤ n
  short : ∀ i, i < n → (ways.getD i []).length ≤ L
set_option maxRecDepth 100000 in
set_option maxHeartbeats 8000000 in
theorem l31Pick_any (v wv : Value) (rs ways : List (List Int)) (n L : Nat) (home house : Int) (w : World) (hv : RowsAt w v rs) (hq : Square rs n) (hw : RowsAt w wv ways) (hW : Ways31 ways n L) (hn : n ≤ 1000) (hL : L ≤ 100000) (hh1 : 1 ≤ house) (hhn : house ≤ n) :
    Calls Tryd.prog 67 #[v, .int .i64 home, wv, .int .i64 house] w fun e w' => ∃ v', e = .returned v' ∧ OwnInts w' w.heap.size v' (pick31 rs ways home house) ∧ Below w.heap.size w w' := by
  obtain ⟨a, cap, rfl, hc, hm⟩ := hv.form
  obtain ⟨wa, wc, rfl, hwc, hwm⟩ := hw.form
  rw [hq.1] at hv hc ⊢
  rw [hW.len] at hw hwc ⊢
  by_cases hho : house = home
  · subst hho
    rw [pick31_home]
    clear hv hw
    go_enter Tryd.func67, Tryd.ntmps67
    go_wp2_with fail
    go_ret
    exact ⟨_, rfl, OwnInts.one w house, by repeat (first | exact Below.refl _ _ | assumption | refine Below.drew ?_ | refine belowDrewN ?_ _ | refine Below.alloc ?_ (by first | exact Nat.le_refl _ | omega | (simp; done) | (simp; omega)) _ | refine Below.setCell ?_ (by first | exact Nat.le_refl _ | omega | (simp; done) | (simp; omega)) _)⟩
  · have hhb : (house == home) = false := by simp [hho]
    obtain ⟨P, hP⟩ : ∃ P, pick31 rs ways home house = P := ⟨_, rfl⟩
    rw [hP]
    have hat : ∀ r : Nat, 1 ≤ r → r ≤ 3 → (∀ j : Nat, 1 ≤ j → j < r → row31 rs ways house j = []) → row31 rs ways house r ≠ [] → P = row31 rs ways house r := fun r h1 h3 h h' => by rw [← hP]; exact pick31_at hho h1 h3 h h'
    have hnone : (∀ j : Nat, 1 ≤ j → j < 4 → row31 rs ways house j = []) → P = [] := fun h => by rw [← hP]; exact pick31_none hho h
    have hrow : ∀ r : Int, row31 rs ways house r = (List.range n).foldl (step31 rs ways house r) [] := fun r => by unfold row31; rw [hq.1]
    have hof : ∀ W, Below w.heap.size w W → ∀ b : Nat, b < n → Calls Tryd.prog 74 #[.slice a n cap, .int .i64 house, .int .i64 ((b : Int) + 1)] W fun e w' => e = .returned (.int .i64 (ofF rs house ((b : Int) + 1))) ∧ w' = W := fun W hW' b hb => l12Of_any _ rs n house _ W (hv.below hW') hq hh1 hhn (by omega) (by omega)
    have hte : ∀ W u b, Below w.heap.size w W → b < n → IntsAt W u (ways.getD b []) → Calls Tryd.prog 75 #[.slice a n cap, u, .int .i64 ((b : Int) + 1), .int .i64 house] W fun e w' => e = .returned (.bool (tellsF rs (ways.getD b []) ((b : Int) + 1) house)) ∧ w' = W := fun W u b hW' hb hu => l31Tells_any _ rs n u _ _ _ W (hv.below hW') hq hu (hW.inn b hb) (by omega) (by omega) hh1 hhn
    have HAT := Lib.hid hat
    have HNO := Lib.hid hnone
    have HRO := Lib.hid hrow
    have HOF := Lib.hid hof
    have HTE := Lib.hid hte
    have HW := Lib.hid hW
    have H := Lib.hid hw
    have hlen : ∀ r b, ((List.range b).foldl (step31 rs ways house r) []).length ≤ 100001 ∨ n < b := fun r b => by
      by_cases h : b ≤ n
      · rcases fold31_picked (rs := rs) (ways := ways) (house := house) (rel := r) b h with e | ⟨c, hc, _, e⟩
        · rw [e]; simp
        · rw [e]; have := hW.short c hc; left; rw [List.length_cons]; omega
      · exact .inr (by omega)
    have HLEN := Lib.hid hlen
    clear hat hnone hrow hof hte hW hw hv hP hho hlen hq
    go_enter Tryd.func67, Tryd.ntmps67
    go_wp2_with fail
    go_loopg [9, 10] 3 (fun gk s9 s10 wr => ∃ (r : Nat) (best : List Int), s10 = .int .i64 (r : Int) ∧ 1 ≤ r ∧ r + gk = 4 ∧ Hid (OwnInts wr w.heap.size s9 best) ∧ Hid ((best = [] ∧ ∀ j : Nat, 1 ≤ j → j < r → row31 rs ways house j = []) ∨ (best ≠ [] ∧ best = P)) ∧ Hid (Below w.heap.size w wr))
    case atStart => exact ⟨1, [], rfl, by omega, by omega, Lib.hid (OwnInts.zero w), Lib.hid (.inl ⟨rfl, fun j h1 h2 => by omega⟩), Lib.hid (Below.alloc (Below.refl _ _) (Nat.le_refl _) _)⟩
    case round =>
      obtain ⟨r, best, rfl, hr1, hrk, O, HB, BB⟩ := hrel
      obtain ⟨ba, bc, e, hbc, hbm⟩ := O.out.form
      subst e
      by_cases hbe : best = []
      · subst hbe
        have hlow : ∀ j : Nat, 1 ≤ j → j < r → row31 rs ways house j = [] := by
          rcases HB.out with h | h
          · exact h.2
          · exact absurd rfl h.1
        have HLOW := Lib.hid hlow
        clear hlow
        by_cases hg : gk = 0
        · subst hg
          have hr4 : ¬ (r : Int) ≤ 3 := by omega
          have e := HNO.out (fun j h1 h2 => HLOW.out j h1 (by omega))
          subst e
          go_wp2_with fail
          go_ret
          exact ⟨_, rfl, O.out, BB.out⟩
        · have hr3 : (r : Int) ≤ 3 := by omega
          have hgk : 1 ≤ gk := by omega
          obtain ⟨G, hG⟩ : ∃ G, G = gk := ⟨_, rfl⟩
          go_wp2_with fail
          go_loopg [9, 11] n (fun g2 s9 s11 wr => ∃ (b : Nat) (best : List Int), s11 = .int .i64 ((b : Int) + 1) ∧ b + g2 = n ∧ Hid (OwnInts wr w.heap.size s9 best) ∧ Hid ((List.range b).foldl (step31 rs ways house (r : Int)) [] = best) ∧ Hid (Below w.heap.size w wr))
          case atStart => exact ⟨0, [], by go_num, by omega, O, Lib.hid rfl, BB⟩
          case round =>
            clear O BB HB
            obtain ⟨b, best, rfl, hb, O, HF, BB⟩ := hrel
            obtain ⟨ba, bc, e, hbc, hbm⟩ := O.out.form
            subst e
            by_cases hg : gk = 0
            · subst hg
              obtain rfl : b = n := by omega
              have hbn : ¬ (b : Int) + 1 ≤ (b : Int) := by omega
              go_wp2_with fail
              go_roundg (G - 1)
              case measure => omega
              case rel =>
                refine ⟨r + 1, best, by go_num, by omega, by omega, O, Lib.hid ?_, BB⟩
                have hrw := (HRO.out (r : Int)).trans HF.out
                by_cases hbe : best = []
                · refine .inl ⟨hbe, fun j h1 h2 => ?_⟩
                  by_cases hjr : j = r
                  · subst hjr; rw [hrw]; exact hbe
                  · exact HLOW.out j h1 (by omega)
                · exact .inr ⟨hbe, by rw [← hrw]; exact (HAT.out r hr1 (by omega) HLOW.out (by rw [hrw]; exact hbe)).symm⟩
            · have hbn : b < n := by omega
              have hbI : (b : Int) + 1 ≤ (n : Int) := by omega
              have hbI2 : (b : Int) < (n : Int) := by omega
              have b0 : (0 : Int) ≤ (b : Int) := by omega
              have e1 : (b : Int) + 1 - 1 = (b : Int) := by omega
              have hgk2 : 1 ≤ gk := by omega
              have HBN := Lib.hid hb
              obtain ⟨rb, off, u, rfl, hrb, hu1, hu⟩ := (H.out.below BB.out).get b hbn
              obtain ⟨ua, uc, e, huc, hum⟩ := hu.form
              subst e
              obtain ⟨way, hway⟩ : ∃ l, ways.getD b [] = l := ⟨_, rfl⟩
              have hwl : way.length ≤ 100000 := by rw [← hway]; have := HW.out.short b hbn; omega
              have HU := Lib.hid hu
              have HC1 := Lib.hid (HOF.out wr BB.out b hbn)
              have HC2 := Lib.hid (HTE.out wr _ b BB.out hbn hu)
              have hst : ∀ X, (List.range b).foldl (step31 rs ways house (r : Int)) [] = X → (List.range (b + 1)).foldl (step31 rs ways house (r : Int)) [] = step31 rs ways house (r : Int) X b := fun X hX => by rw [foldl_range_succ, hX]
              have HST := Lib.hid (hst best HF.out)
              clear hu hst hb hg
              rw [hway] at HC2 HU huc hu1
              have hS : step31 rs ways house (r : Int) best b = if ofF rs house ((b : Int) + 1) = (r : Int) ∧ tellsF rs way ((b : Int) + 1) house = true then (if best = [] ∨ cmpF (house :: way) best < 0 then house :: way else best) else best := by unfold step31; rw [hway]
              obtain ⟨x, hx⟩ : ∃ x, ofF rs house ((b : Int) + 1) = x := ⟨_, rfl⟩
              obtain ⟨t, ht⟩ : ∃ t, tellsF rs way ((b : Int) + 1) house = t := ⟨_, rfl⟩
              obtain ⟨m, hm'⟩ : ∃ m, best.length = m := ⟨_, rfl⟩
              obtain ⟨wl, hwl'⟩ : ∃ m, way.length = m := ⟨_, rfl⟩
              rw [hx] at HC1 hS
              rw [ht] at HC2 hS
              rw [hm'] at O hbc ⊢
              rw [hwl'] at HC2 HU huc hu1 hwl
              have HSS := Lib.hid hS
              have HM := Lib.hid hm'
              have HWL := Lib.hid hwl'
              have hm1 : m ≤ 100001 := by have := HLEN.out (r : Int) b; rw [HF.out, HM.out] at this; omega
              clear hS hx ht hway hm' hwl'
              have hnx : ∀ W sv X, Hid (OwnInts W w.heap.size sv X) → Hid (Below w.heap.size w W) → step31 rs ways house (r : Int) best b = X → ∃ (b' : Nat) (best' : List Int), Value.int .i64 ((b : Int) + 1 + 1) = .int .i64 ((b' : Int) + 1) ∧ b' + (gk - 1) = n ∧ Hid (OwnInts W w.heap.size sv best') ∧ Hid ((List.range b').foldl (step31 rs ways house (r : Int)) [] = best') ∧ Hid (Below w.heap.size w W) := fun W sv X h1 h2 h3 => ⟨b + 1, X, by congr 1, by have := HBN.out; omega, h1, Lib.hid (by rw [HST.out, h3]), h2⟩
              have HNX := Lib.hid hnx
              clear hnx
              by_cases hxr : x = (r : Int)
              · subst hxr
                have hxb : ((r : Int) != (r : Int)) = false := by simp
                cases t
                · go_wp2_with fail
                  refine HC1.out.mono ?_
                  rintro e w1 ⟨rfl, rfl⟩
                  go_wp2_with fail
                  refine HC2.out.mono ?_
                  rintro e w1 ⟨rfl, rfl⟩
                  go_wp2_with fail
                  go_roundg (gk - 1)
                  case measure => omega
                  case rel => exact HNX.out _ _ _ O BB (by rw [HSS.out]; simp)
                · have hswr : w.heap.size ≤ wr.heap.size := BB.out.size
                  have HI1 := Lib.hid (OwnInts.one wr house)
                  have hA := Below.alloc (Below.refl wr.heap.size wr) (Nat.le_refl _) (.cells #[.int .i64 house] 3)
                  have HA := Lib.hid hA
                  clear hA
                  go_wp2_with fail
                  refine HC1.out.mono ?_
                  rintro e w1 ⟨rfl, rfl⟩
                  go_wp2_with fail
                  refine HC2.out.mono ?_
                  rintro e w1 ⟨rfl, rfl⟩
                  by_cases hm0 : m = 0
                  · subst hm0
                    go_wp2_with (at_builtin; refine wpList_append_ints rfl (.tmp 53) (.tmp 58) rfl w1.heap.size _ _ [house] way (wl + 1) (by rw [HWL.out]; simp; omega) rfl HI1.out (by simp) rfl (HU.out.below HA.out) (by omega) ?_; intro ad c w2 hO2 hb2 hs2; have W2 := Lib.hid hO2; have hb12 : Below w1.heap.size w1 w2 := Below.trans HA.out hb2; have O2 := Lib.hid (O.out.below hb12); have B2 := Lib.hid (BB.out.trans (hb12.mono hswr)); clear hO2 hb2 hb12)
                    have W2' : Hid (OwnInts w2 w.heap.size (.slice ad (wl + 1) c) (house :: way)) := Lib.hid (W2.out.lift hswr)
                    clear W2
                    go_roundg (gk - 1)
                    case measure => omega
                    case rel => exact HNX.out _ _ _ W2' B2 (by rw [HSS.out, if_pos (by simp), if_pos (.inl (List.length_eq_zero_iff.1 HM.out))])
                  · have hmb : ((m : Int) == 0) = false := by simp [hm0]
                    have hbn' : best ≠ [] := by intro e; apply hm0; rw [← HM.out, e]; rfl
                    have HBE := Lib.hid hbn'
                    clear hbn'
                    go_wp2_with (at_builtin; refine wpList_append_ints rfl (.tmp 53) (.tmp 58) rfl w1.heap.size _ _ [house] way (wl + 1) (by rw [HWL.out]; simp; omega) rfl HI1.out (by simp) rfl (HU.out.below HA.out) (by omega) ?_; intro ad c w2 hO2 hb2 hs2; have W2 := Lib.hid hO2; have hb12 : Below w1.heap.size w1 w2 := Below.trans HA.out hb2; have O2 := Lib.hid (O.out.below hb12); have B2 := Lib.hid (BB.out.trans (hb12.mono hswr)); clear hO2 hb2 hb12)
                    have W2' : Hid (OwnInts w2 w.heap.size (.slice ad (wl + 1) c) (house :: way)) := Lib.hid (W2.out.lift hswr)
                    clear W2
                    have HCM := Lib.hid (cmp_any _ _ (house :: way) best w2 W2'.out.ints O2.out.ints)
                    obtain ⟨q, hq⟩ : ∃ q, cmpF (house :: way) best = q := ⟨_, rfl⟩
                    rw [hq] at HCM HSS
                    clear hq
                    refine HCM.out.mono ?_
                    rintro e w3 ⟨rfl, hd⟩
                    have W3 := Lib.hid (W2'.out.below (hd.below _))
                    have O3 := Lib.hid (O2.out.below (hd.below _))
                    have B3 := Lib.hid (B2.out.trans (hd.below _))
                    clear hd
                    by_cases hq0 : q < 0
                    · go_wp2_with fail
                      go_roundg (gk - 1)
                      case measure => omega
                      case rel => exact HNX.out _ _ _ W3 B3 (by rw [HSS.out, if_pos (by simp), if_pos (.inr hq0)])
                    · go_wp2_with fail
                      go_roundg (gk - 1)
                      case measure => omega
                      case rel => exact HNX.out _ _ _ O3 B3 (by rw [HSS.out, if_pos (by simp), if_neg (fun h => h.elim HBE.out (by omega))])
              · have hxb : (x != (r : Int)) = true := by simp [hxr]
                go_wp2_with fail
                refine HC1.out.mono ?_
                rintro e w1 ⟨rfl, rfl⟩
                go_wp2_with fail
                go_roundg (gk - 1)
                case measure => omega
                case rel => exact HNX.out _ _ _ O BB (by rw [HSS.out, if_neg (fun h => hxr h.1)])
      · have hP : best = P := by
          rcases HB.out with h | h
          · exact absurd h.1 hbe
          · exact h.2
        obtain ⟨m, hm'⟩ : ∃ m, best.length = m := ⟨_, rfl⟩
        have hm0 : m ≠ 0 := by intro e; subst e; exact hbe (List.length_eq_zero_iff.1 hm')
        have hmb : ((m : Int) == 0) = false := by simp [hm0]
        rw [hm'] at hbc O ⊢
        subst hP
        by_cases hr3 : (r : Int) ≤ 3
        · go_wp2_with fail
          go_ret
          exact ⟨_, rfl, O.out, BB.out⟩
        · go_wp2_with fail
          go_ret
          exact ⟨_, rfl, O.out, BB.out⟩
end Go.Proofs.YtnjkifnlimfhnaaDoor
