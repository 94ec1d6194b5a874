/- What a house tells: spec.l12Of, l12May, l31Tells. spec.l31Pick: the way that a house picks. spec.l31None, l31Step: nets of ways. spec.l31End: where a net comes to. -/
import Derived.Test.YtlpibfafpljedaaGreatDoorRelsP
import Derived.Test.YtlpibfafpljedaaGreatDoorRanksCmp
import Derived.Test.YtlpibfafpljedaaGreatDoorDrawRng
namespace Go.Proofs.YtlpibfafpljedaaGreatDoor
open Go.RowKit
set_option linter.unusedVariables false

/-- n rows of n numbers each -/
def Square (rs : List (List Int)) (n : Nat) : Prop := rs.length = n ∧ ∀ i, i < n → (rs.getD i []).length = n
/-- what house y is to house x -/
def ofF (rs : List (List Int)) (x y : Int) : Int := relAt rs (x - 1).toNat (y - 1).toNat
def mayF (rs : List (List Int)) (house o t : Int) : Bool := decide (ofF rs house t ≠ 0) && (decide (o = 0) || decide (ofF rs house o = 1) || decide (ofF rs house t = 1))
def tellsF (rs : List (List Int)) (way : List Int) (house t : Int) : Bool := decide (way ≠ []) && !decide (t ∈ way) && mayF rs house (if 1 < way.length then way.getD 1 0 else 0) t
set_option maxHeartbeats 4000000 in
theorem l12Of_any (v : Value) (rs : List (List Int)) (n : Nat) (x y : Int) (w : World) (hv : RowsAt w v rs) (hq : Square rs n) (hx : 1 ≤ x) (hxn : x ≤ n) (hy : 1 ≤ y) (hyn : y ≤ n) :
    Calls Tryz.prog 72 #[v, .int .i64 x, .int .i64 y] w fun e w' => e = .returned (.int .i64 (ofF rs x y)) ∧ w' = w := by
  obtain ⟨a, cap, rfl, hc, hm⟩ := hv.form
  obtain ⟨i, rfl⟩ : ∃ i : Nat, x = (i : Int) + 1 := ⟨(x - 1).toNat, by omega⟩
  obtain ⟨k, rfl⟩ : ∃ k : Nat, y = (k : Int) + 1 := ⟨(y - 1).toNat, by omega⟩
  obtain ⟨q1, q2⟩ := hq
  rw [q1] at hv hc ⊢
  obtain ⟨b, off, u, rfl, hb, hu1, hu⟩ := hv.get i (by omega)
  obtain ⟨ai, ci, e, hci, hcm⟩ := hu.form
  subst e
  rw [q2 i (by omega)] at hu1 hu hci
  obtain ⟨b2, off2, rfl, hb2, hz⟩ := hu.get k (by omega)
  have hF : ofF rs ((i : Int) + 1) ((k : Int) + 1) = relAt rs i k := by unfold ofF; congr 1 <;> omega
  rw [hF]
  replace hz : w.cell? ⟨b2, off2 + k, none⟩ = some (.int .i64 (relAt rs i k)) := hz
  obtain ⟨z, hzz⟩ : ∃ z, relAt rs i k = z := ⟨_, rfl⟩
  rw [hzz] at hz ⊢
  have e1 : (i : Int) + 1 - 1 = (i : Int) := by omega
  have e2 : (k : Int) + 1 - 1 = (k : Int) := by omega
  have i0 : (0 : Int) ≤ (i : Int) := by omega
  have k0 : (0 : Int) ≤ (k : Int) := by omega
  have hin : (i : Int) < (n : Int) := by omega
  have hkn : (k : Int) < (n : Int) := by omega
  clear hv hu hF hzz q2
  go_enter Tryz.func72, Tryz.ntmps72
  go_wp2_with fail
  go_ret
  exact ⟨rfl, rfl⟩
set_option maxHeartbeats 4000000 in
theorem l12May_any (v : Value) (rs : List (List Int)) (n : Nat) (x o y : Int) (w : World) (hv : RowsAt w v rs) (hq : Square rs n) (hx : 1 ≤ x) (hxn : x ≤ n) (ho : 0 ≤ o) (hon : o ≤ n) (hy : 1 ≤ y) (hyn : y ≤ n) :
    Calls Tryz.prog 82 #[v, .int .i64 x, .int .i64 o, .int .i64 y] w fun e w' => e = .returned (.bool (mayF rs x o y)) ∧ w' = w := by
  have h1 := l12Of_any v rs n x y w hv hq hx hxn hy hyn
  obtain ⟨r, hr⟩ : ∃ r, ofF rs x y = r := ⟨_, rfl⟩
  have h2 : o ≠ 0 → Calls Tryz.prog 72 #[v, .int .i64 x, .int .i64 o] w fun e w' => e = .returned (.int .i64 (ofF rs x o)) ∧ w' = w := fun h => l12Of_any v rs n x o w hv hq hx hxn (by omega) hon
  obtain ⟨s, hs⟩ : ∃ s, ofF rs x o = s := ⟨_, rfl⟩
  rw [hr] at h1
  rw [hs] at h2
  unfold mayF
  rw [hr, hs]
  have H1 := Lib.hid h1
  have H2 := Lib.hid h2
  clear h1 h2 hv hr hs
  by_cases hr0 : r = 0
  · subst hr0
    go_enter Tryz.func82, Tryz.ntmps82
    go_wp2_with fail
    refine H1.out.mono ?_
    rintro e w1 ⟨rfl, rfl⟩
    go_wp2_with fail
    go_ret
    exact ⟨by simp, rfl⟩
  · have hrb : (r == 0) = false := by simp [hr0]
    by_cases ho0 : o = 0
    · subst ho0
      go_enter Tryz.func82, Tryz.ntmps82
      go_wp2_with fail
      refine H1.out.mono ?_
      rintro e w1 ⟨rfl, rfl⟩
      go_wp2_with fail
      go_ret
      exact ⟨by simp [hr0], rfl⟩
    · have hob : (o == 0) = false := by simp [ho0]
      by_cases hs1 : s = 1
      · subst hs1
        go_enter Tryz.func82, Tryz.ntmps82
        go_wp2_with fail
        refine H1.out.mono ?_
        rintro e w1 ⟨rfl, rfl⟩
        go_wp2_with fail
        refine (H2.out ho0).mono ?_
        rintro e w1 ⟨rfl, rfl⟩
        go_wp2_with fail
        go_ret
        exact ⟨by simp [hr0], rfl⟩
      · have hsb : (s == 1) = false := by simp [hs1]
        go_enter Tryz.func82, Tryz.ntmps82
        go_wp2_with fail
        refine H1.out.mono ?_
        rintro e w1 ⟨rfl, rfl⟩
        go_wp2_with fail
        refine (H2.out ho0).mono ?_
        rintro e w1 ⟨rfl, rfl⟩
        go_wp2_with fail
        refine H1.out.mono ?_
        rintro e w1 ⟨rfl, rfl⟩
        go_wp2_with fail
        go_ret
        exact ⟨by by_cases h : r = 1 <;> simp [hr0, ho0, hs1, h], rfl⟩
set_option maxHeartbeats 4000000 in
theorem l31Tells_any (v : Value) (rs : List (List Int)) (n : Nat) (wv : Value) (way : List Int) (x y : Int) (w : World) (hv : RowsAt w v rs) (hq : Square rs n) (hw : IntsAt w wv way) (hwin : ∀ z, z ∈ way → 1 ≤ z ∧ z ≤ n) (hx : 1 ≤ x) (hxn : x ≤ n) (hy : 1 ≤ y) (hyn : y ≤ n) :
    Calls Tryz.prog 73 #[v, wv, .int .i64 x, .int .i64 y] w fun e w' => e = .returned (.bool (tellsF rs way x y)) ∧ w' = w := by
  obtain ⟨a, cap, rfl, hc, hm⟩ := hw.form
  obtain ⟨m, hm'⟩ : ∃ m, way.length = m := ⟨_, rfl⟩
  rw [hm'] at hc hw ⊢
  by_cases h0 : m = 0
  · subst h0
    have : way = [] := List.length_eq_zero_iff.1 hm'
    subst this
    go_enter Tryz.func73, Tryz.ntmps73
    go_wp2_with fail
    go_ret
    exact ⟨by simp [tellsF], rfl⟩
  · have hmb : ((m : Int) == 0) = false := by simp [h0]
    have hne : way ≠ [] := by intro e; subst e; exact h0 (by simpa using hm'.symm)
    have hH := has_any (.slice a m cap) way y w hw
    obtain ⟨d, hd⟩ : ∃ d, decide (y ∈ way) = d := ⟨_, rfl⟩
    rw [hd] at hH
    have HH := Lib.hid hH
    cases d
    · have hin : ∀ i, i < m → 1 ≤ way.getD i 0 ∧ way.getD i 0 ≤ n := fun i hi => hwin _ (by simp [List.getElem?_eq_getElem (show i < way.length by omega)])
      by_cases h1 : 1 < m
      · have h1I : (1 : Int) < (m : Int) := by omega
        obtain ⟨b, off, rfl, hb, hz⟩ := hw.get 1 h1
        obtain ⟨o1, o2⟩ := hin 1 h1
        have hF : tellsF rs way x y = mayF rs x (way.getD 1 0) y := by unfold tellsF; rw [hd, hm', if_pos h1]; simp [hne]
        rw [hF]
        obtain ⟨o, ho⟩ : ∃ o, way.getD 1 0 = o := ⟨_, rfl⟩
        rw [ho] at hz o1 o2 ⊢
        have HM := Lib.hid (l12May_any v rs n x o y w hv hq hx hxn (by omega) o2 hy hyn)
        clear hv hw hin hwin hF hd hH
        go_enter Tryz.func73, Tryz.ntmps73
        go_wp2_with fail
        refine HH.out.mono ?_
        rintro e w1 ⟨rfl, rfl⟩
        go_wp2_with fail
        refine HM.out.mono ?_
        rintro e w1 ⟨rfl, rfl⟩
        go_wp2_with fail
        go_ret
        exact ⟨rfl, rfl⟩
      · obtain rfl : m = 1 := by omega
        have hF : tellsF rs way x y = mayF rs x 0 y := by unfold tellsF; rw [hd, hm', if_neg h1]; simp [hne]
        rw [hF]
        have HM := Lib.hid (l12May_any v rs n x 0 y w hv hq hx hxn (by omega) (by omega) hy hyn)
        clear hv hw hin hwin hF hd hH
        go_enter Tryz.func73, Tryz.ntmps73
        go_wp2_with fail
        refine HH.out.mono ?_
        rintro e w1 ⟨rfl, rfl⟩
        go_wp2_with fail
        refine HM.out.mono ?_
        rintro e w1 ⟨rfl, rfl⟩
        go_wp2_with fail
        go_ret
        exact ⟨rfl, rfl⟩
    · have hF : tellsF rs way x y = false := by unfold tellsF; rw [hd]; simp
      rw [hF]
      clear hv hw hwin hF hd hH
      go_enter Tryz.func73, Tryz.ntmps73
      go_wp2_with fail
      refine HH.out.mono ?_
      rintro e w1 ⟨rfl, rfl⟩
      go_wp2_with fail
      go_ret
      exact ⟨rfl, rfl⟩
end Go.Proofs.YtlpibfafpljedaaGreatDoor

namespace Go.Proofs.YtlpibfafpljedaaGreatDoor
open Go.RowKit
set_option linter.unusedVariables false

/-- house b + 1 is looked at -/
def step31 (rs ways : List (List Int)) (house rel : Int) (best : List Int) (b : Nat) : List Int :=
  if ofF rs house ((b : Int) + 1) = rel ∧ tellsF rs (ways.getD b []) ((b : Int) + 1) house = true then
    (if best = [] ∨ cmpF (house :: ways.getD b []) best < 0 then house :: ways.getD b [] else best) else best
def row31 (rs ways : List (List Int)) (house rel : Int) : List Int := (List.range rs.length).foldl (step31 rs ways house rel) []
def pick31 (rs ways : List (List Int)) (home house : Int) : List Int :=
  if house = home then [home] else if row31 rs ways house 1 ≠ [] then row31 rs ways house 1 else if row31 rs ways house 2 ≠ [] then row31 rs ways house 2 else row31 rs ways house 3
theorem pick31_home (rs ways : List (List Int)) (home : Int) : pick31 rs ways home home = [home] := by unfold pick31; rw [if_pos rfl]
theorem pick31_at {rs ways : List (List Int)} {home house : Int} (hne : house ≠ home) {r : Nat} (h1 : 1 ≤ r) (h3 : r ≤ 3) (hlow : ∀ j : Nat, 1 ≤ j → j < r → row31 rs ways house j = []) (hr : row31 rs ways house r ≠ []) : pick31 rs ways home house = row31 rs ways house r := by
  unfold pick31
  rw [if_neg hne]
  have : r = 1 ∨ r = 2 ∨ r = 3 := by omega
  rcases this with rfl | rfl | rfl
  · have hr : row31 rs ways house 1 ≠ [] := hr
    rw [if_pos hr]; rfl
  · have hr : row31 rs ways house 2 ≠ [] := hr
    rw [if_neg (by have := hlow 1 (by omega) (by omega); simpa using this), if_pos hr]; rfl
  · rw [if_neg (by have := hlow 1 (by omega) (by omega); simpa using this), if_neg (by have := hlow 2 (by omega) (by omega); simpa using this)]; rfl
theorem pick31_none {rs ways : List (List Int)} {home house : Int} (hne : house ≠ home) (hlow : ∀ j : Nat, 1 ≤ j → j < 4 → row31 rs ways house j = []) : pick31 rs ways home house = [] := by
  unfold pick31
  rw [if_neg hne, if_neg (by have := hlow 1 (by omega) (by omega); simpa using this), if_neg (by have := hlow 2 (by omega) (by omega); simpa using this)]
  exact hlow 3 (by omega) (by omega)
theorem foldl_range_succ {α : Type} (f : α → Nat → α) (z : α) (n : Nat) : (List.range (n + 1)).foldl f z = f ((List.range n).foldl f z) n := by rw [List.range_succ, List.foldl_append]; rfl
/-- what is picked is a way by a neighbour -/
def Picked (ways : List (List Int)) (house : Int) (n : Nat) (l : List Int) : Prop := l = [] ∨ ∃ b, b < n ∧ ways.getD b [] ≠ [] ∧ l = house :: ways.getD b []
theorem step31_picked {rs ways : List (List Int)} {house rel : Int} {n : Nat} {l : List Int} {b : Nat} (hb : b < n) (h : Picked ways house n l) : Picked ways house n (step31 rs ways house rel l b) := by
  unfold step31
  split
  · rename_i h1
    have hne : ways.getD b [] ≠ [] := by
      intro e
      have := h1.2
      unfold tellsF at this
      rw [e] at this
      simp at this
    split
    · exact .inr ⟨b, hb, hne, rfl⟩
    · exact h
  · exact h
theorem fold31_picked {rs ways : List (List Int)} {house rel : Int} {n : Nat} : ∀ m, m ≤ n → Picked ways house n ((List.range m).foldl (step31 rs ways house rel) [])
  | 0, _ => .inl rfl
  | m + 1, h => by rw [foldl_range_succ]; exact step31_picked (by omega) (fold31_picked m (by omega))
theorem pick31_picked (rs ways : List (List Int)) {home house : Int} (hne : house ≠ home) : Picked ways house rs.length (pick31 rs ways home house) := by
  unfold pick31
  rw [if_neg hne]
  split
  · exact fold31_picked _ (Nat.le_refl _)
  · split
    · exact fold31_picked _ (Nat.le_refl _)
    · exact fold31_picked _ (Nat.le_refl _)
/-- ways of houses: numbers from 1 to n, not too long -/
structure Ways31 (ways : List (List Int)) (n L : Nat) : Prop where
  len : ways.length = n
  inn : ∀ i, i < n → ∀ z, z ∈ ways.getD i [] → 1 ≤ z ∧ z ≤ n
  short : ∀ i, i < n → (ways.getD i []).length ≤ L
set_option maxRecDepth 100000 in
set_option maxHeartbeats 8000000 in
theorem l31Pick_any (v wv : Value) (rs ways : List (List Int)) (n L : Nat) (home house : Int) (w : World) (hv : RowsAt w v rs) (hq : Square rs n) (hw : RowsAt w wv ways) (hW : Ways31 ways n L) (hn : n ≤ 1000) (hL : L ≤ 100000) (hh1 : 1 ≤ house) (hhn : house ≤ n) :
    Calls Tryz.prog 62 #[v, .int .i64 home, wv, .int .i64 house] w fun e w' => ∃ v', e = .returned v' ∧ OwnInts w' w.heap.size v' (pick31 rs ways home house) ∧ Below w.heap.size w w' := by
  obtain ⟨a, cap, rfl, hc, hm⟩ := hv.form
  obtain ⟨wa, wc, rfl, hwc, hwm⟩ := hw.form
  rw [hq.1] at hv hc ⊢
  rw [hW.len] at hw hwc ⊢
  by_cases hho : house = home
  · subst hho
    rw [pick31_home]
    clear hv hw
    go_enter Tryz.func62, Tryz.ntmps62
    go_wp2_with fail
    go_ret
    exact ⟨_, rfl, OwnInts.one w house, by repeat (first | exact Below.refl _ _ | assumption | refine Below.drew ?_ | refine belowDrewN ?_ _ | refine Below.alloc ?_ (by first | exact Nat.le_refl _ | omega | (simp; done) | (simp; omega)) _ | refine Below.setCell ?_ (by first | exact Nat.le_refl _ | omega | (simp; done) | (simp; omega)) _)⟩
  · have hhb : (house == home) = false := by simp [hho]
    obtain ⟨P, hP⟩ : ∃ P, pick31 rs ways home house = P := ⟨_, rfl⟩
    rw [hP]
    have hat : ∀ r : Nat, 1 ≤ r → r ≤ 3 → (∀ j : Nat, 1 ≤ j → j < r → row31 rs ways house j = []) → row31 rs ways house r ≠ [] → P = row31 rs ways house r := fun r h1 h3 h h' => by rw [← hP]; exact pick31_at hho h1 h3 h h'
    have hnone : (∀ j : Nat, 1 ≤ j → j < 4 → row31 rs ways house j = []) → P = [] := fun h => by rw [← hP]; exact pick31_none hho h
    have hrow : ∀ r : Int, row31 rs ways house r = (List.range n).foldl (step31 rs ways house r) [] := fun r => by unfold row31; rw [hq.1]
    have hof : ∀ W, Below w.heap.size w W → ∀ b : Nat, b < n → Calls Tryz.prog 72 #[.slice a n cap, .int .i64 house, .int .i64 ((b : Int) + 1)] W fun e w' => e = .returned (.int .i64 (ofF rs house ((b : Int) + 1))) ∧ w' = W := fun W hW' b hb => l12Of_any _ rs n house _ W (hv.below hW') hq hh1 hhn (by omega) (by omega)
    have hte : ∀ W u b, Below w.heap.size w W → b < n → IntsAt W u (ways.getD b []) → Calls Tryz.prog 73 #[.slice a n cap, u, .int .i64 ((b : Int) + 1), .int .i64 house] W fun e w' => e = .returned (.bool (tellsF rs (ways.getD b []) ((b : Int) + 1) house)) ∧ w' = W := fun W u b hW' hb hu => l31Tells_any _ rs n u _ _ _ W (hv.below hW') hq hu (hW.inn b hb) (by omega) (by omega) hh1 hhn
    have HAT := Lib.hid hat
    have HNO := Lib.hid hnone
    have HRO := Lib.hid hrow
    have HOF := Lib.hid hof
    have HTE := Lib.hid hte
    have HW := Lib.hid hW
    have H := Lib.hid hw
    have hlen : ∀ r b, ((List.range b).foldl (step31 rs ways house r) []).length ≤ 100001 ∨ n < b := fun r b => by
      by_cases h : b ≤ n
      · rcases fold31_picked (rs := rs) (ways := ways) (house := house) (rel := r) b h with e | ⟨c, hc, _, e⟩
        · rw [e]; simp
        · rw [e]; have := hW.short c hc; left; rw [List.length_cons]; omega
      · exact .inr (by omega)
    have HLEN := Lib.hid hlen
    clear hat hnone hrow hof hte hW hw hv hP hho hlen hq
    go_enter Tryz.func62, Tryz.ntmps62
    go_wp2_with fail
    go_loopg [9, 10] 3 (fun gk s9 s10 wr => ∃ (r : Nat) (best : List Int), s10 = .int .i64 (r : Int) ∧ 1 ≤ r ∧ r + gk = 4 ∧ Hid (OwnInts wr w.heap.size s9 best) ∧ Hid ((best = [] ∧ ∀ j : Nat, 1 ≤ j → j < r → row31 rs ways house j = []) ∨ (best ≠ [] ∧ best = P)) ∧ Hid (Below w.heap.size w wr))
    case atStart => exact ⟨1, [], rfl, by omega, by omega, Lib.hid (OwnInts.zero w), Lib.hid (.inl ⟨rfl, fun j h1 h2 => by omega⟩), Lib.hid (Below.alloc (Below.refl _ _) (Nat.le_refl _) _)⟩
    case round =>
      obtain ⟨r, best, rfl, hr1, hrk, O, HB, BB⟩ := hrel
      obtain ⟨ba, bc, e, hbc, hbm⟩ := O.out.form
      subst e
      by_cases hbe : best = []
      · subst hbe
        have hlow : ∀ j : Nat, 1 ≤ j → j < r → row31 rs ways house j = [] := by
          rcases HB.out with h | h
          · exact h.2
          · exact absurd rfl h.1
        have HLOW := Lib.hid hlow
        clear hlow
        by_cases hg : gk = 0
        · subst hg
          have hr4 : ¬ (r : Int) ≤ 3 := by omega
          have e := HNO.out (fun j h1 h2 => HLOW.out j h1 (by omega))
          subst e
          go_wp2_with fail
          go_ret
          exact ⟨_, rfl, O.out, BB.out⟩
        · have hr3 : (r : Int) ≤ 3 := by omega
          have hgk : 1 ≤ gk := by omega
          obtain ⟨G, hG⟩ : ∃ G, G = gk := ⟨_, rfl⟩
          go_wp2_with fail
          go_loopg [9, 11] n (fun g2 s9 s11 wr => ∃ (b : Nat) (best : List Int), s11 = .int .i64 ((b : Int) + 1) ∧ b + g2 = n ∧ Hid (OwnInts wr w.heap.size s9 best) ∧ Hid ((List.range b).foldl (step31 rs ways house (r : Int)) [] = best) ∧ Hid (Below w.heap.size w wr))
          case atStart => exact ⟨0, [], by go_num, by omega, O, Lib.hid rfl, BB⟩
          case round =>
            clear O BB HB
            obtain ⟨b, best, rfl, hb, O, HF, BB⟩ := hrel
            obtain ⟨ba, bc, e, hbc, hbm⟩ := O.out.form
            subst e
            by_cases hg : gk = 0
            · subst hg
              obtain rfl : b = n := by omega
              have hbn : ¬ (b : Int) + 1 ≤ (b : Int) := by omega
              go_wp2_with fail
              go_roundg (G - 1)
              case measure => omega
              case rel =>
                refine ⟨r + 1, best, by go_num, by omega, by omega, O, Lib.hid ?_, BB⟩
                have hrw := (HRO.out (r : Int)).trans HF.out
                by_cases hbe : best = []
                · refine .inl ⟨hbe, fun j h1 h2 => ?_⟩
                  by_cases hjr : j = r
                  · subst hjr; rw [hrw]; exact hbe
                  · exact HLOW.out j h1 (by omega)
                · exact .inr ⟨hbe, by rw [← hrw]; exact (HAT.out r hr1 (by omega) HLOW.out (by rw [hrw]; exact hbe)).symm⟩
            · have hbn : b < n := by omega
              have hbI : (b : Int) + 1 ≤ (n : Int) := by omega
              have hbI2 : (b : Int) < (n : Int) := by omega
              have b0 : (0 : Int) ≤ (b : Int) := by omega
              have e1 : (b : Int) + 1 - 1 = (b : Int) := by omega
              have hgk2 : 1 ≤ gk := by omega
              have HBN := Lib.hid hb
              obtain ⟨rb, off, u, rfl, hrb, hu1, hu⟩ := (H.out.below BB.out).get b hbn
              obtain ⟨ua, uc, e, huc, hum⟩ := hu.form
              subst e
              obtain ⟨way, hway⟩ : ∃ l, ways.getD b [] = l := ⟨_, rfl⟩
              have hwl : way.length ≤ 100000 := by rw [← hway]; have := HW.out.short b hbn; omega
              have HU := Lib.hid hu
              have HC1 := Lib.hid (HOF.out wr BB.out b hbn)
              have HC2 := Lib.hid (HTE.out wr _ b BB.out hbn hu)
              have hst : ∀ X, (List.range b).foldl (step31 rs ways house (r : Int)) [] = X → (List.range (b + 1)).foldl (step31 rs ways house (r : Int)) [] = step31 rs ways house (r : Int) X b := fun X hX => by rw [foldl_range_succ, hX]
              have HST := Lib.hid (hst best HF.out)
              clear hu hst hb hg
              rw [hway] at HC2 HU huc hu1
              have hS : step31 rs ways house (r : Int) best b = if ofF rs house ((b : Int) + 1) = (r : Int) ∧ tellsF rs way ((b : Int) + 1) house = true then (if best = [] ∨ cmpF (house :: way) best < 0 then house :: way else best) else best := by unfold step31; rw [hway]
              obtain ⟨x, hx⟩ : ∃ x, ofF rs house ((b : Int) + 1) = x := ⟨_, rfl⟩
              obtain ⟨t, ht⟩ : ∃ t, tellsF rs way ((b : Int) + 1) house = t := ⟨_, rfl⟩
              obtain ⟨m, hm'⟩ : ∃ m, best.length = m := ⟨_, rfl⟩
              obtain ⟨wl, hwl'⟩ : ∃ m, way.length = m := ⟨_, rfl⟩
              rw [hx] at HC1 hS
              rw [ht] at HC2 hS
              rw [hm'] at O hbc ⊢
              rw [hwl'] at HC2 HU huc hu1 hwl
              have HSS := Lib.hid hS
              have HM := Lib.hid hm'
              have HWL := Lib.hid hwl'
              have hm1 : m ≤ 100001 := by have := HLEN.out (r : Int) b; rw [HF.out, HM.out] at this; omega
              clear hS hx ht hway hm' hwl'
              have hnx : ∀ W sv X, Hid (OwnInts W w.heap.size sv X) → Hid (Below w.heap.size w W) → step31 rs ways house (r : Int) best b = X → ∃ (b' : Nat) (best' : List Int), Value.int .i64 ((b : Int) + 1 + 1) = .int .i64 ((b' : Int) + 1) ∧ b' + (gk - 1) = n ∧ Hid (OwnInts W w.heap.size sv best') ∧ Hid ((List.range b').foldl (step31 rs ways house (r : Int)) [] = best') ∧ Hid (Below w.heap.size w W) := fun W sv X h1 h2 h3 => ⟨b + 1, X, by congr 1, by have := HBN.out; omega, h1, Lib.hid (by rw [HST.out, h3]), h2⟩
              have HNX := Lib.hid hnx
              clear hnx
              by_cases hxr : x = (r : Int)
              · subst hxr
                have hxb : ((r : Int) != (r : Int)) = false := by simp
                cases t
                · go_wp2_with fail
                  refine HC1.out.mono ?_
                  rintro e w1 ⟨rfl, rfl⟩
                  go_wp2_with fail
                  refine HC2.out.mono ?_
                  rintro e w1 ⟨rfl, rfl⟩
                  go_wp2_with fail
                  go_roundg (gk - 1)
                  case measure => omega
                  case rel => exact HNX.out _ _ _ O BB (by rw [HSS.out]; simp)
                · have hswr : w.heap.size ≤ wr.heap.size := BB.out.size
                  have HI1 := Lib.hid (OwnInts.one wr house)
                  have hA := Below.alloc (Below.refl wr.heap.size wr) (Nat.le_refl _) (.cells #[.int .i64 house] 3)
                  have HA := Lib.hid hA
                  clear hA
                  go_wp2_with fail
                  refine HC1.out.mono ?_
                  rintro e w1 ⟨rfl, rfl⟩
                  go_wp2_with fail
                  refine HC2.out.mono ?_
                  rintro e w1 ⟨rfl, rfl⟩
                  by_cases hm0 : m = 0
                  · subst hm0
                    go_wp2_with (at_builtin; refine wpList_append_ints rfl (.tmp 53) (.tmp 58) rfl w1.heap.size _ _ [house] way (wl + 1) (by rw [HWL.out]; simp; omega) rfl HI1.out (by simp) rfl (HU.out.below HA.out) (by omega) ?_; intro ad c w2 hO2 hb2 hs2; have W2 := Lib.hid hO2; have hb12 : Below w1.heap.size w1 w2 := Below.trans HA.out hb2; have O2 := Lib.hid (O.out.below hb12); have B2 := Lib.hid (BB.out.trans (hb12.mono hswr)); clear hO2 hb2 hb12)
                    have W2' : Hid (OwnInts w2 w.heap.size (.slice ad (wl + 1) c) (house :: way)) := Lib.hid (W2.out.lift hswr)
                    clear W2
                    go_roundg (gk - 1)
                    case measure => omega
                    case rel => exact HNX.out _ _ _ W2' B2 (by rw [HSS.out, if_pos (by simp), if_pos (.inl (List.length_eq_zero_iff.1 HM.out))])
                  · have hmb : ((m : Int) == 0) = false := by simp [hm0]
                    have hbn' : best ≠ [] := by intro e; apply hm0; rw [← HM.out, e]; rfl
                    have HBE := Lib.hid hbn'
                    clear hbn'
                    go_wp2_with (at_builtin; refine wpList_append_ints rfl (.tmp 53) (.tmp 58) rfl w1.heap.size _ _ [house] way (wl + 1) (by rw [HWL.out]; simp; omega) rfl HI1.out (by simp) rfl (HU.out.below HA.out) (by omega) ?_; intro ad c w2 hO2 hb2 hs2; have W2 := Lib.hid hO2; have hb12 : Below w1.heap.size w1 w2 := Below.trans HA.out hb2; have O2 := Lib.hid (O.out.below hb12); have B2 := Lib.hid (BB.out.trans (hb12.mono hswr)); clear hO2 hb2 hb12)
                    have W2' : Hid (OwnInts w2 w.heap.size (.slice ad (wl + 1) c) (house :: way)) := Lib.hid (W2.out.lift hswr)
                    clear W2
                    have HCM := Lib.hid (cmp_any _ _ (house :: way) best w2 W2'.out.ints O2.out.ints)
                    obtain ⟨q, hq⟩ : ∃ q, cmpF (house :: way) best = q := ⟨_, rfl⟩
                    rw [hq] at HCM HSS
                    clear hq
                    refine HCM.out.mono ?_
                    rintro e w3 ⟨rfl, hd⟩
                    have W3 := Lib.hid (W2'.out.below (hd.below _))
                    have O3 := Lib.hid (O2.out.below (hd.below _))
                    have B3 := Lib.hid (B2.out.trans (hd.below _))
                    clear hd
                    by_cases hq0 : q < 0
                    · go_wp2_with fail
                      go_roundg (gk - 1)
                      case measure => omega
                      case rel => exact HNX.out _ _ _ W3 B3 (by rw [HSS.out, if_pos (by simp), if_pos (.inr hq0)])
                    · go_wp2_with fail
                      go_roundg (gk - 1)
                      case measure => omega
                      case rel => exact HNX.out _ _ _ O3 B3 (by rw [HSS.out, if_pos (by simp), if_neg (fun h => h.elim HBE.out (by omega))])
              · have hxb : (x != (r : Int)) = true := by simp [hxr]
                go_wp2_with fail
                refine HC1.out.mono ?_
                rintro e w1 ⟨rfl, rfl⟩
                go_wp2_with fail
                go_roundg (gk - 1)
                case measure => omega
                case rel => exact HNX.out _ _ _ O BB (by rw [HSS.out, if_neg (fun h => hxr h.1)])
      · have hP : best = P := by
          rcases HB.out with h | h
          · exact absurd h.1 hbe
          · exact h.2
        obtain ⟨m, hm'⟩ : ∃ m, best.length = m := ⟨_, rfl⟩
        have hm0 : m ≠ 0 := by intro e; subst e; exact hbe (List.length_eq_zero_iff.1 hm')
        have hmb : ((m : Int) == 0) = false := by simp [hm0]
        rw [hm'] at hbc O ⊢
        subst hP
        by_cases hr3 : (r : Int) ≤ 3
        · go_wp2_with fail
          go_ret
          exact ⟨_, rfl, O.out, BB.out⟩
        · go_wp2_with fail
          go_ret
          exact ⟨_, rfl, O.out, BB.out⟩
end Go.Proofs.YtlpibfafpljedaaGreatDoor

namespace Go.Proofs.YtlpibfafpljedaaGreatDoor
open Go.RowKit
set_option linter.unusedVariables false

def none31 (n : Nat) (home : Int) : List (List Int) := (List.range n).map fun i => if ((i : Nat) : Int) + 1 = home then [home] else []
def net31 (rs ways : List (List Int)) (home house : Int) (n : Nat) : List (List Int) := (List.range n).map fun i => if ((i : Nat) : Int) + 1 = house then pick31 rs ways home house else ways.getD i []
theorem map_range_getD {α : Type} (f : Nat → List α) (n i : Nat) (hi : i < n) : ((List.range n).map f).getD i [] = f i := by simp [hi]
theorem map_range_succ {α : Type} (f : Nat → α) (n : Nat) : (List.range (n + 1)).map f = (List.range n).map f ++ [f n] := by rw [List.range_succ, List.map_append]; rfl
/-- every house but home has no way, or one of two houses at least -/
def Far31 (ways : List (List Int)) (home : Int) (n : Nat) : Prop := ∀ i : Nat, i < n → (i : Int) + 1 ≠ home → ways.getD i [] = [] ∨ 2 ≤ (ways.getD i []).length
theorem none31_ways (n L : Nat) (home : Int) (hL : 1 ≤ L) : Ways31 (none31 n home) n L := by
  refine ⟨by simp [none31], fun i hi z hz => ?_, fun i hi => ?_⟩
  · unfold none31 at hz
    rw [map_range_getD _ _ _ hi] at hz
    split at hz
    · simp at hz; omega
    · simp at hz
  · unfold none31
    rw [map_range_getD _ _ _ hi]
    split <;> simp <;> omega
theorem none31_far (n : Nat) (home : Int) : Far31 (none31 n home) home n := fun i hi hne => by
  unfold none31
  rw [map_range_getD _ _ _ hi, if_neg hne]
  exact .inl rfl
theorem net31_ways {rs ways : List (List Int)} {n L : Nat} {home house : Int} (hq : rs.length = n) (h : Ways31 ways n L) (h1 : 1 ≤ house) (hn : house ≤ n) : Ways31 (net31 rs ways home house n) n (L + 1) := by
  refine ⟨by simp [net31], fun i hi z hz => ?_, fun i hi => ?_⟩
  · unfold net31 at hz
    rw [map_range_getD _ _ _ hi] at hz
    split at hz
    · by_cases hh : house = home
      · subst hh
        rw [pick31_home] at hz
        simp at hz; omega
      · rcases pick31_picked rs ways hh with e | ⟨b, hb, _, e⟩
        · rw [e] at hz; simp at hz
        · rw [e] at hz
          rcases List.mem_cons.1 hz with rfl | hz
          · omega
          · exact h.inn b (by omega) z hz
    · exact h.inn i hi z hz
  · unfold net31
    rw [map_range_getD _ _ _ hi]
    split
    · by_cases hh : house = home
      · subst hh
        rw [pick31_home]
        simp
      · rcases pick31_picked rs ways hh with e | ⟨b, hb, _, e⟩
        · rw [e]; simp
        · rw [e, List.length_cons]; have := h.short b (by omega); omega
    · have := h.short i hi; omega
theorem net31_far {rs ways : List (List Int)} {n : Nat} {home house : Int} (h : Far31 ways home n) : Far31 (net31 rs ways home house n) home n := fun i hi hne => by
  unfold net31
  rw [map_range_getD _ _ _ hi]
  split
  · rename_i hh
    rcases pick31_picked rs ways (home := home) (house := house) (by omega) with e | ⟨b, hb, hbn, e⟩
    · exact .inl e
    · right
      rw [e, List.length_cons]
      have : (ways.getD b []).length ≠ 0 := fun e => hbn (List.length_eq_zero_iff.1 e)
      omega
  · exact h i hi hne
set_option maxRecDepth 100000 in
set_option maxHeartbeats 4000000 in
theorem l31None_any (v : Value) (rs : List (List Int)) (n : Nat) (home : Int) (w : World) (hv : RowsAt w v rs) (hl : rs.length = n) (hn : n ≤ 1000) :
    Calls Tryz.prog 41 #[v, .int .i64 home] w fun e w' => ∃ v', e = .returned v' ∧ RowsL w' w.heap.size v' (none31 n home) ∧ Below w.heap.size w w' := by
  obtain ⟨a, cap, rfl, hc, hm⟩ := hv.form
  rw [hl] at hc ⊢
  clear hv hl rs
  go_enter Tryz.func41, Tryz.ntmps41
  go_wp2_with fail
  go_loopg [5, 6] n (fun gk s5 s6 wr => ∃ i : Nat, s6 = .int .i64 ((i : Int) + 1) ∧ i + gk = n ∧ Hid (RowsL wr w.heap.size s5 (none31 i home)) ∧ Hid (Below w.heap.size w wr))
  case atStart => exact ⟨0, by go_num, by omega, Lib.hid (RowsL.zero w), Lib.hid (Below.alloc (Below.refl _ _) (Nat.le_refl _) _)⟩
  case round =>
    obtain ⟨i, rfl, hi, O, BB⟩ := hrel
    obtain ⟨oa, oc, e, hoc, hocm⟩ := O.out.form
    subst e
    have hlen : (none31 i home).length = i := by simp [none31]
    rw [hlen] at hoc O ⊢
    have HL := Lib.hid hlen
    clear hlen
    have hswr : w.heap.size ≤ wr.heap.size := BB.out.size
    by_cases hg : gk = 0
    · subst hg
      obtain rfl : i = n := by omega
      have hdn : ¬ (i : Int) + 1 ≤ (i : Int) := by omega
      go_wp2_with fail
      go_ret
      exact ⟨_, rfl, O.out, BB.out⟩
    · have hin : (i : Int) + 1 ≤ (n : Int) := by omega
      have hgk : 1 ≤ gk := by omega
      have hnx : none31 (i + 1) home = none31 i home ++ [if (i : Int) + 1 = home then [home] else []] := map_range_succ _ _
      have HNX := Lib.hid hnx
      clear hnx
      by_cases hh : (i : Int) + 1 = home
      · have HH := Lib.hid hh
        have hhb : ((i : Int) + 1 == home) = true := by simp [hh]
        have HI1 := Lib.hid ((OwnInts.one wr home).lift hswr)
        have hA := Below.alloc (Below.refl wr.heap.size wr) (Nat.le_refl _) (.cells #[.int .i64 home] 3)
        have O1 := Lib.hid (O.out.below hA)
        have B1 := Lib.hid (BB.out.trans (hA.mono hswr))
        clear hA hh
        go_wp2_with (at_builtin; refine wpList_append_row rfl (.tmp 17) (.tmp 20) rfl w.heap.size _ _ _ [home] i HL.out rfl O1.out (by simp; omega) _ rfl (by simp) HI1.out ⟨_, _, _, rfl⟩ (by omega) ?_; intro ad c w2 hR2 hb2 hs2; have R2 := Lib.hid hR2; have B2 := Lib.hid (B1.out.trans hb2); clear hR2 hb2)
        go_roundg (gk - 1)
        case measure => omega
        case rel => exact ⟨i + 1, by go_num, by omega, Lib.hid (by rw [HNX.out, if_pos HH.out]; exact R2.out), B2⟩
      · have HH := Lib.hid hh
        have hhb : ((i : Int) + 1 == home) = false := by simp [hh]
        have HI1 := Lib.hid ((OwnInts.zero wr).lift hswr)
        have hA := Below.alloc (Below.refl wr.heap.size wr) (Nat.le_refl _) (.cells #[] 3)
        have O1 := Lib.hid (O.out.below hA)
        have B1 := Lib.hid (BB.out.trans (hA.mono hswr))
        clear hA hh
        go_wp2_with (at_builtin; refine wpList_append_row rfl (.tmp 22) (.tmp 24) rfl w.heap.size _ _ _ [] i HL.out rfl O1.out (by simp; omega) _ rfl (by simp) HI1.out ⟨_, _, _, rfl⟩ (by omega) ?_; intro ad c w2 hR2 hb2 hs2; have R2 := Lib.hid hR2; have B2 := Lib.hid (B1.out.trans hb2); clear hR2 hb2)
        go_roundg (gk - 1)
        case measure => omega
        case rel => exact ⟨i + 1, by go_num, by omega, Lib.hid (by rw [HNX.out, if_neg HH.out]; exact R2.out), B2⟩
set_option maxRecDepth 100000 in
set_option maxHeartbeats 4000000 in
theorem l31Step_any (v wv : Value) (rs ways : List (List Int)) (n L : Nat) (home house : Int) (w : World) (hv : RowsAt w v rs) (hq : Square rs n) (hw : RowsAt w wv ways) (hW : Ways31 ways n L) (hn : n ≤ 1000) (hL : L ≤ 100000) (hh1 : 1 ≤ house) (hhn : house ≤ n) :
    Calls Tryz.prog 42 #[v, .int .i64 home, wv, .int .i64 house] w fun e w' => ∃ v', e = .returned v' ∧ RowsL w' w.heap.size v' (net31 rs ways home house n) ∧ Below w.heap.size w w' := by
  obtain ⟨a, cap, rfl, hc, hm⟩ := hv.form
  obtain ⟨wa, wc, rfl, hwc, hwm⟩ := hw.form
  rw [hq.1] at hv hc ⊢
  rw [hW.len] at hw hwc ⊢
  have hpk : ∀ W, Below w.heap.size w W → Calls Tryz.prog 62 #[.slice a n cap, .int .i64 home, .slice wa n wc, .int .i64 house] W fun e w' => ∃ v', e = .returned v' ∧ OwnInts w' W.heap.size v' (pick31 rs ways home house) ∧ Below W.heap.size W w' := fun W hb => l31Pick_any _ _ rs ways n L home house W (hv.below hb) hq (hw.below hb) hW hn hL hh1 hhn
  have HPK := Lib.hid hpk
  have H := Lib.hid hw
  have HSH := Lib.hid hW.short
  clear hv hq hW hpk hw
  go_enter Tryz.func42, Tryz.ntmps42
  go_wp2_with fail
  go_loopg [9, 10] n (fun gk s9 s10 wr => ∃ i : Nat, s10 = .int .i64 (i : Int) ∧ i + gk = n ∧ Hid (RowsL wr w.heap.size s9 (net31 rs ways home house i)) ∧ Hid (Below w.heap.size w wr))
  case atStart => exact ⟨0, by go_num, by omega, Lib.hid (RowsL.zero w), Lib.hid (Below.alloc (Below.refl _ _) (Nat.le_refl _) _)⟩
  case round =>
    obtain ⟨i, rfl, hi, O, BB⟩ := hrel
    obtain ⟨oa, oc, e, hoc, hocm⟩ := O.out.form
    subst e
    have hlen : (net31 rs ways home house i).length = i := by simp [net31]
    rw [hlen] at hoc O ⊢
    have HL := Lib.hid hlen
    clear hlen
    have hswr : w.heap.size ≤ wr.heap.size := BB.out.size
    by_cases hg : gk = 0
    · subst hg
      obtain rfl : i = n := by omega
      have hdn : decide ((i : Int) < (i : Int)) = false := by simp
      go_wp2_with fail
      go_ret
      exact ⟨_, rfl, O.out, BB.out⟩
    · have hin : (i : Int) < (n : Int) := by omega
      have hinN : i < n := by omega
      have i0 : (0 : Int) ≤ (i : Int) := by omega
      have hgk : 1 ≤ gk := by omega
      have hnx : net31 rs ways home house (i + 1) = net31 rs ways home house i ++ [if (i : Int) + 1 = house then pick31 rs ways home house else ways.getD i []] := map_range_succ _ _
      have HNX := Lib.hid hnx
      clear hnx
      by_cases hh : (i : Int) + 1 = house
      · have HH := Lib.hid hh
        have hhb : ((i : Int) + 1 == house) = true := by simp [hh]
        clear hh
        go_wp2_with fail
        refine (HPK.out wr BB.out).mono ?_
        rintro e w1 ⟨u, rfl, hu, hb1⟩
        have O1 := Lib.hid (O.out.below hb1)
        have U1 := Lib.hid (hu.lift hswr)
        have B1 := Lib.hid (BB.out.trans (hb1.mono hswr))
        have hs1 : w.heap.size ≤ w1.heap.size := B1.out.size
        obtain ⟨ua, uc, e, _, _⟩ := hu.form
        subst e
        clear hu hb1
        go_wp2_with (at_builtin; refine wpList_append_row rfl (.tmp 22) (.tmp 28) rfl w.heap.size _ _ _ (pick31 rs ways home house) i HL.out rfl O1.out hs1 _ rfl rfl U1.out ⟨_, _, _, rfl⟩ (by omega) ?_; intro ad c w2 hR2 hb2 hs2; have R2 := Lib.hid hR2; have B2 := Lib.hid (B1.out.trans hb2); clear hR2 hb2)
        go_roundg (gk - 1)
        case measure => omega
        case rel => exact ⟨i + 1, by go_num, by omega, Lib.hid (by rw [HNX.out, if_pos HH.out]; exact R2.out), B2⟩
      · have HH := Lib.hid hh
        have hhb : ((i : Int) + 1 == house) = false := by simp [hh]
        obtain ⟨rb, off, u, rfl, hrb, hu1, hu⟩ := (H.out.below BB.out).get i hinN
        obtain ⟨ua, uc, e, huc, hum⟩ := hu.form
        subst e
        have hsh := HSH.out i hinN
        obtain ⟨wl, hwl⟩ : ∃ m, (ways.getD i []).length = m := ⟨_, rfl⟩
        rw [hwl] at hu1 huc hu hsh
        have hA := Below.alloc (Below.refl wr.heap.size wr) (Nat.le_refl _) (.cells #[] 3)
        have HI1 := Lib.hid (OwnInts.zero wr)
        have HU := Lib.hid (hu.below hA)
        have O1 := Lib.hid (O.out.below hA)
        have B1 := Lib.hid (BB.out.trans (hA.mono hswr))
        have HWL := Lib.hid hwl
        have hA2 := Lib.hid hA
        clear hA hh hu hwl
        go_wp2_with (first
          | (at_builtin; refine wpList_append_ints rfl (.tmp 31) (.tmp 35) rfl wr.heap.size _ _ [] (ways.getD i []) wl (by rw [HWL.out]; simp) rfl HI1.out (by simp) rfl HU.out (by omega) ?_; intro ad c w2 hO2 hb2 hs2; have W2 := Lib.hid (hO2.lift hswr); have O2 := Lib.hid (RowsL.below O.out (hA2.out.trans hb2)); have B2 := Lib.hid (BB.out.trans ((hA2.out.trans hb2).mono hswr)); have hs2 : w.heap.size ≤ w2.heap.size := B2.out.size; clear hO2 hb2)
          | (at_builtin; refine wpList_append_row rfl (.tmp 30) (.tmp 37) rfl w.heap.size _ _ _ (ways.getD i []) i HL.out rfl O2.out hs2 _ rfl rfl W2.out ⟨_, _, _, rfl⟩ (by omega) ?_; intro ad3 c3 w3 hR3 hb3 hs3; have R3 := Lib.hid hR3; have B3 := Lib.hid (B2.out.trans hb3); clear hR3 hb3))
        go_roundg (gk - 1)
        case measure => omega
        case rel => exact ⟨i + 1, by go_num, by omega, Lib.hid (by rw [HNX.out, if_neg HH.out]; exact R3.out), B3⟩
end Go.Proofs.YtlpibfafpljedaaGreatDoor

namespace Go.Proofs.YtlpibfafpljedaaGreatDoor
open Go.RowKit
set_option linter.unusedVariables false

def endTo31 (rs : List (List Int)) (home : Int) (n k : Nat) : List (List Int) := (List.range k).foldl (fun ways i => net31 rs ways home (((i % n : Nat) : Int) + 1) n) (none31 n home)
def end31 (rs : List (List Int)) (home : Int) (n : Nat) : List (List Int) := endTo31 rs home n (4 * n * n)
theorem endTo31_succ (rs : List (List Int)) (home : Int) (n k : Nat) : endTo31 rs home n (k + 1) = net31 rs (endTo31 rs home n k) home (((k % n : Nat) : Int) + 1) n := foldl_range_succ _ _ _
theorem endTo31_ways {rs : List (List Int)} {home : Int} {n : Nat} (hq : rs.length = n) (hn : 1 ≤ n) : ∀ k, Ways31 (endTo31 rs home n k) n (k + 1)
  | 0 => none31_ways n 1 home (Nat.le_refl _)
  | k + 1 => by
    rw [endTo31_succ]
    have := Nat.mod_lt k (show n > 0 by omega)
    exact net31_ways hq (endTo31_ways hq hn k) (by omega) (by omega)
theorem endTo31_far {rs : List (List Int)} {home : Int} {n : Nat} : ∀ k, Far31 (endTo31 rs home n k) home n
  | 0 => none31_far n home
  | k + 1 => by rw [endTo31_succ]; exact net31_far (endTo31_far k)
theorem mul_facts (n : Nat) (h5 : n ≤ 5) : ∃ N : Nat, 4 * n * n = N ∧ N ≤ 100 ∧ IntKind.i64.wrap (4 * (n : Int)) = 4 * (n : Int) ∧ (4 : Int) * (n : Int) * (n : Int) = (N : Int) ∧ IntKind.i64.wrap (N : Int) = (N : Int) := by
  have hN : 4 * n * n ≤ 100 := by
    have : n = 0 ∨ n = 1 ∨ n = 2 ∨ n = 3 ∨ n = 4 ∨ n = 5 := by omega
    rcases this with rfl | rfl | rfl | rfl | rfl | rfl <;> decide
  exact ⟨4 * n * n, rfl, hN, IntWalk.i64_in _ (by omega), by push_cast; rfl, IntWalk.i64_in _ (by omega)⟩
theorem rem_facts (i n : Nat) (hn : 1 ≤ n) (h5 : n ≤ 5) : ∃ r : Nat, i % n = r ∧ (i : Int).tmod (n : Int) = (r : Int) ∧ IntKind.i64.wrap (r : Int) = (r : Int) ∧ r < n := by
  have := Nat.mod_lt i (show n > 0 by omega)
  refine ⟨i % n, rfl, ?_, IntWalk.i64_in _ (by omega), this⟩
  rw [Int.tmod_eq_emod_of_nonneg (by omega)]; rfl
set_option maxRecDepth 100000 in
set_option maxHeartbeats 4000000 in
theorem l31End_any (v : Value) (rs : List (List Int)) (n : Nat) (home : Int) (w : World) (hv : RowsAt w v rs) (hq : Square rs n) (hn : 1 ≤ n) (h5 : n ≤ 5) :
    Calls Tryz.prog 20 #[v, .int .i64 home] w fun e w' => ∃ v', e = .returned v' ∧ RowsL w' w.heap.size v' (end31 rs home n) ∧ Below w.heap.size w w' := by
  obtain ⟨a, cap, rfl, hc, hm⟩ := hv.form
  rw [hq.1] at hv hc ⊢
  obtain ⟨N, hN, hN1, hw4, hmul, hwN⟩ := mul_facts n h5
  have hE : end31 rs home n = endTo31 rs home n N := by unfold end31; rw [hN]
  rw [hE]
  have hst : ∀ W wv i, Below w.heap.size w W → i < N → RowsAt W wv (endTo31 rs home n i) → ∀ r : Nat, i % n = r → Calls Tryz.prog 42 #[.slice a n cap, .int .i64 home, wv, .int .i64 ((r : Int) + 1)] W fun e w' => ∃ v', e = .returned v' ∧ RowsL w' W.heap.size v' (endTo31 rs home n (i + 1)) ∧ Below W.heap.size W w' := fun W wv i hb hi hw r hr => by
    have := Nat.mod_lt i (show n > 0 by omega)
    have := l31Step_any _ wv rs (endTo31 rs home n i) n (i + 1) home ((r : Int) + 1) W (hv.below hb) hq hw (endTo31_ways hq.1 hn i) (by omega) (by omega) (by omega) (by omega)
    rw [endTo31_succ, hr]
    exact this
  have HST := Lib.hid hst
  have H0 := Lib.hid (fun W hb => l31None_any (.slice a n cap) rs n home W (hv.below hb) hq.1 (by omega))
  clear hst hv hq hE hN
  go_enter Tryz.func20, Tryz.ntmps20
  go_wp2_with fail
  refine (H0.out w (Below.refl _ _)).mono ?_
  rintro e w1 ⟨v1, rfl, hR1, hb1⟩
  have R1 := Lib.hid hR1
  have B1 := Lib.hid hb1
  clear hR1 hb1
  go_wp2_with fail
  go_loopg [5, 6] N (fun gk s5 s6 wr => ∃ i : Nat, s6 = .int .i64 (i : Int) ∧ i + gk = N ∧ Hid (RowsL wr w.heap.size s5 (endTo31 rs home n i)) ∧ Hid (Below w.heap.size w wr))
  case atStart => exact ⟨0, rfl, by omega, R1, B1⟩
  case round =>
    obtain ⟨i, rfl, hi, O, BB⟩ := hrel
    have hswr : w.heap.size ≤ wr.heap.size := BB.out.size
    by_cases hg : gk = 0
    · subst hg
      obtain rfl : i = N := by omega
      have hdn : decide ((i : Int) < (i : Int)) = false := by simp
      go_wp2_with fail
      go_ret
      exact ⟨_, rfl, O.out, BB.out⟩
    · have hiN : i < N := by omega
      have hiI : (i : Int) < (N : Int) := by omega
      have hgk : 1 ≤ gk := by omega
      have hn0 : (n : Int) ≠ 0 := by omega
      have hnb : ((n : Int) == 0) = false := by simp; omega
      obtain ⟨r, hr, hr1, hr2, hr3⟩ := rem_facts i n hn h5
      have HC := Lib.hid (HST.out wr _ i BB.out hiN O.out.rows r hr)
      clear hr
      go_wp2_with fail
      refine HC.out.mono ?_
      rintro e w2 ⟨v2, rfl, hR2, hb2⟩
      have R2 := Lib.hid (hR2.lift hswr)
      have B2 := Lib.hid (BB.out.trans (hb2.mono hswr))
      clear hR2 hb2
      go_wp2_with fail
      go_roundg (gk - 1)
      case measure => omega
      case rel => exact ⟨i + 1, by go_num, by omega, R2, B2⟩
end Go.Proofs.YtlpibfafpljedaaGreatDoor
