/- A part of the proof; packed by a program of mine out of my texts. -/
import Derived.Test.YtnecdeaikmhanaaGreatDoorPE0
import Derived.Test.YtnecdeaikmhanaaGreatDoorPE1
import Derived.Test.YtnecdeaikmhanaaGreatDoorPE2
import Derived.Test.YtnecdeaikmhanaaGreatDoorPE3
import Derived.Test.YtnecdeaikmhanaaGreatDoorPE4
import Derived.Test.YtnecdeaikmhanaaGreatDoorPE5
import Derived.Test.YtnecdeaikmhanaaGreatDoorPE6
import Derived.Deep.LoopGhost
import Derived.Deep.QuietTactic
import Derived.BigQuiet
namespace Go.Proofs.YtnecdeaikmhanaaGreatDoor
set_option linter.unusedVariables false
def cmpL : List Int → List Int → Int
  | a :: xs, b :: ys => if a < b then -1 else if b < a then 1 else cmpL xs ys
  | _, _ => 0
def cmpF (l m : List Int) : Int := if l.length < m.length then -1 else if m.length < l.length then 1 else cmpL l m
theorem cmpL_zero : ∀ (l m : List Int), l.length = m.length → (cmpL l m = 0 ↔ l = m)
  | [], [], _ => by simp [cmpL]
  | a :: xs, b :: ys, h => by
    have ih := cmpL_zero xs ys (by simpa using h)
    unfold cmpL
    by_cases h1 : a < b
    · rw [if_pos h1]; constructor
      · intro e; omega
      · intro e; simp at e; omega
    · rw [if_neg h1]
      by_cases h2 : b < a
      · rw [if_pos h2]; constructor
        · intro e; omega
        · intro e; simp at e; omega
      · rw [if_neg h2, ih]
        have : a = b := by omega
        subst this; simp
  | [], _ :: _, h => by simp at h
  | _ :: _, [], h => by simp at h
theorem cmpF_zero (l m : List Int) : cmpF l m = 0 ↔ l = m := by
  unfold cmpF
  by_cases h1 : l.length < m.length
  · rw [if_pos h1]; constructor
    · intro e; omega
    · intro e; subst e; omega
  · rw [if_neg h1]
    by_cases h2 : m.length < l.length
    · rw [if_pos h2]; constructor
      · intro e; omega
      · intro e; subst e; omega
    · rw [if_neg h2]; exact cmpL_zero l m (by omega)
theorem cmpL_at : ∀ (k : Nat) (l m : List Int), k < l.length → k < m.length → (∀ j, j < k → l.getD j 0 = m.getD j 0) →
    cmpL l m = cmpL (l.drop k) (m.drop k)
  | 0, l, m, _, _, _ => by simp
  | k + 1, [], _, h, _, _ => by simp at h
  | k + 1, _ :: _, [], _, h, _ => by simp at h
  | k + 1, a :: xs, b :: ys, h1, h2, h => by
    have h0 : a = b := by simpa using h 0 (by omega)
    subst h0
    rw [List.drop_succ_cons, List.drop_succ_cons, ← cmpL_at k xs ys (by simpa using h1) (by simpa using h2) (fun j hj => by simpa using h (j + 1) (by omega))]
    conv => lhs; unfold cmpL
    rw [if_neg (by omega), if_neg (by omega)]
theorem cmpF_lt {l m : List Int} {k : Nat} (hl : l.length = m.length) (hk : k < l.length) (h : ∀ j, j < k → l.getD j 0 = m.getD j 0) (hlt : l.getD k 0 < m.getD k 0) : cmpF l m = -1 := by
  unfold cmpF
  rw [if_neg (by omega), if_neg (by omega), cmpL_at k l m hk (by omega) h, List.drop_eq_getElem_cons hk, List.drop_eq_getElem_cons (by omega : k < m.length)]
  unfold cmpL
  rw [if_pos]
  simpa [List.getElem?_eq_getElem hk, List.getElem?_eq_getElem (by omega : k < m.length)] using hlt
theorem cmpF_gt {l m : List Int} {k : Nat} (hl : l.length = m.length) (hk : k < l.length) (h : ∀ j, j < k → l.getD j 0 = m.getD j 0) (hlt : m.getD k 0 < l.getD k 0) : cmpF l m = 1 := by
  have e1 : l.getD k 0 = l[k] := by simp [List.getElem?_eq_getElem hk]
  have e2 : m.getD k 0 = m[k]'(by omega) := by simp [List.getElem?_eq_getElem (by omega : k < m.length)]
  rw [e1, e2] at hlt
  unfold cmpF
  rw [if_neg (by omega), if_neg (by omega), cmpL_at k l m hk (by omega) h, List.drop_eq_getElem_cons hk, List.drop_eq_getElem_cons (by omega : k < m.length)]
  unfold cmpL
  rw [if_neg (by omega), if_pos hlt]
theorem cmpF_same {l m : List Int} (hl : l.length = m.length) (h : ∀ j, j < l.length → l.getD j 0 = m.getD j 0) : cmpF l m = 0 :=
  (cmpF_zero l m).2 (same_list hl h)
end Go.Proofs.YtnecdeaikmhanaaGreatDoor
namespace Go.Proofs.YtnecdeaikmhanaaGreatDoor
open Go.RowKit
set_option linter.unusedVariables false
set_option maxHeartbeats 1000000 in
theorem cmp_any (v v2 : Value) (l l2 : List Int) (w : World) (h : IntsAt w v l) (h2 : IntsAt w v2 l2) :
    Calls Tryz.prog 149 #[v, v2] w fun e w' => e = .returned (.int .i64 (cmpF l l2)) ∧ Drew w w' := by
  obtain ⟨a, cap, rfl, hc, hm, h⟩ := h
  obtain ⟨a2, cap2, rfl, hc2, hm2, h2⟩ := h2
  unfold maxLen at hm hm2
  obtain ⟨n, hn⟩ : ∃ n, l.length = n := ⟨_, rfl⟩
  obtain ⟨n2, hn2⟩ : ∃ n, l2.length = n := ⟨_, rfl⟩
  rw [hn] at hc h ⊢
  rw [hn2] at hc2 h2 ⊢
  obtain ⟨c, hcc⟩ : ∃ c, cmpF l l2 = c := ⟨_, rfl⟩
  rw [hcc]
  have HC := Lib.hid hcc
  have HN := Lib.hid hn
  have HN2 := Lib.hid hn2
  have H := Lib.hid h
  have H2 := Lib.hid h2
  clear hn hn2 h h2 hcc
  by_cases hnn : n = n2
  · subst hnn
    go_enter Tryz.func149, Tryz.ntmps149
    go_wp2_with fail
    go_loopg [5] n (fun g i wr => ∃ k m : Nat, i = .int .i64 k ∧ k + g = n ∧ wr = w.drewN m ∧ Hid (∀ j, j < k → l.getD j 0 = l2.getD j 0))
    case atStart => exact ⟨0, 0, rfl, by omega, rfl, fun j hj => by omega⟩
    case round =>
      obtain ⟨k, m, rfl, hk, rfl, hno⟩ := hrel
      by_cases hg : gk = 0
      · subst hg
        obtain rfl : k = n := by omega
        have e := HC.out
        rw [cmpF_same (by rw [HN.out, HN2.out]) (by rw [HN.out]; exact hno.out)] at e
        subst e
        go_wp2_with fail
        go_ret
        exact ⟨rfl, m, rfl⟩
      · have hkn : k < n := by omega
        have hkn2 : (k : Int) < (n : Int) := by omega
        rcases H.out with h0 | ⟨b, off, rfl, hb, hcell⟩
        · omega
        · rcases H2.out with h0 | ⟨b2, off2, rfl, hb2, hcell2⟩
          · omega
          · have hx := hcell k hkn
            have hx2 := hcell2 k hkn
            clear hcell hcell2
            obtain ⟨y, hy⟩ : ∃ y, l.getD k 0 = y := ⟨_, rfl⟩
            obtain ⟨y2, hy2⟩ : ∃ y, l2.getD k 0 = y := ⟨_, rfl⟩
            rw [hy] at hx
            rw [hy2] at hx2
            have HY := Lib.hid hy
            have HY2 := Lib.hid hy2
            have HK := Lib.hid hk
            clear hy hy2 hk
            by_cases hyx : y = y2
            · have hlt1 : ¬ y < y2 := by omega
              have hlt2 : ¬ y2 < y := by omega
              have HE := Lib.hid hyx
              clear hyx
              go_wp2_with fail
              go_quiet (fail)
              revert nq
              intro q1
              go_wp2_with fail
              go_quiet (fail)
              go_wp2_with fail
              go_roundg (gk - 1)
              case measure => omega
              case rel =>
                refine ⟨k + 1, m + q1 + nq, by go_num, by have := HK.out; omega, rfl, fun j hj => ?_⟩
                by_cases hjk : j = k
                · subst hjk; rw [HY.out, HY2.out]; exact HE.out
                · exact hno.out j (by omega)
            · by_cases hlt : y < y2
              · have e := HC.out
                rw [cmpF_lt (k := k) (by rw [HN.out, HN2.out]) (by rw [HN.out]; exact hkn) hno.out (by rw [HY.out, HY2.out]; exact hlt)] at e
                subst e
                go_wp2_with fail
                go_quiet (fail)
                go_wp2_with fail
                go_ret
                exact ⟨rfl, by repeat (first | exact Drew.refl _ | assumption | refine Drew.more ?_ _)⟩
              · have hgt : y2 < y := by omega
                have e := HC.out
                rw [cmpF_gt (k := k) (by rw [HN.out, HN2.out]) (by rw [HN.out]; exact hkn) hno.out (by rw [HY.out, HY2.out]; exact hgt)] at e
                subst e
                go_wp2_with fail
                go_quiet (fail)
                go_wp2_with fail
                go_quiet (fail)
                go_wp2_with fail
                go_ret
                exact ⟨rfl, by repeat (first | exact Drew.refl _ | assumption | refine Drew.more ?_ _)⟩
  · have hne : ¬ ((n : Int) = (n2 : Int)) := by omega
    have e := HC.out
    unfold cmpF at e
    rw [HN.out, HN2.out] at e
    by_cases hlt : (n : Int) < (n2 : Int)
    · rw [if_pos (by omega)] at e
      subst e
      go_enter Tryz.func149, Tryz.ntmps149
      go_wp2_with fail
      go_ret
      exact ⟨rfl, Drew.refl _⟩
    · rw [if_neg (by omega), if_pos (by omega)] at e
      subst e
      go_enter Tryz.func149, Tryz.ntmps149
      go_wp2_with fail
      go_ret
      exact ⟨rfl, Drew.refl _⟩
end Go.Proofs.YtnecdeaikmhanaaGreatDoor
namespace Go.Proofs.YtnecdeaikmhanaaGreatDoor
open Go.RowKit
set_option linter.unusedVariables false
def Square (rs : List (List Int)) (n : Nat) : Prop := rs.length = n ∧ ∀ i, i < n → (rs.getD i []).length = n
def ofF (rs : List (List Int)) (x y : Int) : Int := relAt rs (x - 1).toNat (y - 1).toNat
def mayF (rs : List (List Int)) (house o t : Int) : Bool := decide (ofF rs house t ≠ 0) && (decide (o = 0) || decide (ofF rs house o = 1) || decide (ofF rs house t = 1))
def tellsF (rs : List (List Int)) (way : List Int) (house t : Int) : Bool := decide (way ≠ []) && !decide (t ∈ way) && mayF rs house (if 1 < way.length then way.getD 1 0 else 0) t
set_option maxHeartbeats 4000000 in
theorem l12Of_any (v : Value) (rs : List (List Int)) (n : Nat) (x y : Int) (w : World) (hv : RowsAt w v rs) (hq : Square rs n) (hx : 1 ≤ x) (hxn : x ≤ n) (hy : 1 ≤ y) (hyn : y ≤ n) :
    Calls Tryz.prog 119 #[v, .int .i64 x, .int .i64 y] w fun e w' => e = .returned (.int .i64 (ofF rs x y)) ∧ w' = w := by
  obtain ⟨a, cap, rfl, hc, hm⟩ := hv.form
  obtain ⟨i, rfl⟩ : ∃ i : Nat, x = (i : Int) + 1 := ⟨(x - 1).toNat, by omega⟩
  obtain ⟨k, rfl⟩ : ∃ k : Nat, y = (k : Int) + 1 := ⟨(y - 1).toNat, by omega⟩
  obtain ⟨q1, q2⟩ := hq
  rw [q1] at hv hc ⊢
  obtain ⟨b, off, u, rfl, hb, hu1, hu⟩ := hv.get i (by omega)
  obtain ⟨ai, ci, e, hci, hcm⟩ := hu.form
  subst e
  rw [q2 i (by omega)] at hu1 hu hci
  obtain ⟨b2, off2, rfl, hb2, hz⟩ := hu.get k (by omega)
  have hF : ofF rs ((i : Int) + 1) ((k : Int) + 1) = relAt rs i k := by unfold ofF; congr 1 <;> omega
  rw [hF]
  replace hz : w.cell? ⟨b2, off2 + k, none⟩ = some (.int .i64 (relAt rs i k)) := hz
  obtain ⟨z, hzz⟩ : ∃ z, relAt rs i k = z := ⟨_, rfl⟩
  rw [hzz] at hz ⊢
  have e1 : (i : Int) + 1 - 1 = (i : Int) := by omega
  have e2 : (k : Int) + 1 - 1 = (k : Int) := by omega
  have i0 : (0 : Int) ≤ (i : Int) := by omega
  have k0 : (0 : Int) ≤ (k : Int) := by omega
  have hin : (i : Int) < (n : Int) := by omega
  have hkn : (k : Int) < (n : Int) := by omega
  clear hv hu hF hzz q2
  go_enter Tryz.func119, Tryz.ntmps119
  go_wp2_with fail
  go_ret
  exact ⟨rfl, rfl⟩
set_option maxHeartbeats 4000000 in
theorem l12May_any (v : Value) (rs : List (List Int)) (n : Nat) (x o y : Int) (w : World) (hv : RowsAt w v rs) (hq : Square rs n) (hx : 1 ≤ x) (hxn : x ≤ n) (ho : 0 ≤ o) (hon : o ≤ n) (hy : 1 ≤ y) (hyn : y ≤ n) :
    Calls Tryz.prog 171 #[v, .int .i64 x, .int .i64 o, .int .i64 y] w fun e w' => e = .returned (.bool (mayF rs x o y)) ∧ w' = w := by
  have h1 := l12Of_any v rs n x y w hv hq hx hxn hy hyn
  obtain ⟨r, hr⟩ : ∃ r, ofF rs x y = r := ⟨_, rfl⟩
  have h2 : o ≠ 0 → Calls Tryz.prog 119 #[v, .int .i64 x, .int .i64 o] w fun e w' => e = .returned (.int .i64 (ofF rs x o)) ∧ w' = w := fun h => l12Of_any v rs n x o w hv hq hx hxn (by omega) hon
  obtain ⟨s, hs⟩ : ∃ s, ofF rs x o = s := ⟨_, rfl⟩
  rw [hr] at h1
  rw [hs] at h2
  unfold mayF
  rw [hr, hs]
  have H1 := Lib.hid h1
  have H2 := Lib.hid h2
  clear h1 h2 hv hr hs
  by_cases hr0 : r = 0
  · subst hr0
    go_enter Tryz.func171, Tryz.ntmps171
    go_wp2_with fail
    refine H1.out.mono ?_
    rintro e w1 ⟨rfl, rfl⟩
    go_wp2_with fail
    go_ret
    exact ⟨by simp, rfl⟩
  · have hrb : (r == 0) = false := by simp [hr0]
    by_cases ho0 : o = 0
    · subst ho0
      go_enter Tryz.func171, Tryz.ntmps171
      go_wp2_with fail
      refine H1.out.mono ?_
      rintro e w1 ⟨rfl, rfl⟩
      go_wp2_with fail
      go_ret
      exact ⟨by simp [hr0], rfl⟩
    · have hob : (o == 0) = false := by simp [ho0]
      by_cases hs1 : s = 1
      · subst hs1
        go_enter Tryz.func171, Tryz.ntmps171
        go_wp2_with fail
        refine H1.out.mono ?_
        rintro e w1 ⟨rfl, rfl⟩
        go_wp2_with fail
        refine (H2.out ho0).mono ?_
        rintro e w1 ⟨rfl, rfl⟩
        go_wp2_with fail
        go_ret
        exact ⟨by simp [hr0], rfl⟩
      · have hsb : (s == 1) = false := by simp [hs1]
        go_enter Tryz.func171, Tryz.ntmps171
        go_wp2_with fail
        refine H1.out.mono ?_
        rintro e w1 ⟨rfl, rfl⟩
        go_wp2_with fail
        refine (H2.out ho0).mono ?_
        rintro e w1 ⟨rfl, rfl⟩
        go_wp2_with fail
        refine H1.out.mono ?_
        rintro e w1 ⟨rfl, rfl⟩
        go_wp2_with fail
        go_ret
        exact ⟨by by_cases h : r = 1 <;> simp [hr0, ho0, hs1, h], rfl⟩
set_option maxHeartbeats 4000000 in
theorem l31Tells_any (v : Value) (rs : List (List Int)) (n : Nat) (wv : Value) (way : List Int) (x y : Int) (w : World) (hv : RowsAt w v rs) (hq : Square rs n) (hw : IntsAt w wv way) (hwin : ∀ z, z ∈ way → 1 ≤ z ∧ z ≤ n) (hx : 1 ≤ x) (hxn : x ≤ n) (hy : 1 ≤ y) (hyn : y ≤ n) :
    Calls Tryz.prog 148 #[v, wv, .int .i64 x, .int .i64 y] w fun e w' => e = .returned (.bool (tellsF rs way x y)) ∧ w' = w := by
  obtain ⟨a, cap, rfl, hc, hm⟩ := hw.form
  obtain ⟨m, hm'⟩ : ∃ m, way.length = m := ⟨_, rfl⟩
  rw [hm'] at hc hw ⊢
  by_cases h0 : m = 0
  · subst h0
    have : way = [] := List.length_eq_zero_iff.1 hm'
    subst this
    go_enter Tryz.func148, Tryz.ntmps148
    go_wp2_with fail
    go_ret
    exact ⟨by simp [tellsF], rfl⟩
  · have hmb : ((m : Int) == 0) = false := by simp [h0]
    have hne : way ≠ [] := by intro e; subst e; exact h0 (by simpa using hm'.symm)
    have hH := has_any (.slice a m cap) way y w hw
    obtain ⟨d, hd⟩ : ∃ d, decide (y ∈ way) = d := ⟨_, rfl⟩
    rw [hd] at hH
    have HH := Lib.hid hH
    cases d
    · have hin : ∀ i, i < m → 1 ≤ way.getD i 0 ∧ way.getD i 0 ≤ n := fun i hi => hwin _ (by simp [List.getElem?_eq_getElem (show i < way.length by omega)])
      by_cases h1 : 1 < m
      · have h1I : (1 : Int) < (m : Int) := by omega
        obtain ⟨b, off, rfl, hb, hz⟩ := hw.get 1 h1
        obtain ⟨o1, o2⟩ := hin 1 h1
        have hF : tellsF rs way x y = mayF rs x (way.getD 1 0) y := by unfold tellsF; rw [hd, hm', if_pos h1]; simp [hne]
        rw [hF]
        obtain ⟨o, ho⟩ : ∃ o, way.getD 1 0 = o := ⟨_, rfl⟩
        rw [ho] at hz o1 o2 ⊢
        have HM := Lib.hid (l12May_any v rs n x o y w hv hq hx hxn (by omega) o2 hy hyn)
        clear hv hw hin hwin hF hd hH
        go_enter Tryz.func148, Tryz.ntmps148
        go_wp2_with fail
        refine HH.out.mono ?_
        rintro e w1 ⟨rfl, rfl⟩
        go_wp2_with fail
        refine HM.out.mono ?_
        rintro e w1 ⟨rfl, rfl⟩
        go_wp2_with fail
        go_ret
        exact ⟨rfl, rfl⟩
      · obtain rfl : m = 1 := by omega
        have hF : tellsF rs way x y = mayF rs x 0 y := by unfold tellsF; rw [hd, hm', if_neg h1]; simp [hne]
        rw [hF]
        have HM := Lib.hid (l12May_any v rs n x 0 y w hv hq hx hxn (by omega) (by omega) hy hyn)
        clear hv hw hin hwin hF hd hH
        go_enter Tryz.func148, Tryz.ntmps148
        go_wp2_with fail
        refine HH.out.mono ?_
        rintro e w1 ⟨rfl, rfl⟩
        go_wp2_with fail
        refine HM.out.mono ?_
        rintro e w1 ⟨rfl, rfl⟩
        go_wp2_with fail
        go_ret
        exact ⟨rfl, rfl⟩
    · have hF : tellsF rs way x y = false := by unfold tellsF; rw [hd]; simp
      rw [hF]
      clear hv hw hwin hF hd hH
      go_enter Tryz.func148, Tryz.ntmps148
      go_wp2_with fail
      refine HH.out.mono ?_
      rintro e w1 ⟨rfl, rfl⟩
      go_wp2_with fail
      go_ret
      exact ⟨rfl, rfl⟩
end Go.Proofs.YtnecdeaikmhanaaGreatDoor
namespace Go.Proofs.YtnecdeaikmhanaaGreatDoor
open Go.RowKit
set_option linter.unusedVariables false
def step31 (rs ways : List (List Int)) (house rel : Int) (best : List Int) (b : Nat) : List Int :=
  if ofF rs house ((b : Int) + 1) = rel ∧ tellsF rs (ways.getD b []) ((b : Int) + 1) house = true then
    (if best = [] ∨ cmpF (house :: ways.getD b []) best < 0 then house :: ways.getD b [] else best) else best
def row31 (rs ways : List (List Int)) (house rel : Int) : List Int := (List.range rs.length).foldl (step31 rs ways house rel) []
def pick31 (rs ways : List (List Int)) (home house : Int) : List Int :=
  if house = home then [home] else if row31 rs ways house 1 ≠ [] then row31 rs ways house 1 else if row31 rs ways house 2 ≠ [] then row31 rs ways house 2 else row31 rs ways house 3
theorem pick31_home (rs ways : List (List Int)) (home : Int) : pick31 rs ways home home = [home] := by unfold pick31; rw [if_pos rfl]
theorem pick31_at {rs ways : List (List Int)} {home house : Int} (hne : house ≠ home) {r : Nat} (h1 : 1 ≤ r) (h3 : r ≤ 3) (hlow : ∀ j : Nat, 1 ≤ j → j < r → row31 rs ways house j = []) (hr : row31 rs ways house r ≠ []) : pick31 rs ways home house = row31 rs ways house r := by
  unfold pick31
  rw [if_neg hne]
  have : r = 1 ∨ r = 2 ∨ r = 3 := by omega
  rcases this with rfl | rfl | rfl
  · have hr : row31 rs ways house 1 ≠ [] := hr
    rw [if_pos hr]; rfl
  · have hr : row31 rs ways house 2 ≠ [] := hr
    rw [if_neg (by have := hlow 1 (by omega) (by omega); simpa using this), if_pos hr]; rfl
  · rw [if_neg (by have := hlow 1 (by omega) (by omega); simpa using this), if_neg (by have := hlow 2 (by omega) (by omega); simpa using this)]; rfl
theorem pick31_none {rs ways : List (List Int)} {home house : Int} (hne : house ≠ home) (hlow : ∀ j : Nat, 1 ≤ j → j < 4 → row31 rs ways house j = []) : pick31 rs ways home house = [] := by
  unfold pick31
  rw [if_neg hne, if_neg (by have := hlow 1 (by omega) (by omega); simpa using this), if_neg (by have := hlow 2 (by omega) (by omega); simpa using this)]
  exact hlow 3 (by omega) (by omega)
theorem foldl_range_succ {α : Type} (f : α → Nat → α) (z : α) (n : Nat) : (List.range (n + 1)).foldl f z = f ((List.range n).foldl f z) n := by rw [List.range_succ, List.foldl_append]; rfl
def Picked (ways : List (List Int)) (house : Int) (n : Nat) (l : List Int) : Prop := l = [] ∨ ∃ b, b < n ∧ ways.getD b [] ≠ [] ∧ l = house :: ways.getD b []
theorem step31_picked {rs ways : List (List Int)} {house rel : Int} {n : Nat} {l : List Int} {b : Nat} (hb : b < n) (h : Picked ways house n l) : Picked ways house n (step31 rs ways house rel l b) := by
  unfold step31
  split
  · rename_i h1
    have hne : ways.getD b [] ≠ [] := by
      intro e
      have := h1.2
      unfold tellsF at this
      rw [e] at this
      simp at this
    split
    · exact .inr ⟨b, hb, hne, rfl⟩
    · exact h
  · exact h
theorem fold31_picked {rs ways : List (List Int)} {house rel : Int} {n : Nat} : ∀ m, m ≤ n → Picked ways house n ((List.range m).foldl (step31 rs ways house rel) [])
  | 0, _ => .inl rfl
  | m + 1, h => by rw [foldl_range_succ]; exact step31_picked (by omega) (fold31_picked m (by omega))
theorem pick31_picked (rs ways : List (List Int)) {home house : Int} (hne : house ≠ home) : Picked ways house rs.length (pick31 rs ways home house) := by
  unfold pick31
  rw [if_neg hne]
  split
  · exact fold31_picked _ (Nat.le_refl _)
  · split
    · exact fold31_picked _ (Nat.le_refl _)
    · exact fold31_picked _ (Nat.le_refl _)
structure Ways31 (ways : List (List Int)) (n L : Nat) : Prop where
  len : ways.length = n
  inn : ∀ i, i < n → ∀ z, z ∈ ways.getD i [] → 1 ≤ z ∧ z ≤ n
  short : ∀ i, i < n → (ways.getD i []).length ≤ L
set_option maxRecDepth 100000 in
set_option maxHeartbeats 8000000 in
theorem l31Pick_any (v wv : Value) (rs ways : List (List Int)) (n L : Nat) (home house : Int) (w : World) (hv : RowsAt w v rs) (hq : Square rs n) (hw : RowsAt w wv ways) (hW : Ways31 ways n L) (hn : n ≤ 1000) (hL : L ≤ 100000) (hh1 : 1 ≤ house) (hhn : house ≤ n) :
    Calls Tryz.prog 114 #[v, .int .i64 home, wv, .int .i64 house] w fun e w' => ∃ v', e = .returned v' ∧ OwnInts w' w.heap.size v' (pick31 rs ways home house) ∧ Below w.heap.size w w' := by
  obtain ⟨a, cap, rfl, hc, hm⟩ := hv.form
  obtain ⟨wa, wc, rfl, hwc, hwm⟩ := hw.form
  rw [hq.1] at hv hc ⊢
  rw [hW.len] at hw hwc ⊢
  by_cases hho : house = home
  · subst hho
    rw [pick31_home]
    clear hv hw
    go_enter Tryz.func114, Tryz.ntmps114
    go_wp2_with fail
    go_ret
    exact ⟨_, rfl, OwnInts.one w house, by exact bw⟩
  · have hhb : (house == home) = false := by simp [hho]
    obtain ⟨P, hP⟩ : ∃ P, pick31 rs ways home house = P := ⟨_, rfl⟩
    rw [hP]
    have hat : ∀ r : Nat, 1 ≤ r → r ≤ 3 → (∀ j : Nat, 1 ≤ j → j < r → row31 rs ways house j = []) → row31 rs ways house r ≠ [] → P = row31 rs ways house r := fun r h1 h3 h h' => by rw [← hP]; exact pick31_at hho h1 h3 h h'
    have hnone : (∀ j : Nat, 1 ≤ j → j < 4 → row31 rs ways house j = []) → P = [] := fun h => by rw [← hP]; exact pick31_none hho h
    have hrow : ∀ r : Int, row31 rs ways house r = (List.range n).foldl (step31 rs ways house r) [] := fun r => by unfold row31; rw [hq.1]
    have hof : ∀ W, Below w.heap.size w W → ∀ b : Nat, b < n → Calls Tryz.prog 119 #[.slice a n cap, .int .i64 house, .int .i64 ((b : Int) + 1)] W fun e w' => e = .returned (.int .i64 (ofF rs house ((b : Int) + 1))) ∧ w' = W := fun W hW' b hb => l12Of_any _ rs n house _ W (hv.below hW') hq hh1 hhn (by omega) (by omega)
    have hte : ∀ W u b, Below w.heap.size w W → b < n → IntsAt W u (ways.getD b []) → Calls Tryz.prog 148 #[.slice a n cap, u, .int .i64 ((b : Int) + 1), .int .i64 house] W fun e w' => e = .returned (.bool (tellsF rs (ways.getD b []) ((b : Int) + 1) house)) ∧ w' = W := fun W u b hW' hb hu => l31Tells_any _ rs n u _ _ _ W (hv.below hW') hq hu (hW.inn b hb) (by omega) (by omega) hh1 hhn
    have HAT := Lib.hid hat
    have HNO := Lib.hid hnone
    have HRO := Lib.hid hrow
    have HOF := Lib.hid hof
    have HTE := Lib.hid hte
    have HW := Lib.hid hW
    have H := Lib.hid hw
    have hlen : ∀ r b, ((List.range b).foldl (step31 rs ways house r) []).length ≤ 100001 ∨ n < b := fun r b => by
      by_cases h : b ≤ n
      · rcases fold31_picked (rs := rs) (ways := ways) (house := house) (rel := r) b h with e | ⟨c, hc, _, e⟩
        · rw [e]; simp
        · rw [e]; have := hW.short c hc; left; rw [List.length_cons]; omega
      · exact .inr (by omega)
    have HLEN := Lib.hid hlen
    clear hat hnone hrow hof hte hW hw hv hP hho hlen hq
    go_enter Tryz.func114, Tryz.ntmps114
    go_wp2_with fail
    go_loopg [9, 10] 3 (fun gk s9 s10 wr => ∃ (r : Nat) (best : List Int), s10 = .int .i64 (r : Int) ∧ 1 ≤ r ∧ r + gk = 4 ∧ Hid (OwnInts wr w.heap.size s9 best) ∧ Hid ((best = [] ∧ ∀ j : Nat, 1 ≤ j → j < r → row31 rs ways house j = []) ∨ (best ≠ [] ∧ best = P)) ∧ Hid (Below w.heap.size w wr))
    case atStart => exact ⟨1, [], rfl, by omega, by omega, Lib.hid (OwnInts.zero w), Lib.hid (.inl ⟨rfl, fun j h1 h2 => by omega⟩), Lib.hid (Below.alloc (Below.refl _ _) (Nat.le_refl _) _)⟩
    case round =>
      obtain ⟨r, best, rfl, hr1, hrk, O, HB, BB⟩ := hrel
      obtain ⟨ba, bc, e, hbc, hbm⟩ := O.out.form
      subst e
      by_cases hbe : best = []
      · subst hbe
        have hlow : ∀ j : Nat, 1 ≤ j → j < r → row31 rs ways house j = [] := by
          rcases HB.out with h | h
          · exact h.2
          · exact absurd rfl h.1
        have HLOW := Lib.hid hlow
        clear hlow
        by_cases hg : gk = 0
        · subst hg
          have hr4 : ¬ (r : Int) ≤ 3 := by omega
          have e := HNO.out (fun j h1 h2 => HLOW.out j h1 (by omega))
          subst e
          go_wp2_with fail
          go_ret
          exact ⟨_, rfl, O.out, BB.out⟩
        · have hr3 : (r : Int) ≤ 3 := by omega
          have hgk : 1 ≤ gk := by omega
          obtain ⟨G, hG⟩ : ∃ G, G = gk := ⟨_, rfl⟩
          go_wp2_with fail
          go_loopg [9, 11] n (fun g2 s9 s11 wr => ∃ (b : Nat) (best : List Int), s11 = .int .i64 ((b : Int) + 1) ∧ b + g2 = n ∧ Hid (OwnInts wr w.heap.size s9 best) ∧ Hid ((List.range b).foldl (step31 rs ways house (r : Int)) [] = best) ∧ Hid (Below w.heap.size w wr))
          case atStart => exact ⟨0, [], by go_num, by omega, O, Lib.hid rfl, BB⟩
          case round =>
            clear O BB HB
            obtain ⟨b, best, rfl, hb, O, HF, BB⟩ := hrel
            obtain ⟨ba, bc, e, hbc, hbm⟩ := O.out.form
            subst e
            by_cases hg : gk = 0
            · subst hg
              obtain rfl : b = n := by omega
              have hbn : ¬ (b : Int) + 1 ≤ (b : Int) := by omega
              go_wp2_with fail
              go_roundg (G - 1)
              case measure => omega
              case rel =>
                refine ⟨r + 1, best, by go_num, by omega, by omega, O, Lib.hid ?_, BB⟩
                have hrw := (HRO.out (r : Int)).trans HF.out
                by_cases hbe : best = []
                · refine .inl ⟨hbe, fun j h1 h2 => ?_⟩
                  by_cases hjr : j = r
                  · subst hjr; rw [hrw]; exact hbe
                  · exact HLOW.out j h1 (by omega)
                · exact .inr ⟨hbe, by rw [← hrw]; exact (HAT.out r hr1 (by omega) HLOW.out (by rw [hrw]; exact hbe)).symm⟩
            · have hbn : b < n := by omega
              have hbI : (b : Int) + 1 ≤ (n : Int) := by omega
              have hbI2 : (b : Int) < (n : Int) := by omega
              have b0 : (0 : Int) ≤ (b : Int) := by omega
              have e1 : (b : Int) + 1 - 1 = (b : Int) := by omega
              have hgk2 : 1 ≤ gk := by omega
              have HBN := Lib.hid hb
              obtain ⟨rb, off, u, rfl, hrb, hu1, hu⟩ := (H.out.below BB.out).get b hbn
              obtain ⟨ua, uc, e, huc, hum⟩ := hu.form
              subst e
              obtain ⟨way, hway⟩ : ∃ l, ways.getD b [] = l := ⟨_, rfl⟩
              have hwl : way.length ≤ 100000 := by rw [← hway]; have := HW.out.short b hbn; omega
              have HU := Lib.hid hu
              have HC1 := Lib.hid (HOF.out wr BB.out b hbn)
              have HC2 := Lib.hid (HTE.out wr _ b BB.out hbn hu)
              have hst : ∀ X, (List.range b).foldl (step31 rs ways house (r : Int)) [] = X → (List.range (b + 1)).foldl (step31 rs ways house (r : Int)) [] = step31 rs ways house (r : Int) X b := fun X hX => by rw [foldl_range_succ, hX]
              have HST := Lib.hid (hst best HF.out)
              clear hu hst hb hg
              rw [hway] at HC2 HU huc hu1
              have hS : step31 rs ways house (r : Int) best b = if ofF rs house ((b : Int) + 1) = (r : Int) ∧ tellsF rs way ((b : Int) + 1) house = true then (if best = [] ∨ cmpF (house :: way) best < 0 then house :: way else best) else best := by unfold step31; rw [hway]
              obtain ⟨x, hx⟩ : ∃ x, ofF rs house ((b : Int) + 1) = x := ⟨_, rfl⟩
              obtain ⟨t, ht⟩ : ∃ t, tellsF rs way ((b : Int) + 1) house = t := ⟨_, rfl⟩
              obtain ⟨m, hm'⟩ : ∃ m, best.length = m := ⟨_, rfl⟩
              obtain ⟨wl, hwl'⟩ : ∃ m, way.length = m := ⟨_, rfl⟩
              rw [hx] at HC1 hS
              rw [ht] at HC2 hS
              rw [hm'] at O hbc ⊢
              rw [hwl'] at HC2 HU huc hu1 hwl
              have HSS := Lib.hid hS
              have HM := Lib.hid hm'
              have HWL := Lib.hid hwl'
              have hm1 : m ≤ 100001 := by have := HLEN.out (r : Int) b; rw [HF.out, HM.out] at this; omega
              clear hS hx ht hway hm' hwl'
              have hnx : ∀ W sv X, Hid (OwnInts W w.heap.size sv X) → Hid (Below w.heap.size w W) → step31 rs ways house (r : Int) best b = X → ∃ (b' : Nat) (best' : List Int), Value.int .i64 ((b : Int) + 1 + 1) = .int .i64 ((b' : Int) + 1) ∧ b' + (gk - 1) = n ∧ Hid (OwnInts W w.heap.size sv best') ∧ Hid ((List.range b').foldl (step31 rs ways house (r : Int)) [] = best') ∧ Hid (Below w.heap.size w W) := fun W sv X h1 h2 h3 => ⟨b + 1, X, by congr 1, by have := HBN.out; omega, h1, Lib.hid (by rw [HST.out, h3]), h2⟩
              have HNX := Lib.hid hnx
              clear hnx
              by_cases hxr : x = (r : Int)
              · subst hxr
                have hxb : ((r : Int) != (r : Int)) = false := by simp
                cases t
                · go_wp2_with fail
                  refine HC1.out.mono ?_
                  rintro e w1 ⟨rfl, rfl⟩
                  go_wp2_with fail
                  refine HC2.out.mono ?_
                  rintro e w1 ⟨rfl, rfl⟩
                  go_wp2_with fail
                  go_roundg (gk - 1)
                  case measure => omega
                  case rel => exact HNX.out _ _ _ O BB (by rw [HSS.out]; simp)
                · have hswr : w.heap.size ≤ wr.heap.size := BB.out.size
                  have HI1 := Lib.hid (OwnInts.one wr house)
                  have hA := Below.alloc (Below.refl wr.heap.size wr) (Nat.le_refl _) (.cells #[.int .i64 house] 3)
                  have HA := Lib.hid hA
                  clear hA
                  go_wp2_with fail
                  refine HC1.out.mono ?_
                  rintro e w1 ⟨rfl, rfl⟩
                  go_wp2_with fail
                  refine HC2.out.mono ?_
                  rintro e w1 ⟨rfl, rfl⟩
                  by_cases hm0 : m = 0
                  · subst hm0
                    go_wp2_with (at_builtin; refine wpList_append_ints rfl (.tmp 53) (.tmp 58) rfl w1.heap.size _ _ [house] way (wl + 1) (by rw [HWL.out]; simp; omega) rfl HI1.out (by simp) rfl (HU.out.below HA.out) (by omega) ?_; intro ad c w2 hO2 hb2 hs2; have W2 := Lib.hid hO2; have hb12 : Below w1.heap.size w1 w2 := Below.trans HA.out hb2; have O2 := Lib.hid (O.out.below hb12); have B2 := Lib.hid (BB.out.trans (hb12.mono hswr)); clear hO2 hb2 hb12)
                    have W2' : Hid (OwnInts w2 w.heap.size (.slice ad (wl + 1) c) (house :: way)) := Lib.hid (W2.out.lift hswr)
                    clear W2
                    go_roundg (gk - 1)
                    case measure => omega
                    case rel => exact HNX.out _ _ _ W2' B2 (by rw [HSS.out, if_pos (by simp), if_pos (.inl (List.length_eq_zero_iff.1 HM.out))])
                  · have hmb : ((m : Int) == 0) = false := by simp [hm0]
                    have hbn' : best ≠ [] := by intro e; apply hm0; rw [← HM.out, e]; rfl
                    have HBE := Lib.hid hbn'
                    clear hbn'
                    go_wp2_with (at_builtin; refine wpList_append_ints rfl (.tmp 53) (.tmp 58) rfl w1.heap.size _ _ [house] way (wl + 1) (by rw [HWL.out]; simp; omega) rfl HI1.out (by simp) rfl (HU.out.below HA.out) (by omega) ?_; intro ad c w2 hO2 hb2 hs2; have W2 := Lib.hid hO2; have hb12 : Below w1.heap.size w1 w2 := Below.trans HA.out hb2; have O2 := Lib.hid (O.out.below hb12); have B2 := Lib.hid (BB.out.trans (hb12.mono hswr)); clear hO2 hb2 hb12)
                    have W2' : Hid (OwnInts w2 w.heap.size (.slice ad (wl + 1) c) (house :: way)) := Lib.hid (W2.out.lift hswr)
                    clear W2
                    have HCM := Lib.hid (cmp_any _ _ (house :: way) best w2 W2'.out.ints O2.out.ints)
                    obtain ⟨q, hq⟩ : ∃ q, cmpF (house :: way) best = q := ⟨_, rfl⟩
                    rw [hq] at HCM HSS
                    clear hq
                    refine HCM.out.mono ?_
                    rintro e w3 ⟨rfl, hd⟩
                    have W3 := Lib.hid (W2'.out.below (hd.below _))
                    have O3 := Lib.hid (O2.out.below (hd.below _))
                    have B3 := Lib.hid (B2.out.trans (hd.below _))
                    clear hd
                    by_cases hq0 : q < 0
                    · go_wp2_with fail
                      go_roundg (gk - 1)
                      case measure => omega
                      case rel => exact HNX.out _ _ _ W3 B3 (by rw [HSS.out, if_pos (by simp), if_pos (.inr hq0)])
                    · go_wp2_with fail
                      go_roundg (gk - 1)
                      case measure => omega
                      case rel => exact HNX.out _ _ _ O3 B3 (by rw [HSS.out, if_pos (by simp), if_neg (fun h => h.elim HBE.out (by omega))])
              · have hxb : (x != (r : Int)) = true := by simp [hxr]
                go_wp2_with fail
                refine HC1.out.mono ?_
                rintro e w1 ⟨rfl, rfl⟩
                go_wp2_with fail
                go_roundg (gk - 1)
                case measure => omega
                case rel => exact HNX.out _ _ _ O BB (by rw [HSS.out, if_neg (fun h => hxr h.1)])
      · have hP : best = P := by
          rcases HB.out with h | h
          · exact absurd h.1 hbe
          · exact h.2
        obtain ⟨m, hm'⟩ : ∃ m, best.length = m := ⟨_, rfl⟩
        have hm0 : m ≠ 0 := by intro e; subst e; exact hbe (List.length_eq_zero_iff.1 hm')
        have hmb : ((m : Int) == 0) = false := by simp [hm0]
        rw [hm'] at hbc O ⊢
        subst hP
        by_cases hr3 : (r : Int) ≤ 3
        · go_wp2_with fail
          go_ret
          exact ⟨_, rfl, O.out, BB.out⟩
        · go_wp2_with fail
          go_ret
          exact ⟨_, rfl, O.out, BB.out⟩
end Go.Proofs.YtnecdeaikmhanaaGreatDoor
namespace Go.Proofs.YtnecdeaikmhanaaGreatDoor
open Go.RowKit
set_option linter.unusedVariables false
def none31 (n : Nat) (home : Int) : List (List Int) := (List.range n).map fun i => if ((i : Nat) : Int) + 1 = home then [home] else []
def net31 (rs ways : List (List Int)) (home house : Int) (n : Nat) : List (List Int) := (List.range n).map fun i => if ((i : Nat) : Int) + 1 = house then pick31 rs ways home house else ways.getD i []
theorem map_range_getD {α : Type} (f : Nat → List α) (n i : Nat) (hi : i < n) : ((List.range n).map f).getD i [] = f i := by simp [hi]
theorem map_range_succ {α : Type} (f : Nat → α) (n : Nat) : (List.range (n + 1)).map f = (List.range n).map f ++ [f n] := by rw [List.range_succ, List.map_append]; rfl
def Far31 (ways : List (List Int)) (home : Int) (n : Nat) : Prop := ∀ i : Nat, i < n → (i : Int) + 1 ≠ home → ways.getD i [] = [] ∨ 2 ≤ (ways.getD i []).length
theorem none31_ways (n L : Nat) (home : Int) (hL : 1 ≤ L) : Ways31 (none31 n home) n L := by
  refine ⟨by simp [none31], fun i hi z hz => ?_, fun i hi => ?_⟩
  · unfold none31 at hz
    rw [map_range_getD _ _ _ hi] at hz
    split at hz
    · simp at hz; omega
    · simp at hz
  · unfold none31
    rw [map_range_getD _ _ _ hi]
    split <;> simp <;> omega
theorem none31_far (n : Nat) (home : Int) : Far31 (none31 n home) home n := fun i hi hne => by
  unfold none31
  rw [map_range_getD _ _ _ hi, if_neg hne]
  exact .inl rfl
theorem net31_ways {rs ways : List (List Int)} {n L : Nat} {home house : Int} (hq : rs.length = n) (h : Ways31 ways n L) (h1 : 1 ≤ house) (hn : house ≤ n) : Ways31 (net31 rs ways home house n) n (L + 1) := by
  refine ⟨by simp [net31], fun i hi z hz => ?_, fun i hi => ?_⟩
  · unfold net31 at hz
    rw [map_range_getD _ _ _ hi] at hz
    split at hz
    · by_cases hh : house = home
      · subst hh
        rw [pick31_home] at hz
        simp at hz; omega
      · rcases pick31_picked rs ways hh with e | ⟨b, hb, _, e⟩
        · rw [e] at hz; simp at hz
        · rw [e] at hz
          rcases List.mem_cons.1 hz with rfl | hz
          · omega
          · exact h.inn b (by omega) z hz
    · exact h.inn i hi z hz
  · unfold net31
    rw [map_range_getD _ _ _ hi]
    split
    · by_cases hh : house = home
      · subst hh
        rw [pick31_home]
        simp
      · rcases pick31_picked rs ways hh with e | ⟨b, hb, _, e⟩
        · rw [e]; simp
        · rw [e, List.length_cons]; have := h.short b (by omega); omega
    · have := h.short i hi; omega
theorem net31_far {rs ways : List (List Int)} {n : Nat} {home house : Int} (h : Far31 ways home n) : Far31 (net31 rs ways home house n) home n := fun i hi hne => by
  unfold net31
  rw [map_range_getD _ _ _ hi]
  split
  · rename_i hh
    rcases pick31_picked rs ways (home := home) (house := house) (by omega) with e | ⟨b, hb, hbn, e⟩
    · exact .inl e
    · right
      rw [e, List.length_cons]
      have : (ways.getD b []).length ≠ 0 := fun e => hbn (List.length_eq_zero_iff.1 e)
      omega
  · exact h i hi hne
set_option maxRecDepth 100000 in
set_option maxHeartbeats 4000000 in
theorem l31None_any (v : Value) (rs : List (List Int)) (n : Nat) (home : Int) (w : World) (hv : RowsAt w v rs) (hl : rs.length = n) (hn : n ≤ 1000) :
    Calls Tryz.prog 77 #[v, .int .i64 home] w fun e w' => ∃ v', e = .returned v' ∧ RowsL w' w.heap.size v' (none31 n home) ∧ Below w.heap.size w w' := by
  obtain ⟨a, cap, rfl, hc, hm⟩ := hv.form
  rw [hl] at hc ⊢
  clear hv hl rs
  go_enter Tryz.func77, Tryz.ntmps77
  go_wp2_with fail
  go_loopg [5, 6] n (fun gk s5 s6 wr => ∃ i : Nat, s6 = .int .i64 ((i : Int) + 1) ∧ i + gk = n ∧ Hid (RowsL wr w.heap.size s5 (none31 i home)) ∧ Hid (Below w.heap.size w wr))
  case atStart => exact ⟨0, by go_num, by omega, Lib.hid (RowsL.zero w), Lib.hid (Below.alloc (Below.refl _ _) (Nat.le_refl _) _)⟩
  case round =>
    obtain ⟨i, rfl, hi, O, BB⟩ := hrel
    obtain ⟨oa, oc, e, hoc, hocm⟩ := O.out.form
    subst e
    have hlen : (none31 i home).length = i := by simp [none31]
    rw [hlen] at hoc O ⊢
    have HL := Lib.hid hlen
    clear hlen
    have hswr : w.heap.size ≤ wr.heap.size := BB.out.size
    by_cases hg : gk = 0
    · subst hg
      obtain rfl : i = n := by omega
      have hdn : ¬ (i : Int) + 1 ≤ (i : Int) := by omega
      go_wp2_with fail
      go_ret
      exact ⟨_, rfl, O.out, BB.out⟩
    · have hin : (i : Int) + 1 ≤ (n : Int) := by omega
      have hgk : 1 ≤ gk := by omega
      have hnx : none31 (i + 1) home = none31 i home ++ [if (i : Int) + 1 = home then [home] else []] := map_range_succ _ _
      have HNX := Lib.hid hnx
      clear hnx
      by_cases hh : (i : Int) + 1 = home
      · have HH := Lib.hid hh
        have hhb : ((i : Int) + 1 == home) = true := by simp [hh]
        have HI1 := Lib.hid ((OwnInts.one wr home).lift hswr)
        have hA := Below.alloc (Below.refl wr.heap.size wr) (Nat.le_refl _) (.cells #[.int .i64 home] 3)
        have O1 := Lib.hid (O.out.below hA)
        have B1 := Lib.hid (BB.out.trans (hA.mono hswr))
        clear hA hh
        go_wp2_with (at_builtin; refine wpList_append_row rfl (.tmp 17) (.tmp 20) rfl w.heap.size _ _ _ [home] i HL.out rfl O1.out (by simp; omega) _ rfl (by simp) HI1.out ⟨_, _, _, rfl⟩ (by omega) ?_; intro ad c w2 hR2 hb2 hs2; have R2 := Lib.hid hR2; have B2 := Lib.hid (B1.out.trans hb2); clear hR2 hb2)
        go_roundg (gk - 1)
        case measure => omega
        case rel => exact ⟨i + 1, by go_num, by omega, Lib.hid (by rw [HNX.out, if_pos HH.out]; exact R2.out), B2⟩
      · have HH := Lib.hid hh
        have hhb : ((i : Int) + 1 == home) = false := by simp [hh]
        have HI1 := Lib.hid ((OwnInts.zero wr).lift hswr)
        have hA := Below.alloc (Below.refl wr.heap.size wr) (Nat.le_refl _) (.cells #[] 3)
        have O1 := Lib.hid (O.out.below hA)
        have B1 := Lib.hid (BB.out.trans (hA.mono hswr))
        clear hA hh
        go_wp2_with (at_builtin; refine wpList_append_row rfl (.tmp 22) (.tmp 24) rfl w.heap.size _ _ _ [] i HL.out rfl O1.out (by simp; omega) _ rfl (by simp) HI1.out ⟨_, _, _, rfl⟩ (by omega) ?_; intro ad c w2 hR2 hb2 hs2; have R2 := Lib.hid hR2; have B2 := Lib.hid (B1.out.trans hb2); clear hR2 hb2)
        go_roundg (gk - 1)
        case measure => omega
        case rel => exact ⟨i + 1, by go_num, by omega, Lib.hid (by rw [HNX.out, if_neg HH.out]; exact R2.out), B2⟩
set_option maxRecDepth 100000 in
set_option maxHeartbeats 4000000 in
theorem l31Step_any (v wv : Value) (rs ways : List (List Int)) (n L : Nat) (home house : Int) (w : World) (hv : RowsAt w v rs) (hq : Square rs n) (hw : RowsAt w wv ways) (hW : Ways31 ways n L) (hn : n ≤ 1000) (hL : L ≤ 100000) (hh1 : 1 ≤ house) (hhn : house ≤ n) :
    Calls Tryz.prog 78 #[v, .int .i64 home, wv, .int .i64 house] w fun e w' => ∃ v', e = .returned v' ∧ RowsL w' w.heap.size v' (net31 rs ways home house n) ∧ Below w.heap.size w w' := by
  obtain ⟨a, cap, rfl, hc, hm⟩ := hv.form
  obtain ⟨wa, wc, rfl, hwc, hwm⟩ := hw.form
  rw [hq.1] at hv hc ⊢
  rw [hW.len] at hw hwc ⊢
  have hpk : ∀ W, Below w.heap.size w W → Calls Tryz.prog 114 #[.slice a n cap, .int .i64 home, .slice wa n wc, .int .i64 house] W fun e w' => ∃ v', e = .returned v' ∧ OwnInts w' W.heap.size v' (pick31 rs ways home house) ∧ Below W.heap.size W w' := fun W hb => l31Pick_any _ _ rs ways n L home house W (hv.below hb) hq (hw.below hb) hW hn hL hh1 hhn
  have HPK := Lib.hid hpk
  have H := Lib.hid hw
  have HSH := Lib.hid hW.short
  clear hv hq hW hpk hw
  go_enter Tryz.func78, Tryz.ntmps78
  go_wp2_with fail
  go_loopg [9, 10] n (fun gk s9 s10 wr => ∃ i : Nat, s10 = .int .i64 (i : Int) ∧ i + gk = n ∧ Hid (RowsL wr w.heap.size s9 (net31 rs ways home house i)) ∧ Hid (Below w.heap.size w wr))
  case atStart => exact ⟨0, by go_num, by omega, Lib.hid (RowsL.zero w), Lib.hid (Below.alloc (Below.refl _ _) (Nat.le_refl _) _)⟩
  case round =>
    obtain ⟨i, rfl, hi, O, BB⟩ := hrel
    obtain ⟨oa, oc, e, hoc, hocm⟩ := O.out.form
    subst e
    have hlen : (net31 rs ways home house i).length = i := by simp [net31]
    rw [hlen] at hoc O ⊢
    have HL := Lib.hid hlen
    clear hlen
    have hswr : w.heap.size ≤ wr.heap.size := BB.out.size
    by_cases hg : gk = 0
    · subst hg
      obtain rfl : i = n := by omega
      have hdn : decide ((i : Int) < (i : Int)) = false := by simp
      go_wp2_with fail
      go_ret
      exact ⟨_, rfl, O.out, BB.out⟩
    · have hin : (i : Int) < (n : Int) := by omega
      have hinN : i < n := by omega
      have i0 : (0 : Int) ≤ (i : Int) := by omega
      have hgk : 1 ≤ gk := by omega
      have hnx : net31 rs ways home house (i + 1) = net31 rs ways home house i ++ [if (i : Int) + 1 = house then pick31 rs ways home house else ways.getD i []] := map_range_succ _ _
      have HNX := Lib.hid hnx
      clear hnx
      by_cases hh : (i : Int) + 1 = house
      · have HH := Lib.hid hh
        have hhb : ((i : Int) + 1 == house) = true := by simp [hh]
        clear hh
        go_wp2_with fail
        refine (HPK.out wr BB.out).mono ?_
        rintro e w1 ⟨u, rfl, hu, hb1⟩
        have O1 := Lib.hid (O.out.below hb1)
        have U1 := Lib.hid (hu.lift hswr)
        have B1 := Lib.hid (BB.out.trans (hb1.mono hswr))
        have hs1 : w.heap.size ≤ w1.heap.size := B1.out.size
        obtain ⟨ua, uc, e, _, _⟩ := hu.form
        subst e
        clear hu hb1
        go_wp2_with (at_builtin; refine wpList_append_row rfl (.tmp 22) (.tmp 28) rfl w.heap.size _ _ _ (pick31 rs ways home house) i HL.out rfl O1.out hs1 _ rfl rfl U1.out ⟨_, _, _, rfl⟩ (by omega) ?_; intro ad c w2 hR2 hb2 hs2; have R2 := Lib.hid hR2; have B2 := Lib.hid (B1.out.trans hb2); clear hR2 hb2)
        go_roundg (gk - 1)
        case measure => omega
        case rel => exact ⟨i + 1, by go_num, by omega, Lib.hid (by rw [HNX.out, if_pos HH.out]; exact R2.out), B2⟩
      · have HH := Lib.hid hh
        have hhb : ((i : Int) + 1 == house) = false := by simp [hh]
        obtain ⟨rb, off, u, rfl, hrb, hu1, hu⟩ := (H.out.below BB.out).get i hinN
        obtain ⟨ua, uc, e, huc, hum⟩ := hu.form
        subst e
        have hsh := HSH.out i hinN
        obtain ⟨wl, hwl⟩ : ∃ m, (ways.getD i []).length = m := ⟨_, rfl⟩
        rw [hwl] at hu1 huc hu hsh
        have hA := Below.alloc (Below.refl wr.heap.size wr) (Nat.le_refl _) (.cells #[] 3)
        have HI1 := Lib.hid (OwnInts.zero wr)
        have HU := Lib.hid (hu.below hA)
        have O1 := Lib.hid (O.out.below hA)
        have B1 := Lib.hid (BB.out.trans (hA.mono hswr))
        have HWL := Lib.hid hwl
        have hA2 := Lib.hid hA
        clear hA hh hu hwl
        go_wp2_with (first
          | (at_builtin; refine wpList_append_ints rfl (.tmp 31) (.tmp 35) rfl wr.heap.size _ _ [] (ways.getD i []) wl (by rw [HWL.out]; simp) rfl HI1.out (by simp) rfl HU.out (by omega) ?_; intro ad c w2 hO2 hb2 hs2; have W2 := Lib.hid (hO2.lift hswr); have O2 := Lib.hid (RowsL.below O.out (hA2.out.trans hb2)); have B2 := Lib.hid (BB.out.trans ((hA2.out.trans hb2).mono hswr)); have hs2 : w.heap.size ≤ w2.heap.size := B2.out.size; clear hO2 hb2)
          | (at_builtin; refine wpList_append_row rfl (.tmp 30) (.tmp 37) rfl w.heap.size _ _ _ (ways.getD i []) i HL.out rfl O2.out hs2 _ rfl rfl W2.out ⟨_, _, _, rfl⟩ (by omega) ?_; intro ad3 c3 w3 hR3 hb3 hs3; have R3 := Lib.hid hR3; have B3 := Lib.hid (B2.out.trans hb3); clear hR3 hb3))
        go_roundg (gk - 1)
        case measure => omega
        case rel => exact ⟨i + 1, by go_num, by omega, Lib.hid (by rw [HNX.out, if_neg HH.out]; exact R3.out), B3⟩
end Go.Proofs.YtnecdeaikmhanaaGreatDoor
namespace Go.Proofs.YtnecdeaikmhanaaGreatDoor
open Go.RowKit
set_option linter.unusedVariables false
def endTo31 (rs : List (List Int)) (home : Int) (n k : Nat) : List (List Int) := (List.range k).foldl (fun ways i => net31 rs ways home (((i % n : Nat) : Int) + 1) n) (none31 n home)
def end31 (rs : List (List Int)) (home : Int) (n : Nat) : List (List Int) := endTo31 rs home n (4 * n * n)
theorem endTo31_succ (rs : List (List Int)) (home : Int) (n k : Nat) : endTo31 rs home n (k + 1) = net31 rs (endTo31 rs home n k) home (((k % n : Nat) : Int) + 1) n := foldl_range_succ _ _ _
theorem endTo31_ways {rs : List (List Int)} {home : Int} {n : Nat} (hq : rs.length = n) (hn : 1 ≤ n) : ∀ k, Ways31 (endTo31 rs home n k) n (k + 1)
  | 0 => none31_ways n 1 home (Nat.le_refl _)
  | k + 1 => by
    rw [endTo31_succ]
    have := Nat.mod_lt k (show n > 0 by omega)
    exact net31_ways hq (endTo31_ways hq hn k) (by omega) (by omega)
theorem endTo31_far {rs : List (List Int)} {home : Int} {n : Nat} : ∀ k, Far31 (endTo31 rs home n k) home n
  | 0 => none31_far n home
  | k + 1 => by rw [endTo31_succ]; exact net31_far (endTo31_far k)
theorem mul_facts (n : Nat) (h5 : n ≤ 5) : ∃ N : Nat, 4 * n * n = N ∧ N ≤ 100 ∧ IntKind.i64.wrap (4 * (n : Int)) = 4 * (n : Int) ∧ (4 : Int) * (n : Int) * (n : Int) = (N : Int) ∧ IntKind.i64.wrap (N : Int) = (N : Int) := by
  have hN : 4 * n * n ≤ 100 := by
    have : n = 0 ∨ n = 1 ∨ n = 2 ∨ n = 3 ∨ n = 4 ∨ n = 5 := by omega
    rcases this with rfl | rfl | rfl | rfl | rfl | rfl <;> decide
  exact ⟨4 * n * n, rfl, hN, IntWalk.i64_in _ (by omega), by push_cast; rfl, IntWalk.i64_in _ (by omega)⟩
theorem rem_facts (i n : Nat) (hn : 1 ≤ n) (h5 : n ≤ 5) : ∃ r : Nat, i % n = r ∧ (i : Int).tmod (n : Int) = (r : Int) ∧ IntKind.i64.wrap (r : Int) = (r : Int) ∧ r < n := by
  have := Nat.mod_lt i (show n > 0 by omega)
  refine ⟨i % n, rfl, ?_, IntWalk.i64_in _ (by omega), this⟩
  rw [Int.tmod_eq_emod_of_nonneg (by omega)]; rfl
set_option maxRecDepth 100000 in
set_option maxHeartbeats 4000000 in
theorem l31End_any (v : Value) (rs : List (List Int)) (n : Nat) (home : Int) (w : World) (hv : RowsAt w v rs) (hq : Square rs n) (hn : 1 ≤ n) (h5 : n ≤ 5) :
    Calls Tryz.prog 46 #[v, .int .i64 home] w fun e w' => ∃ v', e = .returned v' ∧ RowsL w' w.heap.size v' (end31 rs home n) ∧ Below w.heap.size w w' := by
  obtain ⟨a, cap, rfl, hc, hm⟩ := hv.form
  rw [hq.1] at hv hc ⊢
  obtain ⟨N, hN, hN1, hw4, hmul, hwN⟩ := mul_facts n h5
  have hE : end31 rs home n = endTo31 rs home n N := by unfold end31; rw [hN]
  rw [hE]
  have hst : ∀ W wv i, Below w.heap.size w W → i < N → RowsAt W wv (endTo31 rs home n i) → ∀ r : Nat, i % n = r → Calls Tryz.prog 78 #[.slice a n cap, .int .i64 home, wv, .int .i64 ((r : Int) + 1)] W fun e w' => ∃ v', e = .returned v' ∧ RowsL w' W.heap.size v' (endTo31 rs home n (i + 1)) ∧ Below W.heap.size W w' := fun W wv i hb hi hw r hr => by
    have := Nat.mod_lt i (show n > 0 by omega)
    have := l31Step_any _ wv rs (endTo31 rs home n i) n (i + 1) home ((r : Int) + 1) W (hv.below hb) hq hw (endTo31_ways hq.1 hn i) (by omega) (by omega) (by omega) (by omega)
    rw [endTo31_succ, hr]
    exact this
  have HST := Lib.hid hst
  have H0 := Lib.hid (fun W hb => l31None_any (.slice a n cap) rs n home W (hv.below hb) hq.1 (by omega))
  clear hst hv hq hE hN
  go_enter Tryz.func46, Tryz.ntmps46
  go_wp2_with fail
  refine (H0.out w (Below.refl _ _)).mono ?_
  rintro e w1 ⟨v1, rfl, hR1, hb1⟩
  have R1 := Lib.hid hR1
  have B1 := Lib.hid hb1
  clear hR1 hb1
  go_wp2_with fail
  go_loopg [5, 6] N (fun gk s5 s6 wr => ∃ i : Nat, s6 = .int .i64 (i : Int) ∧ i + gk = N ∧ Hid (RowsL wr w.heap.size s5 (endTo31 rs home n i)) ∧ Hid (Below w.heap.size w wr))
  case atStart => exact ⟨0, rfl, by omega, R1, B1⟩
  case round =>
    obtain ⟨i, rfl, hi, O, BB⟩ := hrel
    have hswr : w.heap.size ≤ wr.heap.size := BB.out.size
    by_cases hg : gk = 0
    · subst hg
      obtain rfl : i = N := by omega
      have hdn : decide ((i : Int) < (i : Int)) = false := by simp
      go_wp2_with fail
      go_ret
      exact ⟨_, rfl, O.out, BB.out⟩
    · have hiN : i < N := by omega
      have hiI : (i : Int) < (N : Int) := by omega
      have hgk : 1 ≤ gk := by omega
      have hn0 : (n : Int) ≠ 0 := by omega
      have hnb : ((n : Int) == 0) = false := by simp; omega
      obtain ⟨r, hr, hr1, hr2, hr3⟩ := rem_facts i n hn h5
      have HC := Lib.hid (HST.out wr _ i BB.out hiN O.out.rows r hr)
      clear hr
      go_wp2_with fail
      refine HC.out.mono ?_
      rintro e w2 ⟨v2, rfl, hR2, hb2⟩
      have R2 := Lib.hid (hR2.lift hswr)
      have B2 := Lib.hid (BB.out.trans (hb2.mono hswr))
      clear hR2 hb2
      go_wp2_with fail
      go_roundg (gk - 1)
      case measure => omega
      case rel => exact ⟨i + 1, by go_num, by omega, R2, B2⟩
end Go.Proofs.YtnecdeaikmhanaaGreatDoor
namespace Go.Proofs.YtnecdeaikmhanaaGreatDoor
open Go.RowKit
set_option linter.unusedVariables false
def putHome (ways : List (List Int)) (e : Ent) (h : Nat) (t : List Ent) : List Ent :=
  if (h : Int) + 1 = e.2.2 then putF t (e.1, e.2.1, (h : Int) + 1) else if ways.getD h [] ≠ [] then putF t (e.1, e.2.1, (ways.getD h []).getD 1 0) else t
def homeTo (ways : List (List Int)) (n : Nat) (e : Ent) (tabs : List (List Ent)) (c : Nat) : List (List Ent) := (List.range n).map fun h => if h < c then putHome ways e h (tabs.getD h []) else tabs.getD h []
def homeStep (rs : List (List Int)) (n : Nat) (tabs : List (List Ent)) (e : Ent) : List (List Ent) := homeTo (end31 rs e.2.2 n) n e tabs n
def homesTo (rs : List (List Int)) (n : Nat) (l : List Ent) (i : Nat) : List (List Ent) := (List.range i).foldl (fun tabs j => homeStep rs n tabs (l.getD j (0, 0, 0))) ((List.range n).map fun _ => [])
def sendTabsF (rs : List (List Int)) (l : List Ent) (n : Nat) : List (List Ent) := if homesOkF rs l = true then homesTo rs n l l.length else []
theorem homeTo_len (ways : List (List Int)) (n : Nat) (e : Ent) (tabs : List (List Ent)) (c : Nat) : (homeTo ways n e tabs c).length = n := by simp [homeTo]
theorem homeTo_get {ways : List (List Int)} {n : Nat} {e : Ent} {tabs : List (List Ent)} {c h : Nat} (hh : h < n) : (homeTo ways n e tabs c).getD h [] = if h < c then putHome ways e h (tabs.getD h []) else tabs.getD h [] := by unfold homeTo; simp [hh]
theorem homeTo_zero {ways : List (List Int)} {n : Nat} {e : Ent} {tabs : List (List Ent)} (hl : tabs.length = n) : homeTo ways n e tabs 0 = tabs := by
  subst hl
  apply List.ext_getElem
  · simp [homeTo]
  · intro i h1 h2
    simp [homeTo, List.getElem?_eq_getElem h2]
theorem homeTo_set {ways : List (List Int)} {n : Nat} {e : Ent} {tabs : List (List Ent)} {c : Nat} (hc : c < n) : (homeTo ways n e tabs c).set c (putHome ways e c (tabs.getD c [])) = homeTo ways n e tabs (c + 1) := by
  apply List.ext_getElem
  · simp [homeTo]
  · intro i h1 h2
    rw [List.getElem_set]
    simp only [homeTo, List.getElem_map, List.getElem_range]
    by_cases hic : c = i
    · subst hic; rw [if_pos rfl, if_pos (by omega)]
    · rw [if_neg hic]
      by_cases hlt : i < c
      · rw [if_pos hlt, if_pos (by omega)]
      · rw [if_neg hlt, if_neg (by omega)]
theorem homeTo_same {ways : List (List Int)} {n : Nat} {e : Ent} {tabs : List (List Ent)} {c : Nat} (hc : c < n) (hp : putHome ways e c (tabs.getD c []) = tabs.getD c []) : homeTo ways n e tabs (c + 1) = homeTo ways n e tabs c := by
  apply List.ext_getElem
  · simp [homeTo]
  · intro i h1 h2
    simp only [homeTo, List.getElem_map, List.getElem_range]
    by_cases hic : i = c
    · subst hic; rw [if_pos (by omega), if_neg (by omega), hp]
    · by_cases hlt : i < c
      · rw [if_pos hlt, if_pos (by omega)]
      · rw [if_neg hlt, if_neg (by omega)]
theorem putHome_len (ways : List (List Int)) (e : Ent) (h : Nat) (t : List Ent) : (putHome ways e h t).length ≤ t.length + 1 := by
  unfold putHome
  split
  · exact putF_len _ _
  · split
    · exact putF_len _ _
    · omega
theorem homesTo_succ (rs : List (List Int)) (n : Nat) (l : List Ent) (i : Nat) : homesTo rs n l (i + 1) = homeStep rs n (homesTo rs n l i) (l.getD i (0, 0, 0)) := foldl_range_succ _ _ _
theorem homesTo_len (rs : List (List Int)) (n : Nat) (l : List Ent) (i : Nat) : (homesTo rs n l i).length = n := by
  cases i with
  | zero => simp [homesTo]
  | succ i => rw [homesTo_succ]; exact homeTo_len _ _ _ _ _
theorem homesTo_short (rs : List (List Int)) (n : Nat) (l : List Ent) : ∀ i h, h < n → ((homesTo rs n l i).getD h []).length ≤ i
  | 0, h, hh => by simp [homesTo, hh]
  | i + 1, h, hh => by
    rw [homesTo_succ]
    unfold homeStep
    rw [homeTo_get hh, if_pos hh]
    exact Nat.le_trans (putHome_len _ _ _ _) (by have := homesTo_short rs n l i h hh; omega)
set_option maxRecDepth 100000 in
set_option maxHeartbeats 8000000 in
theorem specSendTables_any (v hv : Value) (rs : List (List Int)) (l : List Ent) (n : Nat) (w : World) (hr : RowsAt w v rs) (hq : Square rs n) (hh : EntsAt w hv l) (hn : 1 ≤ n) (h5 : n ≤ 5) (hll : l.length ≤ 100) :
    Calls Tryz.prog 49 #[v, hv] w fun e w' => ∃ v', e = .returned v' ∧ TabsL w' w.heap.size v' (sendTabsF rs l n) ∧ Below w.heap.size w w' := by
  obtain ⟨ra, rc, rfl, hrc, hrm⟩ := hr.form
  obtain ⟨la, lc, rfl, hlc, hlm⟩ := hh.form
  have hok := specHomesOk_any _ _ rs l w hr hh
  rw [hq.1] at hr hrc hok ⊢
  obtain ⟨L, hL⟩ : ∃ L, l.length = L := ⟨_, rfl⟩
  rw [hL] at hh hlc hok hll ⊢
  obtain ⟨B, hB⟩ : ∃ B, homesOkF rs l = B := ⟨_, rfl⟩
  rw [hB] at hok
  have HOK := Lib.hid hok
  have HL := Lib.hid hL
  have H := Lib.hid hh
  have hend : ∀ W e, Below w.heap.size w W → Calls Tryz.prog 46 #[.slice ra n rc, .int .i64 e] W fun r w' => ∃ v', r = .returned v' ∧ RowsL w' W.heap.size v' (end31 rs e n) ∧ Below W.heap.size W w' := fun W e hb => l31End_any _ rs n e W (hr.below hb) hq hn h5
  have HEND := Lib.hid hend
  have hfar : ∀ e : Int, Far31 (end31 rs e n) e n ∧ (end31 rs e n).length = n := fun e => ⟨endTo31_far _, (endTo31_ways hq.1 hn _).len⟩
  have HFAR := Lib.hid hfar
  have hokW : Calls Tryz.prog 76 #[.slice ra n rc, .slice la L lc] (w.alloc (.cells #[] 100)) fun e w' => e = .returned (.bool B) ∧ Below (w.heap.size + 1) (w.alloc (.cells #[] 100)) w' := by
    have hA := Below.alloc (Below.refl w.heap.size w) (Nat.le_refl _) (.cells #[] 100)
    have := specHomesOk_any (.slice ra n rc) (.slice la L lc) rs l _ (hr.below hA) (H.out.below hA)
    rw [hB, World.size_alloc] at this
    exact this
  have HOKW := Lib.hid hokW
  clear hok hL hh hend hr hfar hokW
  cases B
  · have hF : sendTabsF rs l n = [] := by unfold sendTabsF; rw [hB]; rfl
    rw [hF]
    have T0 := Lib.hid (TabsL.zero w)
    clear hF hB
    go_enter Tryz.func49, Tryz.ntmps49
    go_wp2_with fail
    refine HOKW.out.mono ?_
    rintro e w1 ⟨rfl, hb1⟩
    have T1 := Lib.hid (T0.out.below (by rw [World.size_alloc]; exact hb1))
    have B1 := Lib.hid (Below.trans (Below.alloc (Below.refl w.heap.size w) (Nat.le_refl _) (.cells #[] 100)) (hb1.mono (by omega)))
    clear hb1
    go_wp2_with fail
    go_ret
    exact ⟨_, rfl, T1.out, B1.out⟩
  · have hF : sendTabsF rs l n = homesTo rs n l L := by unfold sendTabsF; rw [hB, if_pos rfl, HL.out]
    rw [hF]
    have T0 := Lib.hid (TabsL.zero w)
    clear hF hB
    go_enter Tryz.func49, Tryz.ntmps49
    go_wp2_with fail
    refine HOKW.out.mono ?_
    rintro e w1 ⟨rfl, hb1⟩
    have T1 := Lib.hid (T0.out.below (by rw [World.size_alloc]; exact hb1))
    have B1 := Lib.hid (Below.trans (Below.alloc (Below.refl w.heap.size w) (Nat.le_refl _) (.cells #[] 100)) (hb1.mono (by omega)))
    clear hb1 T0
    go_wp2_with fail
    go_loopg [5, 6] n (fun gk s5 s6 wr => ∃ i : Nat, s6 = .int .i64 (i : Int) ∧ i + gk = n ∧ Hid (TabsL wr w.heap.size s5 ((List.range i).map fun _ => [])) ∧ Hid (Below w.heap.size w wr))
    case atStart => exact ⟨0, rfl, by omega, T1, B1⟩
    case round =>
      clear T1 B1
      obtain ⟨i, rfl, hi, O, BB⟩ := hrel
      obtain ⟨oa, oc, e, hoc, hocm⟩ := O.out.form
      subst e
      have hlen : ((List.range i).map fun _ => ([] : List Ent)).length = i := by simp
      rw [hlen] at hoc O ⊢
      have HLN := Lib.hid hlen
      clear hlen
      have hswr : w.heap.size ≤ wr.heap.size := BB.out.size
      by_cases hg : gk = 0
      · subst hg
        obtain rfl : i = n := by omega
        have hdn : decide ((i : Int) < (i : Int)) = false := by simp
        clear hi
        have O2 : Hid (TabsL wr w.heap.size (.slice oa i oc) (homesTo rs i l 0)) := O
        clear O
        go_wp2_with fail
        go_loopg [7] L (fun gk s7 wr => ∃ c : Nat, s7 = .int .i64 (c : Int) ∧ c + gk = L ∧ Hid (TabsL wr w.heap.size (.slice oa i oc) (homesTo rs i l c)) ∧ Hid (Below w.heap.size w wr))
        case atStart => exact ⟨0, rfl, by omega, O2, BB⟩
        case round =>
          clear O2 BB HLN
          obtain ⟨c, rfl, hc, O, BB⟩ := hrel
          by_cases hg : gk = 0
          · subst hg
            obtain rfl : c = L := by omega
            have hdn : decide ((c : Int) < (c : Int)) = false := by simp
            go_wp2_with fail
            go_ret
            exact ⟨_, rfl, O.out, BB.out⟩
          · have hcL : c < L := by omega
            have hcI : (c : Int) < (L : Int) := by omega
            have c0 : (0 : Int) ≤ (c : Int) := by omega
            have hgk : 1 ≤ gk := by omega
            have HC := Lib.hid hc
            obtain ⟨lb, loff, rfl, hlb, y0, y1, y2⟩ := (H.out.below BB.out).get c hcL
            obtain ⟨ent, hent⟩ : ∃ e, l.getD c (0, 0, 0) = e := ⟨_, rfl⟩
            rw [hent] at y0 y1 y2
            obtain ⟨f, bt, ho⟩ := ent
            simp only at y0 y1 y2
            have hnx : homesTo rs i l (c + 1) = homeTo (end31 rs ho i) i (f, bt, ho) (homesTo rs i l c) i := by rw [homesTo_succ, hent]; rfl
            have HNX := Lib.hid hnx
            have HCE := Lib.hid (HEND.out wr ho BB.out)
            have hFar := (HFAR.out ho).1
            have hEl := (HFAR.out ho).2
            have HFA := Lib.hid hFar
            obtain ⟨tabs, htabs⟩ : ∃ t, homesTo rs i l c = t := ⟨_, rfl⟩
            have htl : tabs.length = i := by rw [← htabs]; exact homesTo_len _ _ _ _
            have hts : ∀ h, h < i → (tabs.getD h []).length ≤ 100 := fun h hh => by rw [← htabs]; have := homesTo_short rs i l c h hh; omega
            have HTS := Lib.hid hts
            rw [htabs] at O HNX
            have HENT := Lib.hid hent
            clear hnx hent hFar htabs hts hc hg
            obtain ⟨ways, hways⟩ : ∃ t, end31 rs ho i = t := ⟨_, rfl⟩
            rw [hways] at HNX HCE HFA hEl
            have HEL := Lib.hid hEl
            have HTL := Lib.hid htl
            clear hways hEl htl
            obtain ⟨G, hG⟩ : ∃ G, G = gk := ⟨_, rfl⟩
            go_wp2_with fail
            refine HCE.out.mono ?_
            rintro e w2 ⟨wv, rfl, hR2, hb2⟩
            have hswr2 : w.heap.size ≤ wr.heap.size := BB.out.size
            have O2 := Lib.hid (O.out.below hb2)
            have R2 := Lib.hid (hR2.lift (Nat.zero_le _))
            have B2 := Lib.hid (BB.out.trans (hb2.mono hswr2))
            have RL := Lib.hid hR2
            clear hR2 hb2 O RL
            obtain ⟨wva, wvc, e, hwvc, hwvm⟩ := R2.out.form
            subst e
            rw [HEL.out] at hwvc R2 ⊢
            have O3 : Hid (TabsL w2 w.heap.size (.slice oa i oc) (homeTo ways i (f, bt, ho) tabs 0)) := Lib.hid (by rw [homeTo_zero HTL.out]; exact O2.out)
            clear O2
            go_wp2_with fail
            obtain ⟨w2, rfl⟩ : ∃ W, W = w2 := ⟨_, rfl⟩
            go_loopg [9] i (fun gk s9 wr => ∃ h : Nat, s9 = .int .i64 (h : Int) ∧ h + gk = i ∧ Hid (TabsL wr w.heap.size (.slice oa i oc) (homeTo ways i (f, bt, ho) tabs h)) ∧ Hid (RowsL wr 0 (.slice wva i wvc) ways) ∧ Hid (Below w.heap.size w wr))
            case atStart => exact ⟨0, rfl, by omega, O3, R2, B2⟩
            case round =>
              clear O3 R2 B2
              obtain ⟨h, rfl, hh, O, R, BB2⟩ := hrel
              by_cases hg : gk = 0
              · subst hg
                obtain rfl : h = i := by omega
                have hdn : decide ((h : Int) < (h : Int)) = false := by simp
                go_wp2_with fail
                go_roundg (G - 1)
                case measure => omega
                case rel => exact ⟨c + 1, by go_num, by have := HC.out; omega, Lib.hid (by rw [HNX.out]; exact O.out), BB2⟩
              · have hin : h < i := by omega
                have hiI : (h : Int) < (i : Int) := by omega
                have h0 : (0 : Int) ≤ (h : Int) := by omega
                have hgk2 : 1 ≤ gk := by omega
                have HH := Lib.hid hh
                obtain ⟨g, cap', u, e, hgl, hgs, x0, x1, hu⟩ := O.out.get (homeTo_len _ _ _ _ _) h hin
                simp only [Value.slice.injEq] at e
                obtain ⟨rfl, _, rfl⟩ := e
                obtain ⟨_, _, e, hlb2, y0, y1, y2⟩ := (H.out.below BB2.out).get c hcL
                simp only [Option.some.injEq, Addr.mk.injEq] at e
                obtain ⟨rfl, rfl, _⟩ := e
                rw [HENT.out] at y0 y1 y2
                simp only at y0 y1 y2
                have htb : (homeTo ways i (f, bt, ho) tabs h).getD h [] = tabs.getD h [] := by rw [homeTo_get hin, if_neg (by omega)]
                rw [htb] at hu
                obtain ⟨tb, htb2⟩ : ∃ t, tabs.getD h [] = t := ⟨_, rfl⟩
                rw [htb2] at hu
                have htl : tb.length ≤ 100 := by rw [← htb2]; exact HTS.out h hin
                have hput : ∀ x : Int, ∀ W, Below wr.heap.size wr W → Calls Tryz.prog 82 #[u, .agg #[.int .i64 f, .int .i64 bt, .int .i64 x]] W fun r w' => ∃ v', r = .returned v' ∧ EntNew w' W.heap.size v' (putF tb (f, bt, x)) ∧ Below W.heap.size W w' := fun x W hb => by
                  have := l2Put_any u tb (f, bt, x) W (hu.below hb).ents (by omega)
                  unfold entV at this
                  exact this
                have hwx : IntKind.i64.wrap ((h : Int) + 1) = (h : Int) + 1 := IntWalk.i64_in _ (by omega)
                have HP := Lib.hid hput
                have HTB := Lib.hid htb2
                clear hput htb htb2 hu htl hh hg
                by_cases hho : (h : Int) + 1 = ho
                · have hpu : putHome ways (f, bt, ho) h (tabs.getD h []) = putF tb (f, bt, (h : Int) + 1) := by unfold putHome; rw [if_pos hho, HTB.out]
                  have HPUT := Lib.hid hpu
                  have HPX := Lib.hid (HP.out ((h : Int) + 1))
                  clear hpu
                  subst hho
                  have hhb : ((h : Int) + 1 == (h : Int) + 1) = true := by simp
                  go_wp2_with fail
                  go_region_law (go_simp; go_at_call 82; refine (HPX.out _ (by first | exact Below.refl _ _ | exact Below.drew (Below.refl _ _) | exact bw)).mono ?_; rintro e w3 ⟨v3, rfl, hT3, hb3⟩; have hb13 : Below wr.heap.size wr w3 := (by refine Below.trans ?_ (hb3.mono (by first | exact Nat.le_refl _ | omega | (simp; done) | (simp; omega))); exact bw); have k1 := (hb13.cell (p := ⟨g, h, none⟩) hgs).trans x0; have k2 := (hb13.frozen (p := ⟨g, h, none⟩) hgs).trans x1; have O3 := Lib.hid (O.out.below hb13); have R3 := Lib.hid (R.out.below hb13); have B3 := Lib.hid (BB2.out.trans (hb13.mono BB2.out.size)); have T3 : Hid (EntNew w3 w.heap.size v3 (putF tb (f, bt, (h : Int) + 1))) := Lib.hid (hT3.lift (by have := BB2.out.size; (try simp); omega)); obtain ⟨sa, sc, e3, _, _⟩ := hT3.form; obtain ⟨sn, hsn⟩ : ∃ sn, (putF tb (f, bt, (h : Int) + 1)).length = sn := ⟨_, rfl⟩; rw [hsn] at e3; subst e3; clear hT3 hb3 hb13 hsn)
                  all_goals
                    go_wp2_with fail
                    go_roundg (gk - 1)
                    case measure => omega
                    case rel => exact ⟨h + 1, by go_num, by have := HH.out; omega, Lib.hid (by have := O3.out.set (homeTo_len _ _ _ _ _) h hin T3.out; rw [← HPUT.out, homeTo_set hin] at this; exact this), Lib.hid (R3.out.setTab O3.out h _), Lib.hid (O3.out.setBelow B3.out (Nat.le_refl _) h _)⟩
                · have hhb : ((h : Int) + 1 == ho) = false := by simp [hho]
                  obtain ⟨wb, woff, wu, rfl, hwb, z0, hz⟩ := R.out.rows.get h hin
                  obtain ⟨wa1, wc1, e, hwc1, hwm1⟩ := hz.form
                  subst e
                  obtain ⟨wl, hwl⟩ : ∃ m, (ways.getD h []).length = m := ⟨_, rfl⟩
                  rw [hwl] at z0 hwc1 hz
                  have hfr := HFA.out h hin (by simpa using hho)
                  by_cases hw0 : wl = 0
                  · subst hw0
                    have hwe : ways.getD h [] = [] := List.length_eq_zero_iff.1 hwl
                    have hpu : putHome ways (f, bt, ho) h (tabs.getD h []) = tabs.getD h [] := by unfold putHome; rw [if_neg hho, if_neg (by rw [hwe]; simp)]
                    have HPUT := Lib.hid hpu
                    clear hpu hwe hfr hho hz hwl
                    go_wp2_with fail
                    go_roundg (gk - 1)
                    case measure => omega
                    case rel => exact ⟨h + 1, by go_num, by have := HH.out; omega, Lib.hid (by rw [homeTo_same hin HPUT.out]; exact O.out), R, BB2⟩
                  · have hwl2 : 2 ≤ wl := by
                      rcases hfr with e | e
                      · exfalso; apply hw0; rw [← hwl, e]; rfl
                      · omega
                    have hwI : (0 : Int) < (wl : Int) := by omega
                    have hwI2 : (1 : Int) < (wl : Int) := by omega
                    have hwn : 1 < wl := by omega
                    obtain ⟨zb, zoff, rfl, hzb, hz1⟩ := hz.get 1 hwn
                    obtain ⟨xv, hxv⟩ : ∃ x, (ways.getD h []).getD 1 0 = x := ⟨_, rfl⟩
                    rw [hxv] at hz1
                    have hpu : putHome ways (f, bt, ho) h (tabs.getD h []) = putF tb (f, bt, xv) := by unfold putHome; rw [if_neg hho, if_pos (by intro e; apply hw0; rw [← hwl, e]; rfl), HTB.out, hxv]
                    have HPUT := Lib.hid hpu
                    have HPX := Lib.hid (HP.out xv)
                    clear hpu hfr hho hz hwl hxv hw0
                    go_wp2_with fail
                    go_region_law (go_simp; go_at_call 82; refine (HPX.out _ (by first | exact Below.refl _ _ | exact Below.drew (Below.refl _ _) | exact bw)).mono ?_; rintro e w3 ⟨v3, rfl, hT3, hb3⟩; have hb13 : Below wr.heap.size wr w3 := (by refine Below.trans ?_ (hb3.mono (by first | exact Nat.le_refl _ | omega | (simp; done) | (simp; omega))); exact bw); have k1 := (hb13.cell (p := ⟨g, h, none⟩) hgs).trans x0; have k2 := (hb13.frozen (p := ⟨g, h, none⟩) hgs).trans x1; have O3 := Lib.hid (O.out.below hb13); have R3 := Lib.hid (R.out.below hb13); have B3 := Lib.hid (BB2.out.trans (hb13.mono BB2.out.size)); have T3 : Hid (EntNew w3 w.heap.size v3 (putF tb (f, bt, xv))) := Lib.hid (hT3.lift (by have := BB2.out.size; (try simp); omega)); obtain ⟨sa, sc, e3, _, _⟩ := hT3.form; obtain ⟨sn, hsn⟩ : ∃ sn, (putF tb (f, bt, xv)).length = sn := ⟨_, rfl⟩; rw [hsn] at e3; subst e3; clear hT3 hb3 hb13 hsn)
                    all_goals
                      go_wp2_with fail
                      go_roundg (gk - 1)
                      case measure => omega
                      case rel => exact ⟨h + 1, by go_num, by have := HH.out; omega, Lib.hid (by have := O3.out.set (homeTo_len _ _ _ _ _) h hin T3.out; rw [← HPUT.out, homeTo_set hin] at this; exact this), Lib.hid (R3.out.setTab O3.out h _), Lib.hid (O3.out.setBelow B3.out (Nat.le_refl _) h _)⟩
      · have hin : (i : Int) < (n : Int) := by omega
        have hgk : 1 ≤ gk := by omega
        have hnx : ((List.range (i + 1)).map fun _ => ([] : List Ent)) = ((List.range i).map fun _ => ([] : List Ent)) ++ [[]] := map_range_succ _ _
        have HNX := Lib.hid hnx
        clear hnx
        have HI1 := Lib.hid ((EntNew.zero wr).lift hswr)
        have hA := Below.alloc (Below.refl wr.heap.size wr) (Nat.le_refl _) (.cells #[] 103)
        have O1 := Lib.hid (O.out.below hA)
        have B1 := Lib.hid (BB.out.trans (hA.mono hswr))
        clear hA
        go_wp2_with (at_builtin; refine wpList_append_tab rfl (.tmp 22) (.tmp 24) rfl w.heap.size _ _ _ [] i HLN.out rfl O1.out (by simp; omega) _ rfl (by simp) HI1.out ⟨_, _, _, rfl⟩ (by omega) ?_; intro ad c w2 hR2 hb2 hs2; have R2 := Lib.hid hR2; have B2 := Lib.hid (B1.out.trans hb2); clear hR2 hb2)
        go_roundg (gk - 1)
        case measure => omega
        case rel => exact ⟨i + 1, by go_num, by omega, Lib.hid (by rw [HNX.out]; exact R2.out), B2⟩
end Go.Proofs.YtnecdeaikmhanaaGreatDoor
namespace Go.Proofs.YtnecdeaikmhanaaGreatDoor
open Go.RowKit
set_option linter.unusedVariables false
theorem EntsAt.take {w : World} {a : Option Addr} {n cap k : Nat} {l : List Ent} (h : EntsAt w (.slice a n cap) l) (hk : k ≤ n) : EntsAt w (.slice a k cap) (l.take k) := by
  obtain ⟨a', c', e, hc, hm, h⟩ := h
  simp only [Value.slice.injEq] at e
  obtain ⟨rfl, rfl, rfl⟩ := e
  have hl : (l.take k).length = k := by rw [List.length_take]; omega
  unfold EntsAt
  rw [hl]
  refine ⟨a, cap, rfl, by omega, hm, ?_⟩
  rcases h with h | ⟨b, off, e, hb, hcell⟩
  · left; omega
  · right
    refine ⟨b, off, e, hb, fun i hi => ?_⟩
    have e : (l.take k).getD i (0, 0, 0) = l.getD i (0, 0, 0) := by simp [hi]
    rw [e]; exact hcell i (by omega)
theorem EntsAt.dropAt {w : World} {b off n cap k : Nat} {l : List Ent} (h : EntsAt w (.slice (some ⟨b, off, none⟩) n cap) l) (hk : k ≤ n) : EntsAt w (.slice (some ⟨b, off + k * 3, none⟩) (n - k) (cap - k)) (l.drop k) := by
  obtain ⟨a', c', e, hc, hm, h⟩ := h
  simp only [Value.slice.injEq] at e
  obtain ⟨rfl, rfl, rfl⟩ := e
  have hl : (l.drop k).length = l.length - k := by rw [List.length_drop]
  unfold EntsAt
  rw [hl]
  refine ⟨_, cap - k, rfl, by omega, by omega, ?_⟩
  rcases h with h | ⟨b', off', e, hb, hcell⟩
  · left; omega
  · simp only [Option.some.injEq, Addr.mk.injEq] at e
    obtain ⟨rfl, rfl, _⟩ := e
    right
    refine ⟨b, off + k * 3, rfl, hb, fun i hi => ?_⟩
    have e : (l.drop k).getD i (0, 0, 0) = l.getD (k + i) (0, 0, 0) := by simp
    rw [e]
    obtain ⟨h0, h1, h2⟩ := hcell (k + i) (by omega)
    have ea : off + k * 3 + i * 3 = off + (k + i) * 3 := by omega
    rw [ea]; exact ⟨h0, h1, h2⟩
theorem EntsAt.dropIf {w : World} {b off n cap k : Nat} {l : List Ent} (h : EntsAt w (.slice (some ⟨b, off, none⟩) n cap) l) (hk : k ≤ n) : EntsAt w (.slice (if cap = k then some ⟨b, off, none⟩ else some ⟨b, off + k * 3, none⟩) (n - k) (cap - k)) (l.drop k) := by
  by_cases hck : cap = k
  · rw [if_pos hck]
    obtain ⟨a', c', e, hc, hm, _⟩ := h
    simp only [Value.slice.injEq] at e
    obtain ⟨_, rfl, rfl⟩ := e
    have hl : (l.drop k).length = l.length - k := by rw [List.length_drop]
    unfold EntsAt
    rw [hl]
    exact ⟨_, cap - k, rfl, by omega, by omega, .inl (by omega)⟩
  · rw [if_neg hck]; exact h.dropAt hk
def homVal (l : List Ent) (q : Nat) : Value := if q % 3 = 0 then .int .i64 (l.getD (q / 3) (0, 0, 0)).1 else if q % 3 = 1 then .int .i64 (l.getD (q / 3) (0, 0, 0)).2.1 else .int .i64 (l.getD (q / 3) (0, 0, 0)).2.2
def homCells (l : List Ent) : List Value := (List.range (l.length * 3)).map (homVal l)
theorem homCells_len (l : List Ent) : (homCells l).length = l.length * 3 := by simp [homCells]
theorem homCells_get {l : List Ent} {q : Nat} (h : q < l.length * 3) : (homCells l)[q]? = some (homVal l q) := by
  unfold homCells
  rw [List.getElem?_map, List.getElem?_range h]; rfl
theorem HomNew.more {w : World} {lo : Nat} {v' : Value} {l l2 : List Ent} {xs : List Value} (hl : xs.length = l.length * 3)
    (hx : ∀ i, i < l.length → xs.getD (i * 3) undef = .int .i64 (l.getD i (0, 0, 0)).1 ∧ xs.getD (i * 3 + 1) undef = .int .i64 (l.getD i (0, 0, 0)).2.1 ∧ xs.getD (i * 3 + 2) undef = .int .i64 (l.getD i (0, 0, 0)).2.2)
    (h : w.ownsRow lo 83 3 v' (l.length + l2.length) (xs ++ homCells l2)) : HomNew w lo v' (l ++ l2) := by
  refine ⟨_, by rw [List.length_append]; exact h, fun i hi => ?_⟩
  rw [List.length_append] at hi
  by_cases hil : i < l.length
  · obtain ⟨e0, e1, e2⟩ := hx i hil
    have q : (l ++ l2).getD i (0, 0, 0) = l.getD i (0, 0, 0) := by simp only [List.getD_eq_getElem?_getD]; rw [List.getElem?_append_left hil]
    have r : ∀ j, j < xs.length → (xs ++ homCells l2).getD j undef = xs.getD j undef := fun j hj => by simp only [List.getD_eq_getElem?_getD]; rw [List.getElem?_append_left hj]
    rw [q, r _ (by omega), r _ (by omega), r _ (by omega)]
    exact ⟨e0, e1, e2⟩
  · obtain ⟨m, hm⟩ : ∃ m, i = l.length + m := ⟨i - l.length, by omega⟩
    subst hm
    have q : (l ++ l2).getD (l.length + m) (0, 0, 0) = l2.getD m (0, 0, 0) := by simp only [List.getD_eq_getElem?_getD]; rw [List.getElem?_append_right (by omega), Nat.add_sub_cancel_left]
    have r : ∀ j, j < 3 → (xs ++ homCells l2).getD ((l.length + m) * 3 + j) undef = homVal l2 (m * 3 + j) := fun j hj => by
      simp only [List.getD_eq_getElem?_getD]
      rw [List.getElem?_append_right (by omega), show (l.length + m) * 3 + j - xs.length = m * 3 + j by omega, homCells_get (by omega)]; rfl
    rw [q]
    have r0 := r 0 (by omega)
    rw [Nat.add_zero] at r0
    rw [r0, r 1 (by omega), r 2 (by omega)]
    unfold homVal
    refine ⟨?_, ?_, ?_⟩
    · rw [if_pos (by omega), show (m * 3 + 0) / 3 = m by omega]
    · rw [if_neg (by omega), if_pos (by omega), show (m * 3 + 1) / 3 = m by omega]
    · rw [if_neg (by omega), if_neg (by omega), show (m * 3 + 2) / 3 = m by omega]
theorem setE_getD {xs : List Value} {k i : Nat} {u : Value} (hk : k < xs.length) : (xs.set k u).getD i undef = if i = k then u else xs.getD i undef := by
  by_cases h : i = k
  · subst h; simp [hk]
  · rw [if_neg h]; simp [Ne.symm h]
theorem HomNew.set {w : World} {lo n g cap k : Nat} {l : List Ent} (h : HomNew w lo (.slice (some ⟨g, 0, none⟩) n cap) l) (hn : l.length = n) (hk : k < n) (x : Int) :
    HomNew (w.setCell ⟨g, k * 3 + 2, none⟩ (.int .i64 x)) lo (.slice (some ⟨g, 0, none⟩) n cap) (l.set k ((l.getD k (0, 0, 0)).1, (l.getD k (0, 0, 0)).2.1, x)) := by
  obtain ⟨xs, h1, h2⟩ := h
  subst hn
  have hxl := h1.1
  refine ⟨xs.set (k * 3 + 2) (.int .i64 x), by rw [List.length_set]; exact (h1.stored (k * 3 + 2) (.int .i64 x)).1, fun i hi => ?_⟩
  rw [List.length_set] at hi
  have e : (l.set k ((l.getD k (0, 0, 0)).1, (l.getD k (0, 0, 0)).2.1, x)).getD i (0, 0, 0) = if i = k then ((l.getD k (0, 0, 0)).1, (l.getD k (0, 0, 0)).2.1, x) else l.getD i (0, 0, 0) := by
    by_cases h : i = k
    · subst h; simp [hi]
    · rw [if_neg h]; simp [Ne.symm h]
  have hkq : k * 3 + 2 < xs.length := by omega
  have f0 : (xs.set (k * 3 + 2) (Value.int .i64 x)).getD (i * 3) undef = xs.getD (i * 3) undef := by rw [setE_getD hkq, if_neg (by omega)]
  have f1 : (xs.set (k * 3 + 2) (Value.int .i64 x)).getD (i * 3 + 1) undef = xs.getD (i * 3 + 1) undef := by rw [setE_getD hkq, if_neg (by omega)]
  rw [e, f0, f1, setE_getD hkq]
  obtain ⟨e0, e1, e2⟩ := h2 i hi
  by_cases hik : i = k
  · subst hik
    rw [if_pos rfl, if_pos rfl]; exact ⟨e0, e1, rfl⟩
  · rw [if_neg (by omega : ¬ i * 3 + 2 = k * 3 + 2), if_neg hik]; exact ⟨e0, e1, e2⟩
theorem HomNew.cells {w : World} {lo n cap k : Nat} {ad : Option Addr} {l : List Ent} (h : HomNew w lo (.slice ad n cap) l) (hn : l.length = n) (hk : k < n) :
    ∃ g, ad = some ⟨g, 0, none⟩ ∧ lo ≤ g ∧ g < w.heap.size ∧ (∃ u, w.cell? ⟨g, k * 3 + 2, none⟩ = some u) ∧ w.frozen? ⟨g, k * 3 + 2, none⟩ = false := by
  obtain ⟨xs, h1, h2⟩ := h
  subst hn
  have hxl := h1.1
  rcases h1.2 with ⟨e, hn⟩ | ⟨g, cap', cur, e, hb, hg, hnc, hcm, hcs, htake⟩
  · omega
  · simp only [Value.slice.injEq] at e
    obtain ⟨rfl, _, rfl⟩ := e
    exact ⟨g, rfl, hb, heap_lt hg, ⟨xs[k * 3 + 2]'(by omega), by rw [h1.cellAt (k * 3 + 2) (by omega), List.getElem?_eq_getElem (by omega)]⟩, h1.frozenAt _⟩
variable {W : World}
theorem wp_append_homs {o : Oper} {a : Act} {K : Act → World → Prop} {Q : Exit → Act → World → Prop} (s x : Operand)
    (ho : o.op = .call { callee := .builtin .append, args := #[s, x], argTypes := #[34, 34] })
    (lo : Nat) (v sv : Value) (l l2 : List Ent) (N : Nat) (hN : l.length + l2.length = N) (hs : a.eval s = v) (hO : HomNew W lo v l) (hx : a.eval x = sv) (hE : EntsAt W sv l2) (hl : N ≤ 1000000) (hlo : lo ≤ W.heap.size)
    (h : ∀ ad c w', HomNew w' lo (.slice ad N c) (l ++ l2) → Below lo W w' → w'.heap.size ≥ W.heap.size → K (a.put o.dst (.slice ad N c)) w') : o.wp Tryz.prog a W K Q := by
  obtain ⟨i0, hi, hz0, hz1, hz2⟩ := info_parts info_h3
  obtain ⟨xs, hown, hxs⟩ := hO
  obtain ⟨ad, cap, rfl, hc, hm, hh⟩ := hE
  have fin : ∀ v' w', w'.ownsRow lo 83 3 v' (l.length + l2.length) (xs ++ homCells l2) → W.grownBy w' v.ownBlock → K (a.put o.dst v') w' := fun v' w' h1 h2 => by
    have hH := HomNew.more hown.1 hxs h1
    obtain ⟨ad', c', rfl, _, _⟩ := hH.form
    rw [List.length_append, hN] at hH ⊢
    exact h ad' c' w' hH (Below.grown (Below.refl _ _) h2 hlo (fun g hg => (World.ownsRow.lt hown g hg).1)) h2.size
  cases ad with
  | none =>
    have hm0 : l2.length = 0 := by
      rcases hh with hh | ⟨b, off, e, _⟩
      · exact hh
      · cases e
    have hl2 : l2 = [] := List.length_eq_zero_iff.1 hm0
    subst hl2
    have hrun := run_append_owned_noneC (P := Tryz.prog) (w := W) lo 34 o.type 83 i0 3 Tryz.underlying34 hi v l.length cap xs hown
    unfold Oper.wp
    simp [execOp, ho, resolve, invoke, builtin, hs, hx, hrun, Result.andThen]
    exact fin v W (by simpa [homCells] using hown) (grownBy_refl _ _)
  | some ad =>
    refine wp_append_own W s x 34 ho lo 83 i0 (.agg #[.int .i64 0, .int .i64 0, .int .i64 0]) 3 24 Tryz.underlying34 hi hz0 hz1 hz2 rfl (by decide) v l.length xs hs hown ad l2.length cap (homCells l2) hx (homCells_len l2) ?_ ?_ (by unfold maxLen; omega) (by omega) hlo (fun v' w' a1 a2 _ => fin v' w' a1 a2)
    · intro q u hq
      have hq3 : q < l2.length * 3 := by
        rcases Nat.lt_or_ge q (l2.length * 3) with h | h
        · exact h
        · rw [List.getElem?_eq_none (by rw [homCells_len]; exact h)] at hq; cases hq
      rw [homCells_get hq3] at hq
      cases hq
      rcases hh with hh | ⟨b, off, e, hb, hcell⟩
      · omega
      · simp only [Option.some.injEq] at e
        subst e
        obtain ⟨h0, h1, h2⟩ := hcell (q / 3) (by omega)
        have ha : (⟨b, off, none⟩ : Addr).add q = ⟨b, off + q, none⟩ := by simp [Addr.add]
        rw [ha]
        unfold homVal
        by_cases q0 : q % 3 = 0
        · rw [if_pos q0]; rw [show off + q / 3 * 3 = off + q by omega] at h0; exact h0
        · rw [if_neg q0]
          by_cases q1 : q % 3 = 1
          · rw [if_pos q1]; rw [show off + q / 3 * 3 + 1 = off + q by omega] at h1; exact h1
          · rw [if_neg q1]; rw [show off + q / 3 * 3 + 2 = off + q by omega] at h2; exact h2
    · intro u hu
      unfold homCells at hu
      obtain ⟨q, _, rfl⟩ := List.mem_map.1 hu
      unfold homVal
      split
      · rfl
      · split <;> rfl
theorem wpList_append_homs {ops : Array Oper} {rest : List Oper} {o : Oper} {a : Act} {Q : Exit → Act → World → Prop} (hgd : o.guard = none) (s x : Operand)
    (ho : o.op = .call { callee := .builtin .append, args := #[s, x], argTypes := #[34, 34] })
    (lo : Nat) (v sv : Value) (l l2 : List Ent) (N : Nat) (hN : l.length + l2.length = N) (hs : a.eval s = v) (hO : HomNew W lo v l) (hx : a.eval x = sv) (hE : EntsAt W sv l2) (hl : N ≤ 1000000) (hlo : lo ≤ W.heap.size)
    (h : ∀ ad c w', HomNew w' lo (.slice ad N c) (l ++ l2) → Below lo W w' → w'.heap.size ≥ W.heap.size → wpList Tryz.prog ops Q rest (a.put o.dst (.slice ad N c)) w') :
    wpList Tryz.prog ops Q (o :: rest) a W :=
  wpList_plain hgd fun _ hK => wp_append_homs s x ho lo v sv l l2 N hN hs hO hx hE hl hlo fun ad c w' h1 h2 h3 => hK _ _ (h ad c w' h1 h2 h3)
end Go.Proofs.YtnecdeaikmhanaaGreatDoor
namespace Go.Proofs.YtnecdeaikmhanaaGreatDoor
open Go.RowKit
set_option linter.unusedVariables false
theorem cmpI_neg {x y : Int} : cmpI x y < 0 ↔ x < y := by unfold cmpI; split <;> (try split) <;> omega
theorem cmpI_zero {x y : Int} : cmpI x y = 0 ↔ x = y := by unfold cmpI; split <;> (try split) <;> omega
theorem ord_neg {a b : Ent} : ordF a b < 0 ↔ a.1 < b.1 ∨ (a.1 = b.1 ∧ a.2.1 < b.2.1) := by
  unfold ordF rcmpF
  by_cases h : cmpI a.1 b.1 = 0
  · rw [if_neg (by simpa using h), cmpI_neg]
    have := cmpI_zero.1 h
    omega
  · rw [if_pos h, cmpI_neg]
    have : a.1 ≠ b.1 := fun e => h (cmpI_zero.2 e)
    omega
theorem ord_trans {a b c : Ent} (h1 : ordF a b < 0) (h2 : ordF b c < 0) : ordF a c < 0 := by rw [ord_neg] at *; omega
theorem homesOk_all {rs : List (List Int)} {l : List Ent} (h : homesOkF rs l = true) : relsOkF rs = true ∧ l.length ≤ 4 ∧ ∀ i, i < l.length → homOkF rs.length (l.getD i (0, 0, 0)) = true ∧ (i ≠ 0 → ordF (l.getD (i - 1) (0, 0, 0)) (l.getD i (0, 0, 0)) < 0) := by
  unfold homesOkF at h
  rw [Bool.and_eq_true, Bool.and_eq_true, List.all_eq_true, decide_eq_true_eq] at h
  refine ⟨h.2.1, h.2.2, fun i hi => ?_⟩
  have := h.1 i (List.mem_range.2 hi)
  rw [Bool.and_eq_true, Bool.or_eq_true, decide_eq_true_eq, decide_eq_true_eq] at this
  exact ⟨this.1, fun h0 => this.2.resolve_left h0⟩
end Go.Proofs.YtnecdeaikmhanaaGreatDoor
