/- A part of the proof; packed by a program of mine out of my texts. -/
import Derived.Test.YtnecdeaikmhanaaGreatDoorPE0
import Derived.Test.YtnecdeaikmhanaaGreatDoorPE1
import Derived.Test.YtnecdeaikmhanaaGreatDoorPE2
import Derived.Test.YtnecdeaikmhanaaGreatDoorPE3
import Derived.Test.YtnecdeaikmhanaaGreatDoorPE4
import Derived.Test.YtnecdeaikmhanaaGreatDoorPE5
import Derived.Test.YtnecdeaikmhanaaGreatDoorPE6
import Derived.Test.YtnecdeaikmhanaaGreatDoorPE7
import Derived.Test.YtnecdeaikmhanaaGreatDoorPE8
import Derived.Test.YtnecdeaikmhanaaGreatDoorPE9
import Derived.Test.YtnecdeaikmhanaaGreatDoorPE10
import Derived.Test.YtnecdeaikmhanaaGreatDoorPE12
import Derived.Test.YtnecdeaikmhanaaGreatDoorPE13
import Derived.Test.YtnecdeaikmhanaaGreatDoorPE14
import Derived.Test.YtnecdeaikmhanaaGreatDoorPE15
import Derived.Test.YtnecdeaikmhanaaGreatDoorPE16
import Derived.Test.YtnecdeaikmhanaaGreatDoorPE19
namespace Go.Proofs.YtnecdeaikmhanaaGreatDoor
set_option linter.unusedVariables false
theorem ptext_len (p : List Int) : 1 ≤ (ptextF p).length := by
  unfold ptextF
  split
  · simp
  · rename_i h
    cases p with
    | nil => exact absurd rfl h
    | cons x t =>
      rw [List.map_cons, Lib.join_cons, List.length_append]
      have := (decF_len x.toNat).1
      omega
def lnWhat : Bs := [119, 104, 97, 116]
def lnWays1 : Bs := [119, 97, 121, 115, 32, 49]
def lnSend29 : Bs := [115, 101, 110, 100, 32, 50, 32, 57]
theorem ex_what (s : LSt) : execF s lnWhat = (s, sWhat) := by
  have e : cutC 32 lnWhat = [lnWhat] := by decide +kernel
  unfold execF
  rw [e]
  show (if lnWhat = sSells then _ else if lnWhat = sPeers then _ else if lnWhat = sParts then _ else if lnWhat = sHome then _ else if lnWhat = sWays then _ else if lnWhat = sSend then _ else if lnWhat = sFree then _ else (s, sWhat)) = _
  rw [if_neg (by decide), if_neg (by decide), if_neg (by decide), if_neg (by decide), if_neg (by decide), if_neg (by decide), if_neg (by decide)]
theorem ex_free (s : LSt) : execF s sFree = (s, freeLine s) := by
  have e : cutC 32 sFree = [sFree] := by decide +kernel
  unfold execF
  rw [e]
  show (if sFree = sSells then _ else if sFree = sPeers then _ else if sFree = sParts then _ else if sFree = sHome then _ else if sFree = sWays then _ else if sFree = sSend then _ else if sFree = sFree then (s, freeLine s) else _) = _
  rw [if_neg (by decide), if_neg (by decide), if_neg (by decide), if_neg (by decide), if_neg (by decide), if_neg (by decide), if_pos rfl]
theorem ex_ways1 (s : LSt) : execF s lnWays1 = (s, Lib.join ((end31 s.rels 1 4).map ptextF) [32] ++ [10]) := by
  have e : cutC 32 lnWays1 = [sWays, [49]] := by decide +kernel
  have n1 : numF [49] = 1 := by decide +kernel
  unfold execF
  rw [e]
  show (if sWays = sSells then _ else if sWays = sPeers then _ else if sWays = sParts then _ else if sWays = sHome then _ else if sWays = sWays then (s, waysLine s [sWays, [49]]) else _) = _
  rw [if_neg (by decide), if_neg (by decide), if_neg (by decide), if_neg (by decide), if_pos rfl]
  unfold waysLine
  show (s, if in14 (numF [49]) = true then Lib.join ((end31 s.rels (numF [49]) 4).map ptextF) [32] ++ [10] else sWhat) = _
  rw [n1, if_pos (by decide)]
theorem ex_send29 (s : LSt) : execF s lnSend29 = (s, ptextF (wayF (sendTabsF s.rels s.homes 4) 2 9).1 ++ (if (wayF (sendTabsF s.rels s.homes 4) 2 9).2 = true then sHomeEnd else sLost)) := by
  have e : cutC 32 lnSend29 = [sSend, [50], [57]] := by decide +kernel
  have n1 : numF [50] = 2 := by decide +kernel
  have n2 : numF [57] = 9 := by decide +kernel
  unfold execF
  rw [e]
  show (if sSend = sSells then _ else if sSend = sPeers then _ else if sSend = sParts then _ else if sSend = sHome then _ else if sSend = sWays then _ else if sSend = sSend then (s, sendLine s [sSend, [50], [57]]) else _) = _
  rw [if_neg (by decide), if_neg (by decide), if_neg (by decide), if_neg (by decide), if_neg (by decide), if_pos rfl]
  unfold sendLine
  show (s, if in14 (numF [50]) = true ∧ addrF (numF [57]) = true then ptextF (wayF (sendTabsF s.rels s.homes 4) (numF [50]) (numF [57])).1 ++ (if (wayF (sendTabsF s.rels s.homes 4) (numF [50]) (numF [57])).2 = true then sHomeEnd else sLost) else sWhat) = _
  rw [n1, n2, if_pos (by decide)]
theorem count_one {s : LSt} (h : StOk s) : ∃ d : UInt8, decF s.homes.length = [d] ∧ 48 ≤ d.toNat ∧ d.toNat ≤ 52 := by
  have h4 := (homesOk_all h.hom).2.1
  unfold decF
  rw [if_pos (by omega)]
  exact ⟨_, rfl, by rw [dg_nat (by omega)]; omega, by rw [dg_nat (by omega)]; omega⟩
theorem ways_len8 {R : List (List Int)} (hl : R.length = 4) : 8 ≤ (Lib.join ((end31 R 1 4).map ptextF) [32] ++ [10]).length := by
  have h4 : (end31 R 1 4).length = 4 := (endTo31_ways (home := 1) hl (by omega) (4 * 4 * 4)).len
  match hE : end31 R 1 4, h4 with
  | [a, b, c, d], _ =>
    rw [List.map_cons, List.length_append, Lib.join_length]
    have := ptext_len a
    have := ptext_len b
    have := ptext_len c
    have := ptext_len d
    simp [Lib.lens]
    omega
theorem quiet {ls : List Bs} (h : ∀ l, l ∈ ls → (10 : UInt8) ∉ l) (hl : (joinL ls).length ≤ 460) : ∃ (o X : Bs) (d : UInt8), 11 ≤ X.length ∧ linesF (joinL ls) = o ++ [d, 10] ∧ linesF (joinL (ls ++ [lnWhat])) = o ++ sWhat ++ [d, 10] ∧
    linesF (joinL (ls ++ [lnWays1, lnSend29, sFree, lnWhat])) = o ++ X ++ sWhat ++ [d, 10] := by
  have hok := run_ok ls
  obtain ⟨d, hd, _⟩ := count_one hok
  have hin : ∀ ms : List Bs, (∀ m, m ∈ ms → (10 : UInt8) ∉ m) → ∀ l, l ∈ ls ++ ms → (10 : UInt8) ∉ l := fun ms hm l hl' => by
    rcases List.mem_append.1 hl' with h1 | h1
    · exact h l h1
    · exact hm l h1
  have hlen : ∀ ms : List Bs, (joinL ms).length ≤ 40 → (joinL (ls ++ ms)).length ≤ 500 := fun ms hm => by
    rw [joinL_append, List.length_append]; omega
  rw [linesF_join h (by omega), linesF_join (hin [lnWhat] (by decide)) (hlen _ (by decide)), linesF_join (hin [lnWays1, lnSend29, sFree, lnWhat] (by decide)) (hlen _ (by decide)), runF_append, runF_append]
  generalize runF ls = x at hok hd ⊢
  obtain ⟨s, o⟩ := x
  have step : ∀ s o l t, goF2 (s, o) (l :: t) = goF2 ((execF s l).1, o ++ (execF s l).2) t := fun _ _ _ _ => rfl
  have fin : ∀ s o, goF2 (s, o) [] = (s, o) := fun _ _ => rfl
  simp only [step, fin, ex_what, ex_ways1, ex_send29, ex_free]
  have hw := ways_len8 hok.len
  have hs := ptext_len (wayF (sendTabsF s.rels s.homes 4) 2 9).1
  refine ⟨o, (Lib.join ((end31 s.rels 1 4).map ptextF) [32] ++ [10]) ++ (ptextF (wayF (sendTabsF s.rels s.homes 4) 2 9).1 ++ (if (wayF (sendTabsF s.rels s.homes 4) 2 9).2 = true then sHomeEnd else sLost)) ++ freeLine s, d, ?_, ?_, ?_, ?_⟩
  · rw [List.length_append, List.length_append]
    have hw' : 8 ≤ (Lib.join ((end31 s.rels 1 4).map ptextF) [32] ++ [10]).length := hw
    have : 6 ≤ (if (wayF (sendTabsF s.rels s.homes 4) 2 9).2 = true then sHomeEnd else sLost).length := by split <;> decide
    have h2 : (ptextF (wayF (sendTabsF s.rels s.homes 4) 2 9).1 ++ (if (wayF (sendTabsF s.rels s.homes 4) 2 9).2 = true then sHomeEnd else sLost)).length = (ptextF (wayF (sendTabsF s.rels s.homes 4) 2 9).1).length + (if (wayF (sendTabsF s.rels s.homes 4) 2 9).2 = true then sHomeEnd else sLost).length := List.length_append
    omega
  · have hd' : decF s.homes.length = [d] := hd
    rw [hd']; simp
  · have hd' : decF s.homes.length = [d] := hd
    rw [hd']; simp
  · have hd' : decF s.homes.length = [d] := hd
    rw [hd']; simp
theorem mem_while {P : Ent → Bool} : ∀ {l : List Ent} {x : Ent}, x ∈ l.takeWhile P → P x = true
  | [], x, h => by simp at h
  | y :: t, x, h => by
    rw [List.takeWhile_cons] at h
    split at h
    · rename_i hy
      rcases List.mem_cons.1 h with rfl | h
      · exact hy
      · exact mem_while h
    · simp at h
theorem while_all {P : Ent → Bool} : ∀ {a b : List Ent}, (∀ x, x ∈ a → P x = true) → (a ++ b).takeWhile P = a ++ b.takeWhile P ∧ (a ++ b).dropWhile P = b.dropWhile P
  | [], b, _ => ⟨rfl, rfl⟩
  | x :: t, b, h => by
    have hx := h x (List.mem_cons_self ..)
    obtain ⟨e1, e2⟩ := while_all (a := t) (b := b) (fun y hy => h y (List.mem_cons_of_mem _ hy))
    simp [hx, e1, e2]
theorem put_comm (H : List Ent) {a b : Ent} (hab : ordF a b < 0) (hba : ¬ ordF b a < 0) : homePut (homePut H a) b = homePut (homePut H b) a ∧
    ∃ k, k < (homePut (homePut H a) b).length ∧ homePut H b = (homePut (homePut H a) b).take k ++ (homePut (homePut H a) b).drop (k + 1) := by
  obtain ⟨A1, hA1⟩ : ∃ A, H.takeWhile (fun x => decide (ordF x a < 0)) = A := ⟨_, rfl⟩
  obtain ⟨A2, hA2⟩ : ∃ A, H.dropWhile (fun x => decide (ordF x a < 0)) = A := ⟨_, rfl⟩
  have hH : H = A1 ++ A2 := by rw [← hA1, ← hA2]; exact List.takeWhile_append_dropWhile.symm
  have h1 : ∀ x, x ∈ A1 → ordF x a < 0 := fun x hx => by
    rw [← hA1] at hx
    have := mem_while hx
    simpa using this
  have h1b : ∀ x, x ∈ A1 → ordF x b < 0 := fun x hx => ord_trans (h1 x hx) hab
  have ea : homePut H a = A1 ++ a :: A2 := by unfold homePut; rw [hA1, hA2]
  have w1 := while_all (P := fun x => decide (ordF x b < 0)) (a := A1) (b := a :: A2) (fun x hx => by simpa using h1b x hx)
  have w2 := while_all (P := fun x => decide (ordF x b < 0)) (a := A1) (b := A2) (fun x hx => by simpa using h1b x hx)
  have eab : homePut (homePut H a) b = A1 ++ a :: (A2.takeWhile (fun x => decide (ordF x b < 0)) ++ b :: A2.dropWhile (fun x => decide (ordF x b < 0))) := by
    rw [ea]
    unfold homePut
    rw [w1.1, w1.2]
    simp [hab]
  have eb : homePut H b = A1 ++ (A2.takeWhile (fun x => decide (ordF x b < 0)) ++ b :: A2.dropWhile (fun x => decide (ordF x b < 0))) := by
    rw [hH]
    unfold homePut
    rw [w2.1, w2.2]
    simp
  have hstop : ∀ t : List Ent, (∀ y t', t = y :: t' → ¬ ordF y a < 0) → (A1 ++ t).takeWhile (fun x => decide (ordF x a < 0)) = A1 ∧ (A1 ++ t).dropWhile (fun x => decide (ordF x a < 0)) = t := fun t ht => by
    have w := while_all (P := fun x => decide (ordF x a < 0)) (a := A1) (b := t) (fun x hx => by simpa using h1 x hx)
    rw [w.1, w.2]
    cases t with
    | nil => simp
    | cons y t' => have := ht y t' rfl; simp [this]
  have hA2h : ∀ y t', A2 = y :: t' → ¬ ordF y a < 0 := fun y t' e => by
    rw [← hA2] at e
    have := List.head?_dropWhile_not (fun x => decide (ordF x a < 0)) H
    rw [e] at this
    simpa using this
  have eba : homePut (homePut H b) a = A1 ++ a :: (A2.takeWhile (fun x => decide (ordF x b < 0)) ++ b :: A2.dropWhile (fun x => decide (ordF x b < 0))) := by
    rw [eb]
    have := hstop (A2.takeWhile (fun x => decide (ordF x b < 0)) ++ b :: A2.dropWhile (fun x => decide (ordF x b < 0))) (fun y t' e => by
      cases hA : A2 with
      | nil => rw [hA] at e; simp at e; rw [← e.1]; exact hba
      | cons z u =>
        rw [hA] at e
        by_cases hz : ordF z b < 0
        · simp [hz] at e; rw [← e.1]; exact hA2h z u hA
        · simp [hz] at e; rw [← e.1]; exact hba)
    unfold homePut
    rw [this.1, this.2]
  refine ⟨by rw [eab, eba], A1.length, ?_, ?_⟩
  · rw [eab]; simp
  · rw [eab, eb]
    simp
def lnA : Bs := [104, 111, 109, 101, 32, 49, 54, 47, 53, 32, 49]
def lnB : Bs := [104, 111, 109, 101, 32, 51, 50, 47, 53, 32, 50]
theorem ex_lnA (s : LSt) : execF s lnA = if homesOkF s.rels (homePut s.homes (16, 5, 1)) = true then ({ s with homes := homePut s.homes (16, 5, 1) }, []) else (s, sWhat) := by
  have e : cutC 32 lnA = [sHome, [49, 54, 47, 53], [49]] := by decide +kernel
  have n1 : numF [49] = 1 := by decide +kernel
  have n2 : rreadF [49, 54, 47, 53] = some (16, 5) := rread_is (f := 16) (b := 5) (by omega) (by omega) (by decide)
  unfold execF
  rw [e]
  show (if sHome = sSells then _ else if sHome = sPeers then _ else if sHome = sParts then _ else if sHome = sHome then homeLine s [sHome, [49, 54, 47, 53], [49]] else _) = _
  rw [if_neg (by decide), if_neg (by decide), if_neg (by decide), if_pos rfl]
  unfold homeLine
  show (match rreadF [49, 54, 47, 53] with | none => (s, sWhat) | some (f, b) => if homesOkF s.rels (homePut s.homes (f, b, numF [49])) = true then ({ s with homes := homePut s.homes (f, b, numF [49]) }, []) else (s, sWhat)) = _
  rw [n2, n1]
theorem ex_lnB (s : LSt) : execF s lnB = if homesOkF s.rels (homePut s.homes (32, 5, 2)) = true then ({ s with homes := homePut s.homes (32, 5, 2) }, []) else (s, sWhat) := by
  have e : cutC 32 lnB = [sHome, [51, 50, 47, 53], [50]] := by decide +kernel
  have n1 : numF [50] = 2 := by decide +kernel
  have n2 : rreadF [51, 50, 47, 53] = some (32, 5) := rread_is (f := 32) (b := 5) (by omega) (by omega) (by decide)
  unfold execF
  rw [e]
  show (if sHome = sSells then _ else if sHome = sPeers then _ else if sHome = sParts then _ else if sHome = sHome then homeLine s [sHome, [51, 50, 47, 53], [50]] else _) = _
  rw [if_neg (by decide), if_neg (by decide), if_neg (by decide), if_pos rfl]
  unfold homeLine
  show (match rreadF [51, 50, 47, 53] with | none => (s, sWhat) | some (f, b) => if homesOkF s.rels (homePut s.homes (f, b, numF [50])) = true then ({ s with homes := homePut s.homes (f, b, numF [50]) }, []) else (s, sWhat)) = _
  rw [n2, n1]
theorem any_order {ls : List Bs} (e : List Bs) (hlen : (runF (ls ++ [lnA, lnB])).2.length = (runF ls).2.length) : runF (ls ++ lnA :: lnB :: e) = runF (ls ++ lnB :: lnA :: e) := by
  rw [runF_append] at hlen
  rw [runF_append, runF_append]
  generalize runF ls = x at hlen ⊢
  obtain ⟨s, o⟩ := x
  have step : ∀ s o l t, goF2 (s, o) (l :: t) = goF2 ((execF s l).1, o ++ (execF s l).2) t := fun _ _ _ _ => rfl
  have fin : ∀ s o, goF2 (s, o) [] = (s, o) := fun _ _ => rfl
  rw [step, step, fin] at hlen
  rw [step, step, step, step]
  have hw : sWhat.length = 5 := by decide
  rw [ex_lnA] at hlen ⊢
  by_cases hA : homesOkF s.rels (homePut s.homes (16, 5, 1)) = true
  · rw [if_pos hA] at hlen ⊢
    simp only [List.append_nil] at hlen ⊢
    rw [ex_lnB] at hlen ⊢
    simp only at hlen ⊢
    by_cases hB : homesOkF s.rels (homePut (homePut s.homes (16, 5, 1)) (32, 5, 2)) = true
    · rw [if_pos hB]
      obtain ⟨p1, k, hk, p2⟩ := put_comm s.homes (a := (16, 5, 1)) (b := (32, 5, 2)) (by decide) (by decide)
      have hBo : homesOkF s.rels (homePut s.homes (32, 5, 2)) = true := by rw [p2]; exact homes_drop hB hk
      rw [ex_lnB, if_pos hBo]
      simp only [List.append_nil]
      rw [ex_lnA]
      simp only
      rw [← p1, if_pos hB]
      simp only [List.append_nil]
    · rw [if_neg hB] at hlen
      simp only [List.length_append] at hlen
      omega
  · rw [if_neg hA] at hlen
    simp only [List.length_append] at hlen
    omega
end Go.Proofs.YtnecdeaikmhanaaGreatDoor
namespace Go.Proofs.YtnecdeaikmhanaaGreatDoor
set_option linter.unusedVariables false
def Whole (l : Bs) : Prop := ∃ ls : List Bs, l = joinL ls ∧ ∀ x, x ∈ ls → (10 : UInt8) ∉ x
theorem Whole.nil : Whole [] := ⟨[], rfl, fun x h => nomatch h⟩
theorem Whole.app {a b : Bs} (h : Whole a) (g : Whole b) : Whole (a ++ b) := by
  obtain ⟨la, rfl, ha⟩ := h
  obtain ⟨lb, rfl, hb⟩ := g
  refine ⟨la ++ lb, (joinL_append la lb).symm, fun x hx => ?_⟩
  rcases List.mem_append.1 hx with h1 | h1
  · exact ha x h1
  · exact hb x h1
theorem Whole.line {l : Bs} (h : (10 : UInt8) ∉ l) : Whole (l ++ [10]) := ⟨[l], by rw [joinL_cons]; rfl, fun x hx => by simp at hx; subst hx; exact h⟩
theorem lines_long {l : Bs} (h : 500 < l.length) : linesF l = sLong := by unfold linesF; rw [if_pos h]
theorem lines_end {l : Bs} (h : l.length ≤ 500) : ∃ (o : Bs) (d : UInt8), linesF l = o ++ [d, 10] ∧ 48 ≤ d.toNat ∧ d.toNat ≤ 52 := by
  have hok := run_ok (cutC 10 l).dropLast
  obtain ⟨d, hd, h1, h2⟩ := count_one hok
  refine ⟨(runF (cutC 10 l).dropLast).2, d, ?_, h1, h2⟩
  unfold linesF
  rw [if_neg (by omega), hd]
  simp
def tWhat : Bs := [119, 104, 97, 116, 10]
def tAll : Bs := [119, 97, 121, 115, 32, 49, 10, 115, 101, 110, 100, 32, 50, 32, 57, 10, 102, 114, 101, 101, 10, 119, 104, 97, 116, 10]
theorem tWhat_is : tWhat = joinL [lnWhat] := by decide +kernel
theorem tAll_is : tAll = joinL [lnWays1, lnSend29, sFree, lnWhat] := by decide +kernel
theorem lines_quiet {l : Bs} (h : Whole l) (hl : l.length ≤ 460) : ∃ (o X : Bs) (d : UInt8), 11 ≤ X.length ∧ linesF l = o ++ [d, 10] ∧ linesF (l ++ tWhat) = o ++ sWhat ++ [d, 10] ∧ linesF (l ++ tAll) = o ++ X ++ sWhat ++ [d, 10] := by
  obtain ⟨ls, rfl, hn⟩ := h
  rw [tWhat_is, tAll_is, ← joinL_append, ← joinL_append]
  exact quiet hn hl
def tSells : Bs := [115, 101, 108, 108, 115, 32, 49, 32, 50, 10]
def tParts : Bs := [112, 97, 114, 116, 115, 32, 50, 32, 49, 10]
def tEnd : Bs := [112, 101, 101, 114, 115, 32, 49, 32, 50, 10, 119, 97, 121, 115, 32, 49, 10, 119, 97, 121, 115, 32, 50, 10, 102, 114, 101, 101, 10]
def lnWays2 : Bs := [119, 97, 121, 115, 32, 50]
theorem tSells_is : tSells = joinL [lnSells12] := by decide +kernel
theorem tParts_is : tParts = joinL [lnParts21] := by decide +kernel
theorem tEnd_is : tEnd = joinL (lnPeers12 :: [lnWays1, lnWays2, sFree]) := by decide +kernel
theorem join_in {ls ms : List Bs} (h : ∀ x, x ∈ ls → (10 : UInt8) ∉ x) (g : ∀ x, x ∈ ms → (10 : UInt8) ∉ x) : ∀ x, x ∈ ls ++ ms → (10 : UInt8) ∉ x := fun x hx => by
  rcases List.mem_append.1 hx with h1 | h1
  · exact h x h1
  · exact g x h1
theorem lines_last {l : Bs} (h : Whole l) (hl : l.length ≤ 440) : linesF (l ++ tSells ++ tEnd) = linesF (l ++ tEnd) ∧ linesF (l ++ tParts ++ tEnd) = linesF (l ++ tEnd) := by
  obtain ⟨ls, rfl, hn⟩ := h
  obtain ⟨h1, h2⟩ := last_sells (ls := ls) [lnWays1, lnWays2, sFree]
  have hlen : ∀ ms : List Bs, (joinL ms).length ≤ 60 → (joinL (ls ++ ms)).length ≤ 500 := fun ms hm => by
    rw [joinL_append, List.length_append]; omega
  have e1 : joinL ls ++ tSells ++ tEnd = joinL (ls ++ lnSells12 :: lnPeers12 :: [lnWays1, lnWays2, sFree]) := by
    rw [tSells_is, tEnd_is, ← joinL_append, ← joinL_append, List.append_assoc]; rfl
  have e2 : joinL ls ++ tParts ++ tEnd = joinL (ls ++ lnParts21 :: lnPeers12 :: [lnWays1, lnWays2, sFree]) := by
    rw [tParts_is, tEnd_is, ← joinL_append, ← joinL_append, List.append_assoc]; rfl
  have e3 : joinL ls ++ tEnd = joinL (ls ++ lnPeers12 :: [lnWays1, lnWays2, sFree]) := by
    rw [tEnd_is, ← joinL_append]
  rw [e1, e2, e3, linesF_join (join_in hn (by decide)) (hlen _ (by decide)), linesF_join (join_in hn (by decide)) (hlen _ (by decide)), linesF_join (join_in hn (by decide)) (hlen _ (by decide)), h1, h2]
  exact ⟨rfl, rfl⟩
def tA : Bs := [104, 111, 109, 101, 32, 49, 54, 47, 53, 32, 49, 10]
def tB : Bs := [104, 111, 109, 101, 32, 51, 50, 47, 53, 32, 50, 10]
def tE : Bs := [115, 101, 110, 100, 32, 49, 32, 49, 55, 10, 115, 101, 110, 100, 32, 49, 32, 51, 51, 10]
def lnSend17 : Bs := [115, 101, 110, 100, 32, 49, 32, 49, 55]
def lnSend33 : Bs := [115, 101, 110, 100, 32, 49, 32, 51, 51]
theorem tA_is : tA = joinL [lnA] := by decide +kernel
theorem tB_is : tB = joinL [lnB] := by decide +kernel
theorem tE_is : tE = joinL [lnSend17, lnSend33] := by decide +kernel
theorem lines_order {l : Bs} (h : Whole l) (hl : l.length ≤ 440) (he : (linesF (l ++ tA ++ tB)).length = (linesF l).length) : linesF (l ++ tA ++ tB ++ tE) = linesF (l ++ tB ++ tA ++ tE) := by
  obtain ⟨ls, rfl, hn⟩ := h
  have hlen : ∀ ms : List Bs, (joinL ms).length ≤ 60 → (joinL (ls ++ ms)).length ≤ 500 := fun ms hm => by
    rw [joinL_append, List.length_append]; omega
  have e0 : joinL ls ++ tA ++ tB = joinL (ls ++ [lnA, lnB]) := by
    rw [tA_is, tB_is, ← joinL_append, ← joinL_append, List.append_assoc]; rfl
  have e1 : joinL ls ++ tA ++ tB ++ tE = joinL (ls ++ lnA :: lnB :: [lnSend17, lnSend33]) := by
    rw [tA_is, tB_is, tE_is, ← joinL_append, ← joinL_append, ← joinL_append, List.append_assoc, List.append_assoc]; rfl
  have e2 : joinL ls ++ tB ++ tA ++ tE = joinL (ls ++ lnB :: lnA :: [lnSend17, lnSend33]) := by
    rw [tA_is, tB_is, tE_is, ← joinL_append, ← joinL_append, ← joinL_append, List.append_assoc, List.append_assoc]; rfl
  rw [e0, linesF_join (join_in hn (by decide)) (hlen _ (by decide)), linesF_join hn (by omega)] at he
  obtain ⟨d1, hd1, _⟩ := count_one (run_ok (ls ++ [lnA, lnB]))
  obtain ⟨d2, hd2, _⟩ := count_one (run_ok ls)
  rw [hd1, hd2] at he
  have := any_order (ls := ls) [lnSend17, lnSend33] (by simp only [List.length_append] at he; simpa using he)
  rw [e1, e2, linesF_join (join_in hn (by decide)) (hlen _ (by decide)), linesF_join (join_in hn (by decide)) (hlen _ (by decide)), this]
end Go.Proofs.YtnecdeaikmhanaaGreatDoor
namespace Go.Proofs.YtnecdeaikmhanaaGreatDoor
open Go.RowKit
set_option linter.unusedVariables false
set_option maxRecDepth 100000
def OfPost (k : Nat) (a : Option Addr) (len' cap : Nat) (zs : List Int) (p : Nat) (ss : List Bs) (w : World) (e : Ending) (w' : World) : Prop :=
  ∃ i, i < ss.length ∧ e = .returned (stV (ss.getD i [])) ∧ RdAt w' k a len' cap zs (p + 1) ∧ Only k w w' ∧ w'.heap.size = w.heap.size
set_option maxHeartbeats 2000000 in
theorem lineOf_any (k : Nat) (a : Option Addr) (len' cap : Nat) (zs : List Int) (p : Nat) (g N : Nat) (ss : List Bs) (w : World) (hp : p ≤ 90000) (hN : ss.length = N) (h1 : 1 ≤ N) (h9 : N ≤ 9) (hg : g < w.heap.size) (hgk : g ≠ k)
    (hc : ∀ i, i < N → w.cell? ⟨g, i, none⟩ = some (stV (ss.getD i []))) (hR : RdAt w k a len' cap zs p) :
    Calls Tryz.prog 27 #[.pointer (some ⟨k, 0, none⟩), .slice (some ⟨g, 0, none⟩) N N] w (OfPost k a len' cap zs p ss w) := by
  have R := Lib.hid hR
  have HC := Lib.hid hc
  have HN := Lib.hid hN
  have hA := Only.refl k w
  clear hR hc hN
  go_enter Tryz.func27, Tryz.ntmps27
  go_wp2_with fail
  refine (pick_any (N : Int) k a len' cap zs _ _ (by omega) R.out (by omega)).mono ?_
  rintro e w1 ⟨x, rfl, x0, x1, hr, hO, hs⟩
  obtain ⟨i, rfl⟩ : ∃ i : Nat, x = (i : Int) := ⟨x.toNat, by omega⟩
  have hi : i < N := by omega
  have hci : w1.cell? ⟨g, i, none⟩ = some (stV (ss.getD i [])) := (hO.cell (p := ⟨g, i, none⟩) hg hgk).trans (HC.out i hi)
  obtain ⟨t, ht⟩ : ∃ t, ss.getD i [] = t := ⟨_, rfl⟩
  rw [ht] at hci
  have HR := Lib.hid hr
  have HO := Lib.hid hO
  have HT := Lib.hid ht
  have HS := Lib.hid hs
  clear hr hO ht hs
  go_wp2_with fail
  go_ret
  exact ⟨i, by rw [HN.out]; exact hi, by rw [HT.out]; rfl, HR.out, HO.out, HS.out⟩
theorem dec_nl (n : Nat) (h : n < 10) : (decF n).length = 1 ∧ (10 : UInt8) ∉ decF n := by
  have : n = 0 ∨ n = 1 ∨ n = 2 ∨ n = 3 ∨ n = 4 ∨ n = 5 ∨ n = 6 ∨ n = 7 ∨ n = 8 ∨ n = 9 := by omega
  rcases this with rfl | rfl | rfl | rfl | rfl | rfl | rfl | rfl | rfl | rfl <;> exact ⟨by decide, by decide +kernel⟩
def Ln (n : Nat) (l : Bs) : Prop := l.length ≤ n ∧ (10 : UInt8) ∉ l
theorem Ln.app {n m : Nat} {a b : Bs} (h : Ln n a) (g : Ln m b) : Ln (n + m) (a ++ b) := ⟨by rw [List.length_append]; have := h.1; have := g.1; omega, fun hm => by
  rcases List.mem_append.1 hm with x | x
  · exact h.2 x
  · exact g.2 x⟩
theorem Ln.up {n m : Nat} {a : Bs} (h : Ln n a) (hm : n ≤ m) : Ln m a := ⟨Nat.le_trans h.1 hm, h.2⟩
theorem Ln.get {n : Nat} {ss : List Bs} (h : ∀ s, s ∈ ss → Ln n s) {i : Nat} (hi : i < ss.length) : Ln n (ss.getD i []) := by
  rw [List.getD_eq_getElem?_getD, List.getElem?_eq_getElem hi]
  exact h _ (List.getElem_mem hi)
instance (n : Nat) (l : Bs) : Decidable (Ln n l) := by unfold Ln; infer_instance
def LinePost (k : Nat) (a : Option Addr) (len' cap : Nat) (zs : List Int) (p : Nat) (w : World) (e : Ending) (w' : World) : Prop :=
  ∃ (l : Bs) (q : Nat), e = .returned (stV l) ∧ Ln 20 l ∧ q ≤ p + 4 ∧ RdAt w' k a len' cap zs q ∧ Only k w w'
theorem line_post {k : Nat} {a : Option Addr} {len' cap : Nat} {zs : List Int} {p q : Nat} {w w' : World} {T : ByteArray} {l : Bs} (h : T = ⟨l.toArray⟩) (hl : Ln 20 l) (hq : q ≤ p + 4) (hR : RdAt w' k a len' cap zs q) (hO : Only k w w') : LinePost k a len' cap zs p w (.returned (.string T)) w' := by subst h; exact ⟨l, q, rfl, hl, hq, hR, hO⟩
def of0 : List Bs := [[48, 47, 49], [49, 50, 56, 47, 49], [54, 52, 47, 50], [48, 47, 48]]
theorem of0_ln : ∀ s, s ∈ of0 → Ln 11 s := by decide
theorem of0_cells (W : World) (T : TypeId) : ∀ i, i < 4 → (W.alloc (.cells #[.string ⟨#[48, 47, 49]⟩, .string ⟨#[49, 50, 56, 47, 49]⟩, .string ⟨#[54, 52, 47, 50]⟩, .string ⟨#[48, 47, 48]⟩] T)).cell? ⟨W.heap.size, i, none⟩ = some (stV (of0.getD i [])) := by
  intro i hi
  have : i = 0 ∨ i = 1 ∨ i = 2 ∨ i = 3 := by omega
  rcases this with rfl | rfl | rfl | rfl <;> simp [World.cell?_alloc_at, of0]
def of1 : List Bs := [[51], [55, 48], [50, 48, 48], [50, 53, 53]]
theorem of1_ln : ∀ s, s ∈ of1 → Ln 11 s := by decide
theorem of1_cells (W : World) (T : TypeId) : ∀ i, i < 4 → (W.alloc (.cells #[.string ⟨#[51]⟩, .string ⟨#[55, 48]⟩, .string ⟨#[50, 48, 48]⟩, .string ⟨#[50, 53, 53]⟩] T)).cell? ⟨W.heap.size, i, none⟩ = some (stV (of1.getD i [])) := by
  intro i hi
  have : i = 0 ∨ i = 1 ∨ i = 2 ∨ i = 3 := by omega
  rcases this with rfl | rfl | rfl | rfl <;> simp [World.cell?_alloc_at, of1]
def of2 : List Bs := [[119, 104, 97, 116], [], [115, 101, 108, 108, 115, 32, 49, 32, 49], [104, 111, 109, 101, 32, 49, 47, 49, 32, 50], [119, 97, 121, 115, 32, 53], [115, 101, 110, 100, 32, 49]]
theorem of2_ln : ∀ s, s ∈ of2 → Ln 11 s := by decide
theorem of2_cells (W : World) (T : TypeId) : ∀ i, i < 6 → (W.alloc (.cells #[.string ⟨#[119, 104, 97, 116]⟩, .string ⟨#[]⟩, .string ⟨#[115, 101, 108, 108, 115, 32, 49, 32, 49]⟩, .string ⟨#[104, 111, 109, 101, 32, 49, 47, 49, 32, 50]⟩, .string ⟨#[119, 97, 121, 115, 32, 53]⟩, .string ⟨#[115, 101, 110, 100, 32, 49]⟩] T)).cell? ⟨W.heap.size, i, none⟩ = some (stV (of2.getD i [])) := by
  intro i hi
  have : i = 0 ∨ i = 1 ∨ i = 2 ∨ i = 3 ∨ i = 4 ∨ i = 5 := by omega
  rcases this with rfl | rfl | rfl | rfl | rfl | rfl <;> simp [World.cell?_alloc_at, of2]
set_option maxHeartbeats 16000000 in
theorem l92Line_any (k : Nat) (a : Option Addr) (len' cap : Nat) (zs : List Int) (p : Nat) (w : World) (hp : p ≤ 80000) (hkw : k < w.heap.size) (hR : RdAt w k a len' cap zs p) :
    Calls Tryz.prog 17 #[.pointer (some ⟨k, 0, none⟩)] w (LinePost k a len' cap zs p w) := by
  have R := Lib.hid hR
  have hA := Only.refl k w
  clear hR
  go_enter Tryz.func17, Tryz.ntmps17
  go_wp2_with fail
  refine (pick_any 4 k a len' cap zs _ _ (by omega) (by first | exact R.out | exact (R.out).drew | exact (R.out).alloc _ | exact ((R.out).alloc _).drew | exact (R.out).drewN _) (by omega)).mono ?_
  rintro e w1 ⟨xa, rfl, xa0, xa1, hr, hO, hs⟩
  (try simp at hs)
  have R := Lib.hid hr
  have hA : Only k w w1 := (by refine Only.trans ?_ hO; repeat (first | exact Only.refl _ _ | assumption | refine Only.drew ?_ | refine Only.drewN ?_ _ | refine Only.alloc ?_ _))
  obtain ⟨hc1, hf1⟩ := hO.cells
  clear hr
  have zk1 : k < w1.heap.size := by omega
  obtain ⟨A, hAA⟩ : ∃ A : Nat, 1 + xa = (A : Int) := ⟨(1 + xa).toNat, by omega⟩
  have hA9 : A < 10 := by omega
  have hda : ∀ W, Calls Tryz.prog 26 #[.int .i64 (1 + xa)] W (DecPost (decF A) W) := fun W => by rw [hAA]; exact dec_any A (by omega) W
  obtain ⟨la1, la2⟩ := dec_nl A hA9
  obtain ⟨sa, hsa⟩ : ∃ sa, decF A = sa := ⟨_, rfl⟩
  rw [hsa] at hda la1 la2
  have LA := Lib.hid (show Ln 1 sa from ⟨by omega, la2⟩)
  unfold DecPost stV at hda
  have HDA := Lib.hid hda
  clear hda hsa la2 hAA hO hs
  go_wp2_with fail
  refine (HDA.out _).mono ?_
  rintro e w2 ⟨rfl, hb2⟩
  have R2 := Lib.hid (R.out.below hb2)
  have hA2 : Only k w w2 := hA.trans (Only.of_below hb2)
  have z2 := hb2.size
  clear R hA hb2 hc1 hf1
  have R := R2
  have hA := hA2
  clear R2 hA2
  have zk2 : k < w2.heap.size := by omega
  clear zk1
  go_wp2_with fail
  refine (pick_any 4 k a len' cap zs _ _ (by omega) (by first | exact R.out | exact (R.out).drew | exact (R.out).alloc _ | exact ((R.out).alloc _).drew | exact (R.out).drewN _) (by omega)).mono ?_
  rintro e w3 ⟨xb, rfl, xb0, xb1, hr, hO, hs⟩
  (try simp at hs)
  have R := Lib.hid hr
  have hA : Only k w w3 := (by refine Only.trans ?_ hO; repeat (first | exact Only.refl _ _ | assumption | refine Only.drew ?_ | refine Only.drewN ?_ _ | refine Only.alloc ?_ _))
  obtain ⟨hc1, hf1⟩ := hO.cells
  clear hr
  have zk3 : k < w3.heap.size := by omega
  obtain ⟨B, hBB⟩ : ∃ B : Nat, 1 + xb = (B : Int) := ⟨(1 + xb).toNat, by omega⟩
  have hB9 : B < 10 := by omega
  have hdb : ∀ W, Calls Tryz.prog 26 #[.int .i64 (1 + xb)] W (DecPost (decF B) W) := fun W => by rw [hBB]; exact dec_any B (by omega) W
  obtain ⟨lb1, lb2⟩ := dec_nl B hB9
  obtain ⟨sb, hsb⟩ : ∃ sb, decF B = sb := ⟨_, rfl⟩
  rw [hsb] at hdb lb1 lb2
  have LB := Lib.hid (show Ln 1 sb from ⟨by omega, lb2⟩)
  unfold DecPost stV at hdb
  have HDB := Lib.hid hdb
  clear hdb hsb lb2 hBB hO hs
  go_wp2_with fail
  refine (HDB.out _).mono ?_
  rintro e w4 ⟨rfl, hb4⟩
  have R2 := Lib.hid (R.out.below hb4)
  have hA2 : Only k w w4 := hA.trans (Only.of_below hb4)
  have z4 := hb4.size
  clear R hA hb4 hc1 hf1
  have R := R2
  have hA := hA2
  clear R2 hA2
  have zk4 : k < w4.heap.size := by omega
  clear zk3
  go_wp2_with fail
  refine (pick_any 11 k a len' cap zs _ _ (by omega) (by first | exact R.out | exact (R.out).drew | exact (R.out).alloc _ | exact ((R.out).alloc _).drew | exact (R.out).drewN _) (by omega)).mono ?_
  rintro e w5 ⟨xs, rfl, xs0, xs1, hr, hO, hs⟩
  (try simp at hs)
  have R := Lib.hid hr
  have hA : Only k w w5 := (by refine Only.trans ?_ hO; repeat (first | exact Only.refl _ _ | assumption | refine Only.drew ?_ | refine Only.drewN ?_ _ | refine Only.alloc ?_ _))
  obtain ⟨hc1, hf1⟩ := hO.cells
  clear hr
  have hk5 : k < w5.heap.size := by omega
  clear hc1 hf1 hO HDA HDB z2 z4
  clear hs
  have hcase : xs = 0 ∨ xs = 1 ∨ xs = 2 ∨ xs = 3 ∨ xs = 4 ∨ xs = 5 ∨ xs = 6 ∨ xs = 7 ∨ xs = 8 ∨ xs = 9 ∨ xs = 10 := by omega

  rcases hcase with rfl | rfl | rfl | rfl | rfl | rfl | rfl | rfl | rfl | rfl | rfl
  · clear xs0 xs1
    have e1 := add_is [115, 101, 108, 108, 115, 32] sa (by simp; omega)
    rw [show (⟨([115, 101, 108, 108, 115, 32] : Bs).toArray⟩ : ByteArray) = ⟨#[115, 101, 108, 108, 115, 32]⟩ from rfl] at e1
    have e2 := add_is ([115, 101, 108, 108, 115, 32] ++ sa) [32] (by simp; omega)
    rw [show (⟨[(32 : UInt8)].toArray⟩ : ByteArray) = ⟨#[32]⟩ from rfl] at e2
    have e3 := add_is ([115, 101, 108, 108, 115, 32] ++ sa ++ [32]) sb (by simp; omega)
    go_wp2_with fail
    go_ret
    exact line_post (l := [115, 101, 108, 108, 115, 32] ++ sa ++ [32] ++ sb) rfl (((((show Ln 6 [115, 101, 108, 108, 115, 32] by decide).app LA.out).app (show Ln 1 [32] by decide)).app LB.out).up (by omega)) (by omega) R.out hA
  · clear xs0 xs1
    have e1 := add_is [115, 101, 108, 108, 115, 32] sa (by simp; omega)
    rw [show (⟨([115, 101, 108, 108, 115, 32] : Bs).toArray⟩ : ByteArray) = ⟨#[115, 101, 108, 108, 115, 32]⟩ from rfl] at e1
    have e2 := add_is ([115, 101, 108, 108, 115, 32] ++ sa) [32] (by simp; omega)
    rw [show (⟨[(32 : UInt8)].toArray⟩ : ByteArray) = ⟨#[32]⟩ from rfl] at e2
    have e3 := add_is ([115, 101, 108, 108, 115, 32] ++ sa ++ [32]) sb (by simp; omega)
    go_wp2_with fail
    go_ret
    exact line_post (l := [115, 101, 108, 108, 115, 32] ++ sa ++ [32] ++ sb) rfl (((((show Ln 6 [115, 101, 108, 108, 115, 32] by decide).app LA.out).app (show Ln 1 [32] by decide)).app LB.out).up (by omega)) (by omega) R.out hA
  · clear xs0 xs1
    have e1 := add_is [115, 101, 108, 108, 115, 32] sa (by simp; omega)
    rw [show (⟨([115, 101, 108, 108, 115, 32] : Bs).toArray⟩ : ByteArray) = ⟨#[115, 101, 108, 108, 115, 32]⟩ from rfl] at e1
    have e2 := add_is ([115, 101, 108, 108, 115, 32] ++ sa) [32] (by simp; omega)
    rw [show (⟨[(32 : UInt8)].toArray⟩ : ByteArray) = ⟨#[32]⟩ from rfl] at e2
    have e3 := add_is ([115, 101, 108, 108, 115, 32] ++ sa ++ [32]) sb (by simp; omega)
    go_wp2_with fail
    go_ret
    exact line_post (l := [115, 101, 108, 108, 115, 32] ++ sa ++ [32] ++ sb) rfl (((((show Ln 6 [115, 101, 108, 108, 115, 32] by decide).app LA.out).app (show Ln 1 [32] by decide)).app LB.out).up (by omega)) (by omega) R.out hA
  · clear xs0 xs1
    have e1 := add_is [112, 101, 101, 114, 115, 32] sa (by simp; omega)
    rw [show (⟨([112, 101, 101, 114, 115, 32] : Bs).toArray⟩ : ByteArray) = ⟨#[112, 101, 101, 114, 115, 32]⟩ from rfl] at e1
    have e2 := add_is ([112, 101, 101, 114, 115, 32] ++ sa) [32] (by simp; omega)
    rw [show (⟨[(32 : UInt8)].toArray⟩ : ByteArray) = ⟨#[32]⟩ from rfl] at e2
    have e3 := add_is ([112, 101, 101, 114, 115, 32] ++ sa ++ [32]) sb (by simp; omega)
    go_wp2_with fail
    go_ret
    exact line_post (l := [112, 101, 101, 114, 115, 32] ++ sa ++ [32] ++ sb) rfl (((((show Ln 6 [112, 101, 101, 114, 115, 32] by decide).app LA.out).app (show Ln 1 [32] by decide)).app LB.out).up (by omega)) (by omega) R.out hA
  · clear xs0 xs1
    have e1 := add_is [112, 97, 114, 116, 115, 32] sa (by simp; omega)
    rw [show (⟨([112, 97, 114, 116, 115, 32] : Bs).toArray⟩ : ByteArray) = ⟨#[112, 97, 114, 116, 115, 32]⟩ from rfl] at e1
    have e2 := add_is ([112, 97, 114, 116, 115, 32] ++ sa) [32] (by simp; omega)
    rw [show (⟨[(32 : UInt8)].toArray⟩ : ByteArray) = ⟨#[32]⟩ from rfl] at e2
    have e3 := add_is ([112, 97, 114, 116, 115, 32] ++ sa ++ [32]) sb (by simp; omega)
    go_wp2_with fail
    go_ret
    exact line_post (l := [112, 97, 114, 116, 115, 32] ++ sa ++ [32] ++ sb) rfl (((((show Ln 6 [112, 97, 114, 116, 115, 32] by decide).app LA.out).app (show Ln 1 [32] by decide)).app LB.out).up (by omega)) (by omega) R.out hA
  · clear xs0 xs1
    go_wp2_with fail
    refine (lineOf_any k a len' cap zs _ w5.heap.size 4 of0 _ (by omega) rfl (by omega) (by omega) (by simp) (by omega) (of0_cells w5 _) (R.out.alloc _)).mono ?_
    rintro e w6 ⟨i, hi, rfl, hr, hO, hs⟩
    have hL := Ln.get of0_ln hi
    obtain ⟨t, ht⟩ : ∃ t, of0.getD i [] = t := ⟨_, rfl⟩
    rw [ht] at hL ⊢
    have R6 := Lib.hid hr
    have LT := Lib.hid hL
    have tl := hL.1
    have hA6 : Only k w w6 := (hA.alloc _).trans hO
    clear hr hO ht hL hi
    have e1 := add_is [104, 111, 109, 101, 32] t (by simp; omega)
    rw [show (⟨([104, 111, 109, 101, 32] : Bs).toArray⟩ : ByteArray) = ⟨#[104, 111, 109, 101, 32]⟩ from rfl] at e1
    have e2 := add_is ([104, 111, 109, 101, 32] ++ t) [32] (by simp; omega)
    rw [show (⟨[(32 : UInt8)].toArray⟩ : ByteArray) = ⟨#[32]⟩ from rfl] at e2
    have e3 := add_is ([104, 111, 109, 101, 32] ++ t ++ [32]) sa (by simp; omega)
    go_wp2_with fail
    go_ret
    exact line_post (l := [104, 111, 109, 101, 32] ++ t ++ [32] ++ sa) rfl (((((show Ln 5 [104, 111, 109, 101, 32] by decide).app LT.out).app (show Ln 1 [32] by decide)).app LA.out).up (by omega)) (by omega) R6.out hA6
  · clear xs0 xs1
    go_wp2_with fail
    refine (lineOf_any k a len' cap zs _ w5.heap.size 4 of0 _ (by omega) rfl (by omega) (by omega) (by simp) (by omega) (of0_cells w5 _) (R.out.alloc _)).mono ?_
    rintro e w6 ⟨i, hi, rfl, hr, hO, hs⟩
    have hL := Ln.get of0_ln hi
    obtain ⟨t, ht⟩ : ∃ t, of0.getD i [] = t := ⟨_, rfl⟩
    rw [ht] at hL ⊢
    have R6 := Lib.hid hr
    have LT := Lib.hid hL
    have tl := hL.1
    have hA6 : Only k w w6 := (hA.alloc _).trans hO
    clear hr hO ht hL hi
    have e1 := add_is [104, 111, 109, 101, 32] t (by simp; omega)
    rw [show (⟨([104, 111, 109, 101, 32] : Bs).toArray⟩ : ByteArray) = ⟨#[104, 111, 109, 101, 32]⟩ from rfl] at e1
    have e2 := add_is ([104, 111, 109, 101, 32] ++ t) [32] (by simp; omega)
    rw [show (⟨[(32 : UInt8)].toArray⟩ : ByteArray) = ⟨#[32]⟩ from rfl] at e2
    have e3 := add_is ([104, 111, 109, 101, 32] ++ t ++ [32]) sa (by simp; omega)
    go_wp2_with fail
    go_ret
    exact line_post (l := [104, 111, 109, 101, 32] ++ t ++ [32] ++ sa) rfl (((((show Ln 5 [104, 111, 109, 101, 32] by decide).app LT.out).app (show Ln 1 [32] by decide)).app LA.out).up (by omega)) (by omega) R6.out hA6
  · clear xs0 xs1
    have e1 := add_is [119, 97, 121, 115, 32] sa (by simp; omega)
    rw [show (⟨([119, 97, 121, 115, 32] : Bs).toArray⟩ : ByteArray) = ⟨#[119, 97, 121, 115, 32]⟩ from rfl] at e1
    go_wp2_with fail
    go_ret
    exact line_post (l := [119, 97, 121, 115, 32] ++ sa) rfl (((show Ln 5 [119, 97, 121, 115, 32] by decide).app LA.out).up (by omega)) (by omega) R.out hA
  · clear xs0 xs1
    have e1 := add_is [115, 101, 110, 100, 32] sa (by simp; omega)
    rw [show (⟨([115, 101, 110, 100, 32] : Bs).toArray⟩ : ByteArray) = ⟨#[115, 101, 110, 100, 32]⟩ from rfl] at e1
    have e2 := add_is ([115, 101, 110, 100, 32] ++ sa) [32] (by simp; omega)
    rw [show (⟨[(32 : UInt8)].toArray⟩ : ByteArray) = ⟨#[32]⟩ from rfl] at e2
    go_wp2_with fail
    refine (lineOf_any k a len' cap zs _ w5.heap.size 4 of1 _ (by omega) rfl (by omega) (by omega) (by simp) (by omega) (of1_cells w5 _) (R.out.alloc _)).mono ?_
    rintro e w6 ⟨i, hi, rfl, hr, hO, hs⟩
    have hL := Ln.get of1_ln hi
    obtain ⟨t, ht⟩ : ∃ t, of1.getD i [] = t := ⟨_, rfl⟩
    rw [ht] at hL ⊢
    have R6 := Lib.hid hr
    have LT := Lib.hid hL
    have tl := hL.1
    have hA6 : Only k w w6 := (hA.alloc _).trans hO
    clear hr hO ht hL hi
    have e3 := add_is ([115, 101, 110, 100, 32] ++ sa ++ [32]) t (by simp; omega)
    go_wp2_with fail
    go_ret
    exact line_post (l := [115, 101, 110, 100, 32] ++ sa ++ [32] ++ t) rfl (((((show Ln 5 [115, 101, 110, 100, 32] by decide).app LA.out).app (show Ln 1 [32] by decide)).app LT.out).up (by omega)) (by omega) R6.out hA6
  · clear xs0 xs1
    go_wp2_with fail
    go_ret
    exact line_post (l := [102, 114, 101, 101]) rfl (by decide) (by omega) R.out hA
  · clear xs0 xs1
    go_wp2_with fail
    refine (lineOf_any k a len' cap zs _ w5.heap.size 6 of2 _ (by omega) rfl (by omega) (by omega) (by simp) (by omega) (of2_cells w5 _) (R.out.alloc _)).mono ?_
    rintro e w6 ⟨i, hi, rfl, hr, hO, hs⟩
    have hL := Ln.get of2_ln hi
    obtain ⟨t, ht⟩ : ∃ t, of2.getD i [] = t := ⟨_, rfl⟩
    rw [ht] at hL ⊢
    have R6 := Lib.hid hr
    have LT := Lib.hid hL
    have tl := hL.1
    have hA6 : Only k w w6 := (hA.alloc _).trans hO
    clear hr hO ht hL hi
    go_wp2_with fail
    go_ret
    exact line_post (l := t) rfl (LT.out.up (by omega)) (by omega) R6.out hA6
def freeL (n : Nat) : Bs := joinL (List.replicate n sFree)
theorem freeL_len (n : Nat) : (freeL n).length = 5 * n := by
  unfold freeL
  induction n with
  | zero => rfl
  | succ n ih => rw [List.replicate_succ, joinL_cons, List.length_append, List.length_cons, ih]; simp [sFree]; omega
theorem freeL_add (n m : Nat) : freeL n ++ freeL m = freeL (n + m) := by
  unfold freeL
  rw [← joinL_append, List.replicate_append_replicate]
theorem freeL_whole (n : Nat) : Whole (freeL n) := ⟨_, rfl, fun x hx => by rw [(List.mem_replicate.1 hx).2]; decide⟩
theorem freeL_one : freeL 1 = [102, 114, 101, 101, 10] := by decide
set_option maxHeartbeats 4000000 in
theorem lineMany_any (w : World) : Calls Tryz.prog 18 #[.string ⟨#[102, 114, 101, 101, 10]⟩, .int .i64 105] w fun e w' => e = .returned (stV (freeL 105)) ∧ w = w' := by
  go_enter Tryz.func18, Tryz.ntmps18
  go_wp2_with fail
  go_loopg [0, 1, 5] 105 (fun gk s0 s1 s5 wr => ∃ a b n : Nat, s0 = stV (freeL b) ∧ s1 = .int .i64 (n : Int) ∧ s5 = stV (freeL a) ∧ n = gk ∧ a + b * n = 105 ∧ b ≤ 210 ∧ 1 ≤ b ∧ w = wr)
  case atStart => exact ⟨0, 1, 105, by rw [freeL_one], rfl, rfl, rfl, rfl, by omega, by omega, rfl⟩
  case round =>
    obtain ⟨a, b, n, rfl, rfl, rfl, rfl, hab, hb, hb1, rfl⟩ := hrel
    by_cases hn : n = 0
    · subst hn
      have ha : a = 105 := by omega
      subst ha
      go_wp2_with fail
      go_ret
      exact ⟨rfl, rfl⟩
    · have hpos : (0 : Int) < (n : Int) := by omega
      have hbn : b ≤ b * n := Nat.le_mul_of_pos_right b (by omega)
      have hb2 : b ≤ 105 := by omega
      have ea := add_is (freeL a) (freeL b) (by rw [freeL_len, freeL_len]; omega)
      have eb := add_is (freeL b) (freeL b) (by rw [freeL_len]; omega)
      rw [freeL_add] at ea eb
      obtain ⟨M, hM⟩ : ∃ M : Nat, n / 2 = M := ⟨_, rfl⟩
      have hq : (n : Int).tdiv 2 = (M : Int) := by rw [Int.tdiv_eq_ediv_of_nonneg (by omega)]; omega
      have ew : IntKind.i64.wrap (M : Int) = (M : Int) := IntWalk.i64_in _ (by have : n ≤ 105 := Nat.le_trans (Nat.le_mul_of_pos_left n (by omega)) (show b * n ≤ 105 by omega); omega)
      have hn105 : n ≤ 105 := Nat.le_trans (Nat.le_mul_of_pos_left n (by omega)) (show b * n ≤ 105 by omega)
      unfold stV at *
      by_cases hodd : n % 2 = 1
      · have hr : (n : Int).tmod 2 = 1 := by rw [Int.tmod_eq_emod_of_nonneg (by omega)]; omega
        have e1 : IntKind.i64.wrap 1 = 1 := rfl
        go_wp2_with fail
        go_roundg M
        case measure => omega
        case rel =>
          have e2 : n = 2 * M + 1 := by omega
          rw [e2, Nat.mul_add, Nat.mul_one, ← Nat.mul_assoc, Nat.mul_comm b 2] at hab
          have e3 : (b + b) * M = 2 * b * M := by rw [← Nat.two_mul]
          exact ⟨a + b, b + b, M, rfl, by go_num, rfl, rfl, by omega, by omega, by omega, rfl⟩
      · have hr : (n : Int).tmod 2 = 0 := by rw [Int.tmod_eq_emod_of_nonneg (by omega)]; omega
        have e1 : IntKind.i64.wrap 0 = 0 := rfl
        go_wp2_with fail
        go_roundg M
        case measure => omega
        case rel =>
          have e2 : n = 2 * M := by omega
          rw [e2, ← Nat.mul_assoc, Nat.mul_comm b 2] at hab
          have e3 : (b + b) * M = 2 * b * M := by rw [← Nat.two_mul]
          exact ⟨a, b + b, M, rfl, by go_num, rfl, rfl, by omega, by omega, by omega, rfl⟩
def DrawnText (w : World) (e : Ending) (w' : World) : Prop := ∃ l : Bs, e = .returned (stV l) ∧ Whole l ∧ l.length ≤ 900 ∧ Below w.heap.size w w'
set_option maxHeartbeats 8000000 in
theorem drawLinesRun_any (a : Option Addr) (len cap : Nat) (zs : List Int) (w : World) (h : IsRow .u8 w a len cap zs) :
    Calls Tryz.prog 12 #[.slice a len cap] w (DrawnText w) := by
  obtain ⟨hm, hc⟩ := h.bounds
  have H := Lib.hid h
  clear h
  go_enter Tryz.func12, Tryz.ntmps12
  go_wp2_with fail
  refine (l6Open_any _ _ _ zs _ H.out hm hc).mono ?_
  rintro e w1 ⟨len', rfl, hw1, hr⟩
  have hO0 : Only w.heap.size w w1 := by rw [hw1]; exact (Only.refl _ _).alloc _
  have hs1 : w.heap.size < w1.heap.size := by rw [hw1]; simp
  obtain ⟨k, hk⟩ : ∃ k, w.heap.size = k := ⟨_, rfl⟩
  unfold DrawnText
  rw [hk] at hr hO0 hs1 ⊢
  have R := Lib.hid hr
  have hA := hO0
  have HK := Lib.hid hk
  clear hr hw1 hO0 H hk
  go_wp2_with fail
  refine (pick_any 18 k a len' cap zs _ _ (by omega) (by first | exact R.out | exact (R.out).drew | exact (R.out).alloc _ | exact ((R.out).alloc _).drew | exact (R.out).drewN _) (by omega)).mono ?_
  rintro e w2 ⟨xn, rfl, xn0, xn1, hr, hO, hs⟩
  (try simp at hs)
  have R := Lib.hid hr
  have hA : Only k w w2 := (by refine Only.trans ?_ hO; repeat (first | exact Only.refl _ _ | assumption | refine Only.drew ?_ | refine Only.drewN ?_ _ | refine Only.alloc ?_ _))
  obtain ⟨hc1, hf1⟩ := hO.cells
  clear hr
  have z2 : k < w2.heap.size := by omega
  obtain ⟨n, rfl⟩ : ∃ n : Nat, xn = (n : Int) := ⟨xn.toNat, by omega⟩
  have hn17 : n ≤ 17 := by omega
  have HA := Lib.hid hA
  clear xn0 xn1 hc1 hf1 hO hA
  go_wp2_with fail
  go_loopg [4, 5] n (fun gk s4 s5 wr => ∃ (l : Bs) (q : Nat), s4 = stV l ∧ s5 = .int .i64 (gk : Int) ∧ Hid (Whole l) ∧ l.length + 21 * gk ≤ 21 * n ∧ q + 4 * gk ≤ 4 * n + 1 ∧ gk ≤ n ∧ Hid (RdAt wr k a len' cap zs q) ∧ Hid (Only k w wr) ∧ k < wr.heap.size)
  case atStart => exact ⟨[], 1, rfl, rfl, Lib.hid Whole.nil, by simp, by omega, by omega, R, HA, z2⟩
  case round =>
    clear R HA
    obtain ⟨l, q, rfl, rfl, HL, hl, hq, hgn, R, HA, zr⟩ := hrel
    by_cases hg : gk = 0
    · subst hg
      have hA := HA.out
      go_wp2_with fail
      refine (pick_any 40 k a len' cap zs _ _ (by omega) (by first | exact R.out | exact (R.out).drew | exact (R.out).alloc _ | exact ((R.out).alloc _).drew | exact (R.out).drewN _) (by omega)).mono ?_
      rintro e w3 ⟨xm, rfl, xm0, xm1, hr, hO, hs⟩
      (try simp at hs)
      have R := Lib.hid hr
      have hA : Only k w w3 := (by refine Only.trans ?_ hO; repeat (first | exact Only.refl _ _ | assumption | refine Only.drew ?_ | refine Only.drewN ?_ _ | refine Only.alloc ?_ _))
      obtain ⟨hc1, hf1⟩ := hO.cells
      clear hr
      clear hc1 hf1 hO
      have hll : l.length ≤ 357 := by omega
      have hB3 : Hid (Below w.heap.size w w3) := Lib.hid (hA.below (by rw [HK.out]; exact Nat.le_refl _) (Nat.le_refl _))
      by_cases hx : xm = 0
      · subst hx
        have hmn := lineMany_any
        have hadd := add_is l (freeL 105) (by rw [freeL_len]; omega)
        have hfl := freeL_len 105
        have hfw := freeL_whole 105
        obtain ⟨F, hF⟩ : ∃ F, freeL 105 = F := ⟨_, rfl⟩
        rw [hF] at hmn hadd hfl hfw
        unfold stV at hmn ⊢
        have HMN := Lib.hid hmn
        have HFW := Lib.hid hfw
        clear hmn hF hfw
        go_wp2_with fail
        refine (HMN.out _).mono ?_
        rintro e w4 ⟨rfl, rfl⟩
        go_wp2_with fail
        go_ret
        exact ⟨l ++ F, rfl, HL.out.app HFW.out, by rw [List.length_append]; omega, hB3.out⟩
      · have hxe : (xm == 0) = false := by simp [hx]
        go_wp2_with fail
        go_ret
        exact ⟨l, rfl, HL.out, by omega, hB3.out⟩
    · have hpos : (0 : Int) < (gk : Int) := by omega
      go_wp2_with fail
      refine (l92Line_any k a len' cap zs q _ (by omega) zr R.out).mono ?_
      rintro e w3 ⟨t, q', rfl, hLn, hq', hR', hO'⟩
      have ht := hLn.1
      have HW : Hid (Whole (l ++ t ++ [10])) := Lib.hid (by rw [List.append_assoc]; exact HL.out.app (Whole.line hLn.2))
      have R' := Lib.hid hR'
      have HA' : Hid (Only k w w3) := Lib.hid (HA.out.trans hO')
      have z3 : k < w3.heap.size := by have := hO'.size; omega
      have e1 := add_is l t (by omega)
      have e2 := add_is (l ++ t) [10] (by simp; omega)
      rw [show (⟨[(10 : UInt8)].toArray⟩ : ByteArray) = ⟨#[10]⟩ from rfl] at e2
      have hg1 : 1 ≤ gk := by omega
      clear hLn hR' hO' hg
      go_wp2_with fail
      go_roundg (gk - 1)
      case measure => omega
      case rel => exact ⟨l ++ t ++ [10], q', by rw [List.append_assoc], by go_num, HW, by simp only [List.length_append, List.length_singleton]; omega, by omega, by omega, R', HA', z3⟩
end Go.Proofs.YtnecdeaikmhanaaGreatDoor
