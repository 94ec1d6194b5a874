/- A part of the proof; packed by a program of mine out of my texts. -/
import Derived.Test.YtnecdeaikmhanaaGreatDoorPE0
import Derived.Test.YtnecdeaikmhanaaGreatDoorPE1
import Derived.Test.YtnecdeaikmhanaaGreatDoorPE2
import Derived.Test.YtnecdeaikmhanaaGreatDoorPE3
import Derived.Test.YtnecdeaikmhanaaGreatDoorPE4
import Derived.Test.YtnecdeaikmhanaaGreatDoorPE5
import Derived.Test.YtnecdeaikmhanaaGreatDoorPE6
import Derived.Test.YtnecdeaikmhanaaGreatDoorPE7
import Derived.Test.YtnecdeaikmhanaaGreatDoorPE8
import Derived.Test.YtnecdeaikmhanaaGreatDoorPE9
import Derived.Test.YtnecdeaikmhanaaGreatDoorPE10
import Derived.Test.YtnecdeaikmhanaaGreatDoorPE12
import Derived.Test.YtnecdeaikmhanaaGreatDoorPE13
import Derived.Test.YtnecdeaikmhanaaGreatDoorPE14
import Derived.Test.YtnecdeaikmhanaaGreatDoorPE15
import Derived.Test.YtnecdeaikmhanaaGreatDoorPE16
import Derived.Test.YtnecdeaikmhanaaGreatDoorPE17
import Derived.Test.YtnecdeaikmhanaaGreatDoorPE18
import Derived.Test.YtnecdeaikmhanaaGreatDoorRows
import Derived.Handed
import Derived.HandedShaped
import Derived.Shelf.Vars
import Derived.LaidMore
import Derived.Stop.LaidErr
import Derived.MakeChecks
import Derived.Lib.LaidTab
import Derived.OpenShut
import Derived.WalkKit
import Derived.ProofKit
import Derived.ChangeOld
import Derived.Lay
namespace Go.Proofs.YtnecdeaikmhanaaGreatDoor
open Go.RowKit
set_option linter.unusedVariables false
set_option maxRecDepth 100000
def relSome (s : LSt) (ws : List Bs) (r : Int) : Option LSt := if in14 (numF (wordF ws 1)) = true ∧ in14 (numF (wordF ws 2)) = true ∧ numF (wordF ws 1) ≠ numF (wordF ws 2) then some { s with rels := relF s.rels (numF (wordF ws 1)) (numF (wordF ws 2)) r } else none
def homeSome (s : LSt) (ws : List Bs) : Option LSt := match rreadF (wordF ws 1) with
  | none => none
  | some (f, b) => if homesOkF s.rels (homePut s.homes (f, b, numF (wordF ws 2))) = true then some { s with homes := homePut s.homes (f, b, numF (wordF ws 2)) } else none
def setF (s : LSt) (ws : List Bs) : Option LSt :=
  if wordF ws 0 = sSells then relSome s ws 1 else if wordF ws 0 = sPeers then relSome s ws 2 else if wordF ws 0 = sParts then relSome s ws 0 else if wordF ws 0 = sHome then homeSome s ws else none
def askF (s : LSt) (ws : List Bs) : Option Bs :=
  if wordF ws 0 = sWays then (if in14 (numF (wordF ws 1)) = true then some (waysLine s ws) else none)
  else if wordF ws 0 = sSend then (if in14 (numF (wordF ws 1)) = true ∧ addrF (numF (wordF ws 2)) = true then some (sendLine s ws) else none)
  else if wordF ws 0 = sFree then some (freeLine s) else none
def doneF (s : LSt) (ws : List Bs) : LSt × Bs := match setF s ws with
  | some s' => (s', [])
  | none => (s, (askF s ws).getD sWhat)
theorem rel_split (s : LSt) (ws : List Bs) (r : Int) : relLine s ws r = match relSome s ws r with
  | some s' => (s', [])
  | none => (s, sWhat) := by
  unfold relLine relSome
  split <;> rfl
theorem exec_split (s : LSt) (l : Bs) : execF s l = doneF s (cutC 32 l) := by
  obtain ⟨ws, hws⟩ : ∃ ws, cutC 32 l = ws := ⟨_, rfl⟩
  unfold execF doneF setF askF
  simp only
  rw [hws]
  obtain ⟨k, hk⟩ : ∃ k, wordF ws 0 = k := ⟨_, rfl⟩
  rw [hk]
  have d1 : ∀ {a b : Bs}, k = a → a ≠ b → ¬ k = b := fun h n e => n (h.symm.trans e)
  by_cases h1 : k = sSells
  · rw [if_pos h1, if_pos h1, if_neg (d1 h1 (by decide)), if_neg (d1 h1 (by decide)), if_neg (d1 h1 (by decide)), rel_split]; rfl
  rw [if_neg h1, if_neg h1]
  by_cases h2 : k = sPeers
  · rw [if_pos h2, if_pos h2, if_neg (d1 h2 (by decide)), if_neg (d1 h2 (by decide)), if_neg (d1 h2 (by decide)), rel_split]; rfl
  rw [if_neg h2, if_neg h2]
  by_cases h3 : k = sParts
  · rw [if_pos h3, if_pos h3, if_neg (d1 h3 (by decide)), if_neg (d1 h3 (by decide)), if_neg (d1 h3 (by decide)), rel_split]; rfl
  rw [if_neg h3, if_neg h3]
  by_cases h4 : k = sHome
  · rw [if_pos h4, if_pos h4, if_neg (d1 h4 (by decide)), if_neg (d1 h4 (by decide)), if_neg (d1 h4 (by decide))]
    unfold homeLine homeSome
    cases rreadF (wordF ws 1) with
    | none => rfl
    | some p =>
      obtain ⟨f, b⟩ := p
      simp only
      split <;> rfl
  rw [if_neg h4, if_neg h4]
  simp only
  by_cases h5 : k = sWays
  · rw [if_pos h5, if_pos h5]
    by_cases hc : in14 (numF (wordF ws 1)) = true
    · rw [if_pos hc]; rfl
    · rw [if_neg hc]; unfold waysLine; rw [if_neg hc]; rfl
  rw [if_neg h5, if_neg h5]
  by_cases h6 : k = sSend
  · rw [if_pos h6, if_pos h6]
    by_cases hc : in14 (numF (wordF ws 1)) = true ∧ addrF (numF (wordF ws 2)) = true
    · rw [if_pos hc]; rfl
    · rw [if_neg hc]; unfold sendLine; rw [if_neg hc]; rfl
  rw [if_neg h6, if_neg h6]
  by_cases h7 : k = sFree
  · rw [if_pos h7, if_pos h7]; rfl
  · rw [if_neg h7, if_neg h7]; rfl
def SpecAt (w : World) (k : Nat) (rv hv : Value) (s : LSt) : Prop := (∃ lo hi, MatB w lo hi rv s.rels ∧ (k < lo ∨ hi ≤ k)) ∧ EntsAt w hv s.homes
theorem SpecAt.rows {w : World} {k : Nat} {rv hv : Value} {s : LSt} (h : SpecAt w k rv hv s) : RowsAt w rv s.rels := by
  obtain ⟨⟨_, _, h, _⟩, _⟩ := h; exact h.rows
theorem SpecAt.below {w w' : World} {k : Nat} {rv hv : Value} {s : LSt} (h : SpecAt w k rv hv s) (hb : Below w.heap.size w w') : SpecAt w' k rv hv s := by
  obtain ⟨⟨lo, hi, h1, hk⟩, h2⟩ := h; exact ⟨⟨lo, hi, h1.below hb, hk⟩, h2.below hb⟩
def SetPost (k : Nat) (o : Option LSt) (w : World) (e : Ending) (w' : World) : Prop := ∃ rv hv, e = .returned (.tuple #[.agg #[rv, hv], .bool o.isSome]) ∧ (∃ a n c, rv = .slice a n c) ∧ (∃ a n c, hv = .slice a n c) ∧ (∀ s', o = some s' → SpecAt w' k rv hv s') ∧ Below w.heap.size w w'
def SetCells (w : World) (r h : Value) (W : World) : Prop := W.cell? ⟨w.heap.size, 0, none⟩ = some r ∧ W.cell? ⟨w.heap.size, 1, none⟩ = some h ∧ W.cell? ⟨w.heap.size + 1, 0, none⟩ = some (.slice none 0 0) ∧ W.cell? ⟨w.heap.size + 1, 1, none⟩ = some (.slice none 0 0) ∧
  W.frozen? ⟨w.heap.size, 0, none⟩ = false ∧ W.frozen? ⟨w.heap.size, 1, none⟩ = false ∧ W.frozen? ⟨w.heap.size + 1, 0, none⟩ = false ∧ W.frozen? ⟨w.heap.size + 1, 1, none⟩ = false ∧ Below w.heap.size w W ∧ w.heap.size + 2 ≤ W.heap.size
abbrev setW (w : World) (r h : Value) : World := (w.alloc (.cells #[r, h] 43)).alloc (.cells #[.slice none 0 0, .slice none 0 0] 43)
theorem set_cells {w W : World} {r h : Value} (hb : Below (setW w r h).heap.size (setW w r h) W) : SetCells w r h W := by
  have hs : (setW w r h).heap.size = w.heap.size + 2 := by simp [setW]
  have c : ∀ b o, b < w.heap.size + 2 → W.cell? ⟨b, o, none⟩ = (setW w r h).cell? ⟨b, o, none⟩ := fun b o hbo => hb.cell (p := ⟨b, o, none⟩) (by rw [hs]; exact hbo)
  have f : ∀ b o, b < w.heap.size + 2 → W.frozen? ⟨b, o, none⟩ = (setW w r h).frozen? ⟨b, o, none⟩ := fun b o hbo => hb.frozen (p := ⟨b, o, none⟩) (by rw [hs]; exact hbo)
  refine ⟨(c _ _ (by omega)).trans (by simp [setW]), (c _ _ (by omega)).trans (by simp [setW]), (c _ _ (by omega)).trans (by simp [setW]), (c _ _ (by omega)).trans (by simp [setW]), (f _ _ (by omega)).trans (by simp [setW]), (f _ _ (by omega)).trans (by simp [setW]), (f _ _ (by omega)).trans (by simp [setW]), (f _ _ (by omega)).trans (by simp [setW]), Below.trans ?_ (hb.mono (by rw [hs]; omega)), by have := hb.size; rw [hs] at this; exact this⟩
  unfold setW
  repeat (first | exact Below.refl _ _ | assumption | refine Below.drew ?_ | refine belowDrewN ?_ _ | refine Below.alloc ?_ (by first | exact Nat.le_refl _ | omega | (simp; done) | (simp; omega)) _ | refine Below.setCell ?_ (by first | exact Nat.le_refl _ | omega | (simp; done) | (simp; omega)) _)
theorem EntsAt.setSl {w : World} {v : Value} {l : List Ent} {p : Addr} {a : Option Addr} {n c : Nat} (h : EntsAt w v l) (hc : w.cell? p = some (.slice a n c)) (u : Value) : EntsAt (w.setCell p u) v l := by
  have ne : ∀ q k x, w.cell? q = some (.int k x) → (w.setCell p u).cell? q = some (.int k x) := fun q k x hq => by
    rw [World.cell?_setCell_other _ _ _ _ (fun e => by rw [e, hq] at hc; cases hc)]
    exact hq
  obtain ⟨a, cap, rfl, h1, h2, h3⟩ := h
  refine ⟨a, cap, rfl, h1, h2, ?_⟩
  rcases h3 with h3 | ⟨b, off, rfl, hb, hcl⟩
  · exact .inl h3
  · refine .inr ⟨b, off, rfl, by simpa [World.setCell] using hb, fun i hi => ?_⟩
    obtain ⟨e1, e2, e3⟩ := hcl i hi
    exact ⟨ne _ _ _ e1, ne _ _ _ e2, ne _ _ _ e3⟩
theorem MatB.setLow {w : World} {lo hi : Nat} {v : Value} {ll : List (List Int)} (h : MatB w lo hi v ll) {p : Addr} (hp : p.block < lo) (u : Value) : MatB (w.setCell p u) lo hi v ll :=
  h.other (fun g cu T _ _ hg _ => Below.heap_setCell _ _ _ _ (by omega))
theorem out_cells {w w5 : World} {x y : Value} {a1 a2 : Option Addr} {n1 c1 n2 c2 : Nat} (h0 : w5.cell? ⟨w.heap.size + 1, 0, none⟩ = some (.slice a1 n1 c1)) (h1 : w5.cell? ⟨w.heap.size + 1, 1, none⟩ = some (.slice a2 n2 c2)) (hb : Below w.heap.size w w5) :
    ((w5.setCell ⟨w.heap.size + 1, 0, none⟩ x).setCell ⟨w.heap.size + 1, 1, none⟩ y).cell? ⟨w.heap.size + 1, 0, none⟩ = some x ∧ ((w5.setCell ⟨w.heap.size + 1, 0, none⟩ x).setCell ⟨w.heap.size + 1, 1, none⟩ y).cell? ⟨w.heap.size + 1, 1, none⟩ = some y ∧
      (∀ v l, EntsAt w5 v l → EntsAt ((w5.setCell ⟨w.heap.size + 1, 0, none⟩ x).setCell ⟨w.heap.size + 1, 1, none⟩ y) v l) ∧ (∀ hi v ll, MatB w5 (w.heap.size + 2) hi v ll → MatB ((w5.setCell ⟨w.heap.size + 1, 0, none⟩ x).setCell ⟨w.heap.size + 1, 1, none⟩ y) (w.heap.size + 2) hi v ll) ∧
      Below w.heap.size w ((w5.setCell ⟨w.heap.size + 1, 0, none⟩ x).setCell ⟨w.heap.size + 1, 1, none⟩ y) := by
  have g1 : (w5.setCell ⟨w.heap.size + 1, 0, none⟩ x).cell? ⟨w.heap.size + 1, 1, none⟩ = some (.slice a2 n2 c2) := by
    rw [World.cell?_setCell_other _ _ _ _ (by simp)]; exact h1
  refine ⟨?_, World.cell?_setCell_same _ _ _ g1, fun v l h => (h.setSl h0 x).setSl g1 y, fun hi v ll h => (h.setLow (by show w.heap.size + 1 < _; omega) x).setLow (by show w.heap.size + 1 < _; omega) y, Below.setCell (Below.setCell hb (by show w.heap.size ≤ w.heap.size + 1; omega) _) (by show w.heap.size ≤ w.heap.size + 1; omega) _⟩
  rw [World.cell?_setCell_other _ _ _ _ (by simp)]
  exact World.cell?_setCell_same _ _ _ h0
theorem rel_fin {s : LSt} {ws : List Bs} {r a b : Int} {d : Bool} (h : relSome s ws r = if in14 a = true ∧ in14 b = true ∧ a ≠ b then some { s with rels := relF s.rels a b r } else none) (hd : d = decide (in14 a = true ∧ in14 b = true ∧ a ≠ b)) :
    d = (relSome s ws r).isSome ∧ ∀ s', relSome s ws r = some s' → s'.rels = relNew s.rels a b r ∧ s'.homes = s.homes := by
  rw [h, hd]
  unfold relNew
  by_cases hC : in14 a = true ∧ in14 b = true ∧ a ≠ b
  · rw [if_pos hC, if_pos hC, decide_eq_true hC]
    exact ⟨rfl, fun s' e => by cases e; exact ⟨rfl, rfl⟩⟩
  · rw [if_neg hC, decide_eq_false hC]
    exact ⟨rfl, fun s' e => by cases e⟩
set_option maxHeartbeats 16000000 in
theorem set_any (k : Nat) (rv hv v : Value) (s : LSt) (ws : List Bs) (w : World) (hlo : k < w.heap.size) (h : SpecAt w k rv hv s) (hS : StrsAt w v ws) (hne : ws ≠ []) (hst : StOk s) :
    Calls Tryz.prog 24 #[.agg #[rv, hv], v] w (SetPost k (setF s ws) w) := by
  have hrow := (relsOk_parts hst.len hst.rel).1
  obtain ⟨ra, rc, rfl, _, _⟩ := h.rows.form
  obtain ⟨ha, hc, rfl, _, _⟩ := h.2.form
  rw [hst.len] at h ⊢
  obtain ⟨hn, hhn⟩ : ∃ hn, s.homes.length = hn := ⟨_, rfl⟩
  rw [hhn] at h ⊢
  obtain ⟨w0, hw0⟩ : ∃ x, ws.getD 0 [] = x := ⟨_, rfl⟩
  obtain ⟨a, hna⟩ : ∃ a, numF (ws.getD 1 []) = a := ⟨_, rfl⟩
  obtain ⟨b, hnb⟩ : ∃ b, numF (ws.getD 2 []) = b := ⟨_, rfl⟩
  obtain ⟨w1, hw1⟩ : ∃ x, ws.getD 1 [] = x := ⟨_, rfl⟩
  have hA1 : ∀ W, Below w.heap.size w W → Calls Tryz.prog 40 #[v, .int .i64 1] W fun e w' => e = .returned (.int .i64 a) ∧ W = w' := fun W hb => by rw [← hna]; exact l61Num_1 v ws W (hS.below hb)
  have hA2 : ∀ W, Below w.heap.size w W → Calls Tryz.prog 40 #[v, .int .i64 2] W fun e w' => e = .returned (.int .i64 b) ∧ W = w' := fun W hb => by rw [← hnb]; exact l61Num_2 v ws W (hS.below hb)
  have hA3 : ∀ W, Below w.heap.size w W → Calls Tryz.prog 44 #[v, .int .i64 1] W fun e w' => e = .returned (stV w1) ∧ W = w' := fun W hb => by rw [← hw1]; exact l61Word_1 v ws W (hS.below hb)
  have hset : setF s ws = if w0 = sSells then relSome s ws 1 else if w0 = sPeers then relSome s ws 2 else if w0 = sParts then relSome s ws 0 else if w0 = sHome then homeSome s ws else none := by
    unfold setF; rw [show wordF ws 0 = w0 from hw0]
  have hrel : ∀ r, relSome s ws r = if in14 a = true ∧ in14 b = true ∧ a ≠ b then some { s with rels := relF s.rels a b r } else none := fun r => by
    unfold relSome; rw [show numF (wordF ws 1) = a from hna, show numF (wordF ws 2) = b from hnb]
  have hhom : homeSome s ws = match rreadF w1 with
      | none => none
      | some (f, b') => if homesOkF s.rels (homePut s.homes (f, b', b)) = true then some { s with homes := homePut s.homes (f, b', b) } else none := by
    unfold homeSome; rw [show wordF ws 1 = w1 from hw1, show numF (wordF ws 2) = b from hnb]
  obtain ⟨va, vc, rfl, _, _⟩ := hS.form
  obtain ⟨nw, hnw⟩ : ∃ nw, ws.length = nw := ⟨_, rfl⟩
  have hpw : 0 < nw := by rw [← hnw]; exact List.length_pos_iff.2 hne
  rw [hnw] at hS hA1 hA2 hA3 ⊢
  obtain ⟨wb, woff, rfl, hwb, hwc⟩ := hS.get 0 (by omega)
  rw [hw0, Nat.add_zero] at hwc
  have HA1 := Lib.hid hA1
  have HA2 := Lib.hid hA2
  have HA3 := Lib.hid hA3
  have HI1 := Lib.hid (in14_any a)
  have HI2 := Lib.hid (in14_any b)
  have HSP := Lib.hid h
  have HST := Lib.hid hst
  have HRW := Lib.hid (fun i hi => (hrow i hi).1)
  have HSE := Lib.hid hset
  have HRL := Lib.hid hrel
  have HHM := Lib.hid hhom
  have hpI : (0 : Int) < (nw : Int) := by omega
  have hwbn : ¬ wb = w.heap.size := by omega
  have hwbn1 : ¬ wb = w.heap.size + 1 := by omega
  clear h hS hne hst hrow hhn hw0 hna hnb hw1 hA1 hA2 hA3 hset hrel hhom hnw
  go_enter Tryz.func24, Tryz.ntmps24
  go_wp2_with fail
  refine (HA1.out _ (by repeat (first | exact Below.refl _ _ | assumption | refine Below.drew ?_ | refine belowDrewN ?_ _ | refine Below.alloc ?_ (by first | exact Nat.le_refl _ | omega | (simp; done) | (simp; omega)) _ | refine Below.setCell ?_ (by first | exact Nat.le_refl _ | omega | (simp; done) | (simp; omega)) _))).mono ?_
  rintro e w' ⟨rfl, rfl⟩
  go_wp2_with fail
  refine (HA2.out _ (by repeat (first | exact Below.refl _ _ | assumption | refine Below.drew ?_ | refine belowDrewN ?_ _ | refine Below.alloc ?_ (by first | exact Nat.le_refl _ | omega | (simp; done) | (simp; omega)) _ | refine Below.setCell ?_ (by first | exact Nat.le_refl _ | omega | (simp; done) | (simp; omega)) _))).mono ?_
  rintro e w' ⟨rfl, rfl⟩
  go_upto_region 3 with fail
  go_cut [8] (fun s8 wx => ∃ d : Bool, s8 = .bool d ∧ Hid (d = decide (in14 a = true ∧ in14 b = true ∧ a ≠ b)) ∧ wx = ((w.alloc (.cells #[.slice ra 4 rc, .slice ha hn hc] 43)).alloc (.cells #[.slice none 0 0, .slice none 0 0] 43)))
  case first =>
    cases hc1 : in14 a with
    | false =>
      rw [hc1] at HI1
      have hx : false = decide (in14 a = true ∧ in14 b = true ∧ a ≠ b) := by rw [hc1]; simp
      have HX := Lib.hid hx
      clear hx hc1
      go_wp2_with fail
      refine (HI1.out _).mono ?_
      rintro e w' ⟨rfl, rfl⟩
      go_wp2_with fail
      go_meet
      exact ⟨_, rfl, HX, rfl⟩
    | true =>
      rw [hc1] at HI1
      cases hc2 : in14 b with
      | false =>
        rw [hc2] at HI2
        have hx : false = decide (in14 a = true ∧ in14 b = true ∧ a ≠ b) := by rw [hc1, hc2]; simp
        have HX := Lib.hid hx
        clear hx hc1 hc2
        go_wp2_with fail
        refine (HI1.out _).mono ?_
        rintro e w' ⟨rfl, rfl⟩
        go_wp2_with fail
        refine (HI2.out _).mono ?_
        rintro e w' ⟨rfl, rfl⟩
        go_wp2_with fail
        go_meet
        exact ⟨_, rfl, HX, rfl⟩
      | true =>
        rw [hc2] at HI2
        have hx : (a != b) = decide (in14 a = true ∧ in14 b = true ∧ a ≠ b) := by
          rw [hc1, hc2]
          by_cases hab : a = b
          · simp [hab]
          · simp [hab]
        have HX := Lib.hid hx
        clear hx hc1 hc2
        go_wp2_with fail
        refine (HI1.out _).mono ?_
        rintro e w' ⟨rfl, rfl⟩
        go_wp2_with fail
        refine (HI2.out _).mono ?_
        rintro e w' ⟨rfl, rfl⟩
        go_wp2_with fail
        go_meet
        exact ⟨_, rfl, HX, rfl⟩
  case rest =>
    obtain ⟨d, rfl, HD, rfl⟩ := hcut
    by_cases g1 : w0 = sSells
    · subst g1
      go_wp2_with fail
      refine (rel_any (.slice ra 4 rc) s.rels a b 1 _ (HSP.out.rows.below (by repeat (first | exact Below.refl _ _ | assumption | refine Below.drew ?_ | refine belowDrewN ?_ _ | refine Below.alloc ?_ (by first | exact Nat.le_refl _ | omega | (simp; done) | (simp; omega)) _ | refine Below.setCell ?_ (by first | exact Nat.le_refl _ | omega | (simp; done) | (simp; omega)) _))) HST.out.len HRW.out (by decide) (by decide)).mono ?_
      rintro e w5 ⟨v5, hi5, rfl, hM5, hb5⟩
      obtain ⟨a5, c5, rfl, _, _⟩ := hM5.form
      obtain ⟨n5, hn5⟩ : ∃ n5, (relNew s.rels a b 1).length = n5 := ⟨_, rfl⟩
      rw [hn5] at hM5 ⊢
      obtain ⟨d0, d1, d2, d3, f0, f1, f2, f3, hbw, hsz⟩ := set_cells hb5
      have hm2 : MatB w5 (w.heap.size + 2) hi5 (.slice a5 n5 c5) (relNew s.rels a b 1) := hM5.low (by simp)
      have HM5 := Lib.hid hm2
      have HN5 := Lib.hid hn5
      clear hM5 hb5 hn5 hm2
      go_wp2_with fail
      obtain ⟨z0, z1, zE, zM, zB⟩ := out_cells (w := w) (w5 := w5.setCell ⟨w.heap.size, 0, none⟩ (.slice a5 n5 c5)) (x := .slice a5 n5 c5) (y := .slice ha hn hc) (by rw [World.cell?_setCell_other _ _ _ _ (by simp)]; exact d2) (by rw [World.cell?_setCell_other _ _ _ _ (by simp)]; exact d3) (Below.setCell hbw (Nat.le_refl _) _)
      refine bodyPost_ret (v := .tuple #[.agg #[.slice a5 n5 c5, .slice ha hn hc], .bool d]) (by simp [results, Tryz.results24, go_sem, z0, z1]) rfl ?_
      have zm := zM _ _ _ (HM5.out.setLow (p := ⟨w.heap.size, 0, none⟩) (by show w.heap.size < _; omega) (.slice a5 n5 c5))
      have hse := HSE.out
      rw [if_pos trivial] at hse
      obtain ⟨e1, e2⟩ := rel_fin (HRL.out 1) HD.out
      rw [hse]
      exact ⟨_, _, by rw [e1], ⟨_, _, _, rfl⟩, ⟨_, _, _, rfl⟩, fun s' e => ⟨⟨_, _, by rw [(e2 s' e).1]; exact zm, .inl (by omega)⟩, by rw [(e2 s' e).2]; exact HSP.out.2.below zB⟩, zB⟩
    by_cases g2 : w0 = sPeers
    · subst g2
      clear g1
      go_wp2_with fail
      refine (rel_any (.slice ra 4 rc) s.rels a b 2 _ (HSP.out.rows.below (by repeat (first | exact Below.refl _ _ | assumption | refine Below.drew ?_ | refine belowDrewN ?_ _ | refine Below.alloc ?_ (by first | exact Nat.le_refl _ | omega | (simp; done) | (simp; omega)) _ | refine Below.setCell ?_ (by first | exact Nat.le_refl _ | omega | (simp; done) | (simp; omega)) _))) HST.out.len HRW.out (by decide) (by decide)).mono ?_
      rintro e w5 ⟨v5, hi5, rfl, hM5, hb5⟩
      obtain ⟨a5, c5, rfl, _, _⟩ := hM5.form
      obtain ⟨n5, hn5⟩ : ∃ n5, (relNew s.rels a b 2).length = n5 := ⟨_, rfl⟩
      rw [hn5] at hM5 ⊢
      obtain ⟨d0, d1, d2, d3, f0, f1, f2, f3, hbw, hsz⟩ := set_cells hb5
      have hm2 : MatB w5 (w.heap.size + 2) hi5 (.slice a5 n5 c5) (relNew s.rels a b 2) := hM5.low (by simp)
      have HM5 := Lib.hid hm2
      have HN5 := Lib.hid hn5
      clear hM5 hb5 hn5 hm2
      go_wp2_with fail
      obtain ⟨z0, z1, zE, zM, zB⟩ := out_cells (w := w) (w5 := w5.setCell ⟨w.heap.size, 0, none⟩ (.slice a5 n5 c5)) (x := .slice a5 n5 c5) (y := .slice ha hn hc) (by rw [World.cell?_setCell_other _ _ _ _ (by simp)]; exact d2) (by rw [World.cell?_setCell_other _ _ _ _ (by simp)]; exact d3) (Below.setCell hbw (Nat.le_refl _) _)
      refine bodyPost_ret (v := .tuple #[.agg #[.slice a5 n5 c5, .slice ha hn hc], .bool d]) (by simp [results, Tryz.results24, go_sem, z0, z1]) rfl ?_
      have zm := zM _ _ _ (HM5.out.setLow (p := ⟨w.heap.size, 0, none⟩) (by show w.heap.size < _; omega) (.slice a5 n5 c5))
      have hse := HSE.out
      rw [if_neg (by decide), if_pos trivial] at hse
      obtain ⟨e1, e2⟩ := rel_fin (HRL.out 2) HD.out
      rw [hse]
      exact ⟨_, _, by rw [e1], ⟨_, _, _, rfl⟩, ⟨_, _, _, rfl⟩, fun s' e => ⟨⟨_, _, by rw [(e2 s' e).1]; exact zm, .inl (by omega)⟩, by rw [(e2 s' e).2]; exact HSP.out.2.below zB⟩, zB⟩
    by_cases g3 : w0 = sParts
    · subst g3
      clear g1 g2
      go_wp2_with fail
      refine (rel_any (.slice ra 4 rc) s.rels a b 0 _ (HSP.out.rows.below (by repeat (first | exact Below.refl _ _ | assumption | refine Below.drew ?_ | refine belowDrewN ?_ _ | refine Below.alloc ?_ (by first | exact Nat.le_refl _ | omega | (simp; done) | (simp; omega)) _ | refine Below.setCell ?_ (by first | exact Nat.le_refl _ | omega | (simp; done) | (simp; omega)) _))) HST.out.len HRW.out (by decide) (by decide)).mono ?_
      rintro e w5 ⟨v5, hi5, rfl, hM5, hb5⟩
      obtain ⟨a5, c5, rfl, _, _⟩ := hM5.form
      obtain ⟨n5, hn5⟩ : ∃ n5, (relNew s.rels a b 0).length = n5 := ⟨_, rfl⟩
      rw [hn5] at hM5 ⊢
      obtain ⟨d0, d1, d2, d3, f0, f1, f2, f3, hbw, hsz⟩ := set_cells hb5
      have hm2 : MatB w5 (w.heap.size + 2) hi5 (.slice a5 n5 c5) (relNew s.rels a b 0) := hM5.low (by simp)
      have HM5 := Lib.hid hm2
      have HN5 := Lib.hid hn5
      clear hM5 hb5 hn5 hm2
      go_wp2_with fail
      obtain ⟨z0, z1, zE, zM, zB⟩ := out_cells (w := w) (w5 := w5.setCell ⟨w.heap.size, 0, none⟩ (.slice a5 n5 c5)) (x := .slice a5 n5 c5) (y := .slice ha hn hc) (by rw [World.cell?_setCell_other _ _ _ _ (by simp)]; exact d2) (by rw [World.cell?_setCell_other _ _ _ _ (by simp)]; exact d3) (Below.setCell hbw (Nat.le_refl _) _)
      refine bodyPost_ret (v := .tuple #[.agg #[.slice a5 n5 c5, .slice ha hn hc], .bool d]) (by simp [results, Tryz.results24, go_sem, z0, z1]) rfl ?_
      have zm := zM _ _ _ (HM5.out.setLow (p := ⟨w.heap.size, 0, none⟩) (by show w.heap.size < _; omega) (.slice a5 n5 c5))
      have hse := HSE.out
      rw [if_neg (by decide), if_neg (by decide), if_pos trivial] at hse
      obtain ⟨e1, e2⟩ := rel_fin (HRL.out 0) HD.out
      rw [hse]
      exact ⟨_, _, by rw [e1], ⟨_, _, _, rfl⟩, ⟨_, _, _, rfl⟩, fun s' e => ⟨⟨_, _, by rw [(e2 s' e).1]; exact zm, .inl (by omega)⟩, by rw [(e2 s' e).2]; exact HSP.out.2.below zB⟩, zB⟩
    by_cases g4 : w0 = sHome
    · subst g4
      clear g1 g2 g3
      have hse := HSE.out
      rw [if_neg (by decide), if_neg (by decide), if_neg (by decide)] at hse
      first | rw [if_pos trivial] at hse | rw [if_pos rfl] at hse
      have hhm := HHM.out
      rw [← hse] at hhm
      have HSE2 := Lib.hid hhm
      have hRR := fun W => specRangeRead_any w1 W
      cases hrr : rreadF w1 with
      | none =>
        rw [hrr] at hRR HSE2
        unfold RRPost rrV at hRR
        have HRR := Lib.hid hRR
        clear hse hhm hRR hrr
        go_wp2_with fail
        refine (HA3.out _ (by repeat (first | exact Below.refl _ _ | assumption | refine Below.drew ?_ | refine belowDrewN ?_ _ | refine Below.alloc ?_ (by first | exact Nat.le_refl _ | omega | (simp; done) | (simp; omega)) _ | refine Below.setCell ?_ (by first | exact Nat.le_refl _ | omega | (simp; done) | (simp; omega)) _))).mono ?_
        rintro e w' ⟨rfl, rfl⟩
        go_wp2_with fail
        refine (HRR.out _).mono ?_
        rintro e w5 ⟨rfl, hb5⟩
        obtain ⟨d0, d1, d2, d3, f0, f1, f2, f3, hbw, hsz⟩ := set_cells hb5
        have hlt0 : w.heap.size < w5.heap.size := by omega
        have hlt1 : w.heap.size + 1 < w5.heap.size := by omega
        have hne0 : ¬ w.heap.size = w5.heap.size := by omega
        have hne1 : ¬ w.heap.size + 1 = w5.heap.size := by omega
        clear hb5
        go_wp2_with fail
        obtain ⟨z0, z1, zE, zM, zB⟩ := out_cells (w := w) (w5 := w5) (x := .slice ra 4 rc) (y := .slice ha hn hc) d2 d3 hbw
        obtain ⟨W7, hW7⟩ : ∃ W7, (w5.setCell ⟨w.heap.size + 1, 0, none⟩ (.slice ra 4 rc)).setCell ⟨w.heap.size + 1, 1, none⟩ (.slice ha hn hc) = W7 := ⟨_, rfl⟩
        have hs7 : W7.heap.size = w5.heap.size := by rw [← hW7]; simp [World.setCell]
        rw [hW7] at z0 z1 zB ⊢
        have ba : Below W7.heap.size W7 (W7.alloc (.cells #[.int .i64 0, .int .i64 0] 66)) := Below.alloc (Below.refl _ _) (Nat.le_refl _) _
        have y0 := (ba.cell (p := ⟨w.heap.size + 1, 0, none⟩) (by show w.heap.size + 1 < _; omega)).trans z0
        have y1 := (ba.cell (p := ⟨w.heap.size + 1, 1, none⟩) (by show w.heap.size + 1 < _; omega)).trans z1
        refine bodyPost_ret (v := .tuple #[.agg #[.slice ra 4 rc, .slice ha hn hc], .bool false]) (by simp [results, Tryz.results24, go_sem, y0, y1]) rfl ?_
        have he : setF s ws = none := HSE2.out
        rw [he]
        exact ⟨_, _, rfl, ⟨_, _, _, rfl⟩, ⟨_, _, _, rfl⟩, (fun s' e => nomatch e), zB.trans (ba.mono zB.size)⟩
      | some p =>
        obtain ⟨f, bt⟩ := p
        rw [hrr] at hRR HSE2
        unfold RRPost rrV at hRR
        have HRR := Lib.hid hRR
        have hso : setF s ws = if homesOkF s.rels (homePut s.homes (f, bt, b)) = true then some { s with homes := homePut s.homes (f, bt, b) } else none := HSE2.out
        have HSO := Lib.hid hso
        have hpo := hp_ok (R := s.rels) (H := s.homes) (e := (f, bt, b))
        have HPO := Lib.hid hpo.2
        obtain ⟨ok, hokk⟩ : ∃ ok, homesOkF s.rels (homePut s.homes (f, bt, b)) = ok := ⟨_, rfl⟩
        have hHM := fun W (hW : Below w.heap.size w W) => specHome_any (.slice ra 4 rc) (.slice ha hn hc) s.rels s.homes f bt b W (HSP.out.rows.below hW) (HSP.out.2.below hW) (by have := (homesOk_all HST.out.hom).2.1; omega)
        rw [hokk] at hHM
        have HHO := Lib.hid hHM
        have HOK := Lib.hid hokk
        clear hse hhm hRR hrr hso hpo hHM hokk
        go_wp2_with fail
        refine (HA3.out _ (by repeat (first | exact Below.refl _ _ | assumption | refine Below.drew ?_ | refine belowDrewN ?_ _ | refine Below.alloc ?_ (by first | exact Nat.le_refl _ | omega | (simp; done) | (simp; omega)) _ | refine Below.setCell ?_ (by first | exact Nat.le_refl _ | omega | (simp; done) | (simp; omega)) _))).mono ?_
        rintro e w' ⟨rfl, rfl⟩
        go_wp2_with fail
        refine (HRR.out _).mono ?_
        rintro e w5 ⟨rfl, hb5⟩
        obtain ⟨d0, d1, d2, d3, f0, f1, f2, f3, hbw, hsz⟩ := set_cells hb5
        have hlt0 : w.heap.size < w5.heap.size := by omega
        have hlt1 : w.heap.size + 1 < w5.heap.size := by omega
        have hne0 : ¬ w.heap.size = w5.heap.size := by omega
        have hne1 : ¬ w.heap.size + 1 = w5.heap.size := by omega
        have HB5 := Lib.hid hb5
        clear hb5
        go_wp2_with fail
        refine (HHO.out _ (by repeat (first | exact Below.refl _ _ | assumption | refine Below.drew ?_ | refine belowDrewN ?_ _ | refine Below.alloc ?_ (by first | exact Nat.le_refl _ | omega | (simp; done) | (simp; omega)) _ | refine Below.setCell ?_ (by first | exact Nat.le_refl _ | omega | (simp; done) | (simp; omega)) _))).mono ?_
        rintro e w6 ⟨v6, rfl, hE6, hb6⟩
        obtain ⟨a6, c6, rfl, _, _⟩ := hE6.form
        obtain ⟨n6, hn6⟩ : ∃ n6, (hpS s.homes (f, bt, b)).length = n6 := ⟨_, rfl⟩
        rw [hn6] at hE6 ⊢
        have HE6 := Lib.hid hE6
        have hb7 : Below (setW w (.slice ra 4 rc) (.slice ha hn hc)).heap.size (setW w (.slice ra 4 rc) (.slice ha hn hc)) w6 := Below.trans (Below.alloc HB5.out HB5.out.size (.cells #[.int .i64 f, .int .i64 bt] 66)) (hb6.mono (by have := HB5.out.size; simp at this ⊢; omega))
        clear d0 d1 d2 d3 f0 f1 f2 f3 hbw hsz hlt0 hlt1 hne0 hne1
        obtain ⟨d0, d1, d2, d3, f0, f1, f2, f3, hbw, hsz⟩ := set_cells hb7
        clear hE6 hb6 hb7 hn6
        go_wp2_with fail
        obtain ⟨z0, z1, zE, zM, zB⟩ := out_cells (w := w) (w5 := w6.setCell ⟨w.heap.size, 1, none⟩ (.slice a6 n6 c6)) (x := .slice ra 4 rc) (y := .slice a6 n6 c6) (by rw [World.cell?_setCell_other _ _ _ _ (by simp)]; exact d2) (by rw [World.cell?_setCell_other _ _ _ _ (by simp)]; exact d3) (Below.setCell hbw (Nat.le_refl _) _)
        refine bodyPost_ret (v := .tuple #[.agg #[.slice ra 4 rc, .slice a6 n6 c6], .bool ok]) (by simp [results, Tryz.results24, go_sem, z0, z1]) rfl ?_
        have ze := zE _ _ (HE6.out.setSl d1 (.slice a6 n6 c6))
        have hso := HSO.out
        have hpo := HPO.out
        rw [HOK.out] at hso hpo
        rw [hso]
        cases ok with
        | false => exact ⟨_, _, rfl, ⟨_, _, _, rfl⟩, ⟨_, _, _, rfl⟩, (fun s' e => nomatch e), zB⟩
        | true =>
          rw [hpo rfl] at ze
          exact ⟨_, _, rfl, ⟨_, _, _, rfl⟩, ⟨_, _, _, rfl⟩, (fun s' e => by cases e; obtain ⟨⟨lo, hi, m, hk⟩, _⟩ := HSP.out; exact ⟨⟨lo, hi, m.below zB, hk⟩, ze⟩), zB⟩
    · have hse := HSE.out
      rw [if_neg g1, if_neg g2, if_neg g3, if_neg g4] at hse
      have HSE2 := Lib.hid hse
      have q1 : (w0 == [115, 101, 108, 108, 115]) = false := beq_eq_false_iff_ne.2 g1
      have q2 : (w0 == [112, 101, 101, 114, 115]) = false := beq_eq_false_iff_ne.2 g2
      have q3 : (w0 == [112, 97, 114, 116, 115]) = false := beq_eq_false_iff_ne.2 g3
      have q4 : (w0 == [104, 111, 109, 101]) = false := beq_eq_false_iff_ne.2 g4
      clear hse g1 g2 g3 g4
      obtain ⟨d0, d1, d2, d3, f0, f1, f2, f3, hbw, hsz⟩ := set_cells (w := w) (r := .slice ra 4 rc) (h := .slice ha hn hc) (W := setW w (.slice ra 4 rc) (.slice ha hn hc)) (Below.refl _ _)
      go_wp2_with fail
      have zb : Below w.heap.size w ((w.alloc (.cells #[.slice ra 4 rc, .slice ha hn hc] 43)).alloc (.cells #[.slice ra 4 rc, .slice ha hn hc] 43)) := by repeat (first | exact Below.refl _ _ | assumption | refine Below.drew ?_ | refine belowDrewN ?_ _ | refine Below.alloc ?_ (by first | exact Nat.le_refl _ | omega | (simp; done) | (simp; omega)) _ | refine Below.setCell ?_ (by first | exact Nat.le_refl _ | omega | (simp; done) | (simp; omega)) _)
      refine bodyPost_ret (v := .tuple #[.agg #[.slice ra 4 rc, .slice ha hn hc], .bool false]) (by simp [results, Tryz.results24, go_sem]) rfl ?_
      rw [HSE2.out]
      exact ⟨_, _, rfl, ⟨_, _, _, rfl⟩, ⟨_, _, _, rfl⟩, (fun s' e => nomatch e), zb⟩
end Go.Proofs.YtnecdeaikmhanaaGreatDoor
namespace Go.Proofs.YtnecdeaikmhanaaGreatDoor
open Go.RowKit
set_option linter.unusedVariables false
set_option maxRecDepth 100000
set_option maxHeartbeats 16000000 in
theorem specOrder_any (v : Value) (R : List (List Int)) (n : Nat) (w : World) (hv : RowsAt w v R) (hq : Square R n) (h1 : 1 ≤ n) (h5 : n ≤ 5) :
    Calls Tryz.prog 84 #[v] w fun e w' => ∃ v', e = .returned v' ∧ OwnInts w' w.heap.size v' (ordTo R n n) ∧ Below w.heap.size w w' := by
  obtain ⟨ra, rc, rfl, _, _⟩ := hv.form
  rw [hq.1] at hv ⊢
  have HV := Lib.hid hv
  have HQ := Lib.hid hq
  have hZ := OwnInts.zero w
  have HZ := Lib.hid hZ
  have HB0 : Hid (Below w.heap.size w (w.alloc (.cells #[] 3))) := Lib.hid (Below.alloc (Below.refl _ _) (Nat.le_refl _) _)
  clear hv hq hZ
  go_enter Tryz.func84, Tryz.ntmps84
  go_wp2_with fail
  go_loopg [3, 4] n (fun gk s3 s4 wr => ∃ j : Nat, s4 = .int .i64 (j : Int) ∧ j + gk = n ∧ Hid (OwnInts wr w.heap.size s3 (ordTo R n j)) ∧ Hid (Below w.heap.size w wr))
  case atStart => exact ⟨0, rfl, by omega, HZ, HB0⟩
  case round =>
    clear HZ HB0
    obtain ⟨j, rfl, hj, O, B⟩ := hrel
    obtain ⟨oa, oc, rfl, _, _⟩ := O.out.form
    have hol := ordTo_len R n j
    have hsucc := ordTo_succ R n j
    obtain ⟨out, hout⟩ : ∃ out, ordTo R n j = out := ⟨_, rfl⟩
    have HOUT := Lib.hid hout
    obtain ⟨N, hNN⟩ : ∃ N, out.length = N := ⟨_, rfl⟩
    rw [hout] at O hol hsucc ⊢
    rw [hNN] at hol ⊢
    have O2 : Hid (OwnInts wr w.heap.size (.slice oa N oc) out) := Lib.hid (by have := O.out; unfold OwnInts at this ⊢; rw [hNN] at this ⊢; exact this)
    have HNN := Lib.hid hNN
    have HSC := Lib.hid hsucc
    have HJ := Lib.hid hj
    clear O hNN hout hsucc
    obtain ⟨W1, hW1⟩ : ∃ x, x = wr := ⟨_, rfl⟩
    have hz1 := B.out.size
    have HHA : Hid (∀ x W, W = wr → Calls Tryz.prog 116 #[.slice oa N oc, .int .i64 x] W fun e w' => e = .returned (.bool (decide (x ∈ out))) ∧ w' = W) := Lib.hid (fun x W hW => by subst hW; exact has_any _ _ x _ O2.out.ints)
    have HOF : Hid (∀ i k : Nat, i < n → k < n → ∀ W, W = wr → Calls Tryz.prog 119 #[.slice ra n rc, .int .i64 ((i : Int) + 1), .int .i64 ((k : Int) + 1)] W fun e w' => e = .returned (.int .i64 (ofF R ((i : Int) + 1) ((k : Int) + 1))) ∧ w' = W) := Lib.hid (fun i k hi hk W hW => by subst hW; exact l12Of_any _ R n _ _ _ (HV.out.below B.out) HQ.out (by omega) (by omega) (by omega) (by omega))
    rw [← hW1] at O2 B hz1 HHA HOF ⊢
    clear hW1
    by_cases hjn : j < n
    · have hjI : (j : Int) < (n : Int) := by omega
      go_wp2_with fail
      go_loopg [3, 5] n (fun gk s3 s5 wr => ∃ m : Nat, s5 = .int .i64 ((m : Int) + 1) ∧ m + gk = n ∧ s3 = .slice oa N oc ∧ wr = W1 ∧ Hid (∀ i, i < m → readyF R n out ((i : Int) + 1) = false))
      case atStart => exact ⟨0, rfl, by omega, rfl, rfl, Lib.hid (fun i hi => absurd hi (by omega))⟩
      case round =>
        obtain ⟨m, rfl, hm, rfl, rfl, HM⟩ := hrel
        by_cases hmn : m < n
        · have hmI : (m : Int) + 1 ≤ (n : Int) := by omega
          have hin := HHA.out ((m : Int) + 1) _ rfl
          have HMM := Lib.hid hm
          cases hdi : decide ((m : Int) + 1 ∈ out) with
          | true =>
            rw [hdi] at hin
            have hnr : readyF R n out ((m : Int) + 1) = false := by unfold readyF; rw [hdi]; rfl
            have HNR := Lib.hid hnr
            have HIN := Lib.hid hin
            clear hin hdi hnr hm
            go_wp2_with fail
            refine HIN.out.mono ?_
            rintro e w' ⟨rfl, rfl⟩
            go_wp2_with fail
            go_roundg (n - (m + 1))
            case measure => have := HMM.out; omega
            case rel => exact ⟨m + 1, by go_num, by omega, rfl, rfl, Lib.hid (fun i hi => by
              rcases Nat.lt_succ_iff_lt_or_eq.1 hi with h | h
              · exact HM.out i h
              · subst h; exact HNR.out)⟩
          | false =>
            rw [hdi] at hin
            have hrd : readyF R n out ((m : Int) + 1) = custsF R out ((m : Int) + 1) n := by unfold readyF; rw [hdi]; rfl
            have HRD := Lib.hid hrd
            have HIN := Lib.hid hin
            clear hin hdi hrd hm
            go_wp2_with fail
            refine HIN.out.mono ?_
            rintro e w' ⟨rfl, rfl⟩
            go_wp2_with fail
            go_loopg [6, 7] n (fun gk s6 s7 wr => ∃ q : Nat, s7 = .int .i64 ((q : Int) + 1) ∧ q + gk = n ∧ s6 = .bool (custsF R out ((m : Int) + 1) q) ∧ wr = w')
            case atStart => exact ⟨0, rfl, by omega, rfl, rfl⟩
            case round =>
              obtain ⟨q, rfl, hq, rfl, rfl⟩ := hrel
              by_cases hqn : q < n
              · have hqI : (q : Int) + 1 ≤ (n : Int) := by omega
                have hcs := custsF_succ R out ((m : Int) + 1) q
                obtain ⟨cu, hcu⟩ : ∃ cu, custsF R out ((m : Int) + 1) q = cu := ⟨_, rfl⟩
                rw [hcu] at hcs ⊢
                have hof := HOF.out m q hmn hqn _ rfl
                have hha := HHA.out ((q : Int) + 1) _ rfl
                obtain ⟨o, ho⟩ : ∃ o, ofF R ((m : Int) + 1) ((q : Int) + 1) = o := ⟨_, rfl⟩
                rw [ho] at hof hcs
                have HOF2 := Lib.hid hof
                have HHA2 := Lib.hid hha
                have HCS := Lib.hid hcs
                have HQQ := Lib.hid hq
                clear hcs hcu hof hha ho hq
                cases cu with
                | false =>
                  go_wp2_with fail
                  go_roundg (n - (q + 1))
                  case measure => have := HQQ.out; omega
                  case rel => exact ⟨q + 1, by go_num, by omega, by rw [HCS.out]; rfl, rfl⟩
                | true =>
                  by_cases ho1 : o = 1
                  · have hb : (o != 1) = false := by rw [bne_eq_false_iff_eq]; exact ho1
                    have HB := Lib.hid ho1
                    clear ho1
                    go_wp2_with fail
                    refine HOF2.out.mono ?_
                    rintro e w' ⟨rfl, rfl⟩
                    go_wp2_with fail
                    refine HHA2.out.mono ?_
                    rintro e w' ⟨rfl, rfl⟩
                    go_wp2_with fail
                    go_roundg (n - (q + 1))
                    case measure => have := HQQ.out; omega
                    case rel => exact ⟨q + 1, by go_num, by omega, by rw [HCS.out, HB.out]; simp, rfl⟩
                  · have hb : (o != 1) = true := by rw [bne_iff_ne]; exact ho1
                    have HB := Lib.hid ho1
                    clear ho1
                    go_wp2_with fail
                    refine HOF2.out.mono ?_
                    rintro e w' ⟨rfl, rfl⟩
                    go_wp2_with fail
                    go_roundg (n - (q + 1))
                    case measure => have := HQQ.out; omega
                    case rel => exact ⟨q + 1, by go_num, by omega, by rw [HCS.out]; simp [HB.out], rfl⟩
              · obtain rfl : q = n := by omega
                have hqI : ¬ (q : Int) + 1 ≤ (q : Int) := by omega
                cases hcu : custsF R out ((m : Int) + 1) q with
                | true =>
                  have hrd : readyF R q out ((m : Int) + 1) = true := by rw [HRD.out, hcu]
                  have hle := leastF_some (rs := R) (n := q) (out := out) (m := q) (i := m) hmn hrd HM.out
                  have hst := ordStep_some hle
                  have HST := Lib.hid hst
                  clear hcu hrd hle hst hq
                  go_wp2_with (at_builtin; go_loud (refine wpList_append_ints rfl (.tmp 44) (.tmp 46) rfl w.heap.size _ _ out [(m : Int) + 1] (N + 1) (by rw [HNN.out]; rfl) rfl (O2.out.below (by repeat (first | exact Below.refl _ _ | assumption | refine Below.drew ?_ | refine belowDrewN ?_ _ | refine Below.alloc ?_ (by first | exact Nat.le_refl _ | omega | (simp; done) | (simp; omega)) _ | refine Below.setCell ?_ (by first | exact Nat.le_refl _ | omega | (simp; done) | (simp; omega)) _))) (by simp; omega) rfl (OwnInts.one _ _).ints (by omega) ?_); intro ad4 c4 w4 hE4 hb4 hs4; have E4 := Lib.hid hE4; have B4 : Hid (Below w.heap.size w w4) := Lib.hid (Below.trans (by have := B.out; repeat (first | exact Below.refl _ _ | assumption | refine Below.drew ?_ | refine belowDrewN ?_ _ | refine Below.alloc ?_ (by first | exact Nat.le_refl _ | omega | (simp; done) | (simp; omega)) _ | refine Below.setCell ?_ (by first | exact Nat.le_refl _ | omega | (simp; done) | (simp; omega)) _)) hb4); clear hE4 hb4)
                  go_roundg (q - (j + 1))
                  case measure => have := HJ.out; omega
                  case rel => exact ⟨j + 1, by go_num, by have := HJ.out; omega, Lib.hid (by rw [HSC.out, HST.out]; exact E4.out), B4⟩
                | false =>
                  have hrd : readyF R q out ((m : Int) + 1) = false := by rw [HRD.out, hcu]
                  have HNR := Lib.hid hrd
                  clear hcu hrd hq
                  go_wp2_with fail
                  go_roundg (q - (m + 1))
                  case measure => have := HMM.out; omega
                  case rel => exact ⟨m + 1, by go_num, by have := HMM.out; omega, rfl, rfl, Lib.hid (fun i hi => by
                    rcases Nat.lt_succ_iff_lt_or_eq.1 hi with h | h
                    · exact HM.out i h
                    · subst h; exact HNR.out)⟩
        · obtain rfl : m = n := by omega
          have hnone := leastF_none (rs := R) (n := m) (out := out) (m := m) HM.out
          have hst := ordStep_none hnone
          have HST := Lib.hid hst
          have hmI : ¬ (m : Int) + 1 ≤ (m : Int) := by omega
          clear hm hmn hnone hst
          go_wp2_with fail
          go_roundg (m - (j + 1))
          case measure => omega
          case rel => exact ⟨j + 1, by go_num, by omega, Lib.hid (by rw [HSC.out, HST.out]; exact O2.out), B⟩
    · obtain rfl : j = n := by omega
      go_wp2_with fail
      go_ret
      exact ⟨_, rfl, by rw [HOUT.out]; exact O2.out, B.out⟩
set_option maxHeartbeats 4000000 in
theorem specFree_any (v : Value) (R : List (List Int)) (w : World) (hv : RowsAt w v R) (hq : Square R 4) (hok : relsOkF R = true) :
    Calls Tryz.prog 83 #[v] w fun e w' => e = .returned (.bool (freeF R)) ∧ Below w.heap.size w w' := by
  obtain ⟨ra, rc, rfl, _, _⟩ := hv.form
  have hRO := specRelsOk_any (.slice ra R.length rc) R w hv
  rw [hok] at hRO
  rw [hq.1] at hv hRO ⊢
  have HRO := Lib.hid hRO
  have HOR : Hid (∀ W, Below w.heap.size w W → Calls Tryz.prog 84 #[.slice ra 4 rc] W fun e w' => ∃ v', e = .returned v' ∧ OwnInts w' W.heap.size v' (ordTo R 4 4) ∧ Below W.heap.size W w') := Lib.hid (fun W hb => specOrder_any _ R 4 W (hv.below hb) hq (by omega) (by omega))
  have hf : freeF R = decide ((ordTo R 4 4).length = 4) := by unfold freeF; rw [hok, hq.1]; rfl
  have HF := Lib.hid hf
  clear hv hq hok hRO hf
  go_enter Tryz.func83, Tryz.ntmps83
  go_wp2_with fail
  refine HRO.out.mono ?_
  rintro e w1 ⟨rfl, hb1⟩
  have HB1 := Lib.hid hb1
  clear hb1
  go_wp2_with fail
  refine (HOR.out _ HB1.out).mono ?_
  rintro e w2 ⟨v2, rfl, hO, hb2⟩
  have HB2 : Hid (Below w.heap.size w w2) := Lib.hid (HB1.out.trans (hb2.mono HB1.out.size))
  obtain ⟨oa, oc, rfl, _, _⟩ := hO.form
  obtain ⟨N, hN⟩ : ∃ N, (ordTo R 4 4).length = N := ⟨_, rfl⟩
  rw [hN] at HF ⊢
  have hq2 : ((N : Int) == 4) = decide (N = 4) := by
    by_cases h : N = 4
    · subst h; rfl
    · rw [decide_eq_false h, beq_eq_false_iff_ne]; omega
  clear hb2 hO hN
  go_wp2_with fail
  go_ret
  refine ⟨?_, HB2.out⟩
  rw [HF.out]
  rfl
set_option maxHeartbeats 4000000 in
theorem specRelsOrder_any (v : Value) (R : List (List Int)) (w : World) (hv : RowsAt w v R) (hq : Square R 4) (hok : relsOkF R = true) :
    Calls Tryz.prog 50 #[v] w fun e w' => ∃ v', e = .returned (.tuple #[v', .bool (freeF R)]) ∧ IntsAt w' v' (relsOrderF R) ∧ Below w.heap.size w w' := by
  have hFR := specFree_any v R w hv hq hok
  obtain ⟨ra, rc, rfl, _, _⟩ := hv.form
  rw [hq.1] at hv hFR ⊢
  have HFR := Lib.hid hFR
  have HOR : Hid (∀ W, Below w.heap.size w W → Calls Tryz.prog 84 #[.slice ra 4 rc] W fun e w' => ∃ v', e = .returned v' ∧ OwnInts w' W.heap.size v' (ordTo R 4 4) ∧ Below W.heap.size W w') := Lib.hid (fun W hb => specOrder_any _ R 4 W (hv.below hb) hq (by omega) (by omega))
  have HQ := Lib.hid hq
  clear hv hq hok hFR
  cases hf : freeF R with
  | false =>
    have hr : relsOrderF R = [] := by unfold relsOrderF; rw [if_neg (by rw [hf]; simp)]
    have HR := Lib.hid hr
    rw [hf] at HFR
    clear hf hr
    go_enter Tryz.func50, Tryz.ntmps50
    go_wp2_with fail
    refine HFR.out.mono ?_
    rintro e w1 ⟨rfl, hb1⟩
    have HB1 := Lib.hid hb1
    clear hb1
    go_wp2_with fail
    refine bodyPost_ret (results_tmp2 rfl _ _ _) rfl ?_
    refine ⟨_, rfl, ?_, by have := HB1.out; have := this.size; repeat (first | exact Below.refl _ _ | assumption | refine Below.drew ?_ | refine belowDrewN ?_ _ | refine Below.alloc ?_ (by first | exact Nat.le_refl _ | omega | (simp; done) | (simp; omega)) _ | refine Below.setCell ?_ (by first | exact Nat.le_refl _ | omega | (simp; done) | (simp; omega)) _)⟩
    rw [HR.out]
    exact (OwnInts.zero w1).ints
  | true =>
    have hr : relsOrderF R = ordTo R 4 4 := by unfold relsOrderF; rw [if_pos hf, HQ.out.1]
    have HR := Lib.hid hr
    rw [hf] at HFR
    clear hf hr
    go_enter Tryz.func50, Tryz.ntmps50
    go_wp2_with fail
    refine HFR.out.mono ?_
    rintro e w1 ⟨rfl, hb1⟩
    have HB1 := Lib.hid hb1
    clear hb1
    go_wp2_with fail
    refine (HOR.out _ HB1.out).mono ?_
    rintro e w2 ⟨v2, rfl, hO, hb2⟩
    have HB2 : Hid (Below w.heap.size w w2) := Lib.hid (HB1.out.trans (hb2.mono HB1.out.size))
    have HO := Lib.hid hO
    clear hb2 hO
    go_wp2_with fail
    refine bodyPost_ret (results_tmp2 rfl _ _ _) rfl ?_
    exact ⟨_, rfl, by rw [HR.out]; exact HO.out.ints, HB2.out⟩
end Go.Proofs.YtnecdeaikmhanaaGreatDoor
namespace Go.Proofs.YtnecdeaikmhanaaGreatDoor
open Go.RowKit
set_option linter.unusedVariables false
set_option maxRecDepth 100000
def AskPost (o : Option Bs) (w : World) (e : Ending) (w' : World) : Prop := e = .returned (.tuple #[stV (o.getD []), .bool o.isSome]) ∧ Below w.heap.size w w'
theorem addr_any (x : Int) (W : World) : Calls Tryz.prog 41 #[.int .i64 x, .int .i64 0, .int .i64 255] W fun e w' => e = .returned (.bool (addrF x)) ∧ W = w' := by
  refine (in_any x 0 255 W).mono ?_
  rintro e w' ⟨rfl, rfl⟩
  exact ⟨rfl, rfl⟩
theorem ask_none {w w' : World} {T : ByteArray} (h : T = ⟨#[]⟩) (hb : Below w.heap.size w w') : AskPost none w (.returned (.tuple #[.string T, .bool false])) w' := by subst h; exact ⟨rfl, hb⟩
theorem ask_some {w w' : World} {o : Bs} {T : ByteArray} (h : T = ⟨o.toArray⟩) (hb : Below w.heap.size w w') : AskPost (some o) w (.returned (.tuple #[.string T, .bool true])) w' := by subst h; exact ⟨rfl, hb⟩
set_option maxHeartbeats 16000000 in
theorem ask_any (k : Nat) (rv hv v : Value) (s : LSt) (ws : List Bs) (w : World) (h : SpecAt w k rv hv s) (hS : StrsAt w v ws) (hne : ws ≠ []) (hst : StOk s) :
    Calls Tryz.prog 25 #[.agg #[rv, hv], v] w (AskPost (askF s ws) w) := by
  have hrow := (relsOk_parts hst.len hst.rel).1
  have hsq : Square s.rels 4 := ⟨hst.len, fun i hi => (hrow i hi).1⟩
  obtain ⟨ra, rc, rfl, _, _⟩ := h.rows.form
  obtain ⟨ha, hc, rfl, _, _⟩ := h.2.form
  rw [hst.len] at h ⊢
  obtain ⟨hn, hhn⟩ : ∃ hn, s.homes.length = hn := ⟨_, rfl⟩
  rw [hhn] at h ⊢
  obtain ⟨w0, hw0⟩ : ∃ x, ws.getD 0 [] = x := ⟨_, rfl⟩
  obtain ⟨a, hna⟩ : ∃ a, numF (ws.getD 1 []) = a := ⟨_, rfl⟩
  obtain ⟨b, hnb⟩ : ∃ b, numF (ws.getD 2 []) = b := ⟨_, rfl⟩
  have hA1 : ∀ W, Below w.heap.size w W → Calls Tryz.prog 40 #[v, .int .i64 1] W fun e w' => e = .returned (.int .i64 a) ∧ W = w' := fun W hb => by rw [← hna]; exact l61Num_1 v ws W (hS.below hb)
  have hA2 : ∀ W, Below w.heap.size w W → Calls Tryz.prog 40 #[v, .int .i64 2] W fun e w' => e = .returned (.int .i64 b) ∧ W = w' := fun W hb => by rw [← hnb]; exact l61Num_2 v ws W (hS.below hb)
  have hask : askF s ws = if w0 = sWays then (if in14 a = true then some (waysLine s ws) else none)
      else if w0 = sSend then (if in14 a = true ∧ addrF b = true then some (sendLine s ws) else none)
      else if w0 = sFree then some (freeLine s) else none := by
    unfold askF; rw [show wordF ws 0 = w0 from hw0, show numF (wordF ws 1) = a from hna, show numF (wordF ws 2) = b from hnb]
  have hways : in14 a = true → waysLine s ws = Lib.join (wtL (end31 s.rels a 4) 4) [32] ++ [10] := fun hc => by
    unfold waysLine wtL
    rw [show numF (wordF ws 1) = a from hna, if_pos hc, List.take_of_length_le (by rw [end_len hst.len]; omega)]
  have hsend : in14 a = true → addrF b = true → sendLine s ws = ptextF (wayF (sendTabsF s.rels s.homes 4) a b).1 ++ (if (wayF (sendTabsF s.rels s.homes 4) a b).2 = true then sHomeEnd else sLost) := fun h1 h2 => by
    unfold sendLine
    rw [show numF (wordF ws 1) = a from hna, show numF (wordF ws 2) = b from hnb, if_pos ⟨h1, h2⟩]
  obtain ⟨va, vc, rfl, _, _⟩ := hS.form
  obtain ⟨nw, hnw⟩ : ∃ nw, ws.length = nw := ⟨_, rfl⟩
  have hpw : 0 < nw := by rw [← hnw]; exact List.length_pos_iff.2 hne
  rw [hnw] at hS hA1 hA2 ⊢
  obtain ⟨wb, woff, rfl, hwb, hwc⟩ := hS.get 0 (by omega)
  rw [hw0, Nat.add_zero] at hwc
  have HA1 := Lib.hid hA1
  have HA2 := Lib.hid hA2
  have HI1 := Lib.hid (in14_any a)
  have HI2 := Lib.hid (addr_any b)
  have HSP := Lib.hid h
  have HST := Lib.hid hst
  have HSQ := Lib.hid hsq
  have HAS := Lib.hid hask
  have HWY := Lib.hid hways
  have HSD := Lib.hid hsend
  have hpI : (0 : Int) < (nw : Int) := by omega
  have hwbn : ¬ wb = w.heap.size := by omega
  clear h hS hne hst hrow hsq hhn hw0 hna hnb hA1 hA2 hask hways hsend hnw
  go_enter Tryz.func25, Tryz.ntmps25
  go_wp2_with fail
  refine (HA1.out _ (by repeat (first | exact Below.refl _ _ | assumption | refine Below.drew ?_ | refine belowDrewN ?_ _ | refine Below.alloc ?_ (by first | exact Nat.le_refl _ | omega | (simp; done) | (simp; omega)) _ | refine Below.setCell ?_ (by first | exact Nat.le_refl _ | omega | (simp; done) | (simp; omega)) _))).mono ?_
  rintro e w' ⟨rfl, rfl⟩
  go_wp2_with fail
  refine (HA2.out _ (by repeat (first | exact Below.refl _ _ | assumption | refine Below.drew ?_ | refine belowDrewN ?_ _ | refine Below.alloc ?_ (by first | exact Nat.le_refl _ | omega | (simp; done) | (simp; omega)) _ | refine Below.setCell ?_ (by first | exact Nat.le_refl _ | omega | (simp; done) | (simp; omega)) _))).mono ?_
  rintro e w' ⟨rfl, rfl⟩
  by_cases g5 : w0 = sWays
  · subst g5
    have hse := HAS.out
    first | rw [if_pos trivial] at hse | rw [if_pos rfl] at hse
    cases hc1 : in14 a with
    | false =>
      rw [hc1, if_neg (by simp)] at hse
      rw [hc1] at HI1
      have HSE := Lib.hid hse
      clear hse hc1
      go_wp2_with fail
      refine (HI1.out _).mono ?_
      rintro e w' ⟨rfl, rfl⟩
      go_wp2_with fail
      refine bodyPost_ret (results_tmp2 rfl _ _ _) rfl ?_
      rw [HSE.out]
      exact ask_none rfl (by repeat (first | exact Below.refl _ _ | assumption | refine Below.drew ?_ | refine belowDrewN ?_ _ | refine Below.alloc ?_ (by first | exact Nat.le_refl _ | omega | (simp; done) | (simp; omega)) _ | refine Below.setCell ?_ (by first | exact Nat.le_refl _ | omega | (simp; done) | (simp; omega)) _))
    | true =>
      rw [hc1, if_pos rfl, HWY.out hc1] at hse
      rw [hc1] at HI1
      have HSE := Lib.hid hse
      have hax : 1 ≤ a ∧ a ≤ 4 := by unfold in14 at hc1; simpa using hc1
      have hEL := end_len HST.out.len a
      have hEG : ∀ i, i < 4 → GoodP ((end31 s.rels a 4).getD i []) := fun i hi => end_good HST.out.len (by omega) (by omega) hi
      have hEN := fun W (hb : Below w.heap.size w W) => l31End_any (.slice ra 4 rc) s.rels 4 a W (HSP.out.rows.below hb) HSQ.out (by omega) (by omega)
      obtain ⟨E, hE⟩ : ∃ E, end31 s.rels a 4 = E := ⟨_, rfl⟩
      rw [hE] at HSE hEL hEG hEN
      have HEL := Lib.hid hEL
      have HEG := Lib.hid hEG
      have HEN := Lib.hid hEN
      clear hse hc1 hax hEL hEG hEN hE
      go_wp2_with fail
      refine (HI1.out _).mono ?_
      rintro e w' ⟨rfl, rfl⟩
      go_wp2_with fail
      refine (HEN.out _ (by repeat (first | exact Below.refl _ _ | assumption | refine Below.drew ?_ | refine belowDrewN ?_ _ | refine Below.alloc ?_ (by first | exact Nat.le_refl _ | omega | (simp; done) | (simp; omega)) _ | refine Below.setCell ?_ (by first | exact Nat.le_refl _ | omega | (simp; done) | (simp; omega)) _))).mono ?_
      rintro e w2 ⟨v2, rfl, hL, hb2⟩
      obtain ⟨ea, ec, rfl, _, _⟩ := hL.form
      rw [HEL.out] at hL ⊢
      have HL := Lib.hid hL
      have HB2 : Hid (Below w.heap.size w w2) := Lib.hid (Below.trans (by repeat (first | exact Below.refl _ _ | assumption | refine Below.drew ?_ | refine belowDrewN ?_ _ | refine Below.alloc ?_ (by first | exact Nat.le_refl _ | omega | (simp; done) | (simp; omega)) _ | refine Below.setCell ?_ (by first | exact Nat.le_refl _ | omega | (simp; done) | (simp; omega)) _)) (hb2.mono (by simp)))
      clear hL hb2
      go_wp2_with fail
      go_loopg [9, 10] 4 (fun gk s9 s10 wr => ∃ j : Nat, s10 = .int .i64 (j : Int) ∧ j + gk = 4 ∧ s9 = .string ⟨(Lib.join (wtL E j) [32]).toArray⟩ ∧ Hid (Below w2.heap.size w2 wr))
      case atStart => exact ⟨0, rfl, by omega, rfl, Lib.hid (Below.refl _ _)⟩
      case round =>
        obtain ⟨j, rfl, hj, rfl, B⟩ := hrel
        have hjl := join_le (wtL_short (L := E) (fun i hi => HEG.out i (by rw [HEL.out] at hi; exact hi)) j) 32
        rw [wtL_len (by rw [HEL.out]; omega)] at hjl
        have hXl : (Lib.join (wtL E j) [32]).length ≤ 124 := by omega
        obtain ⟨X, hX⟩ : ∃ X, Lib.join (wtL E j) [32] = X := ⟨_, rfl⟩
        have hz2 := B.out.size
        by_cases hj4 : j = 4
        · subst hj4
          rw [hX] at HSE hXl ⊢
          have hadd := add_is X [10] (by simp; omega)
          rw [show (⟨[(10 : UInt8)].toArray⟩ : ByteArray) = ⟨#[10]⟩ from rfl] at hadd
          have HB3 : Hid (Below w.heap.size w wr) := Lib.hid (HB2.out.trans (B.out.mono HB2.out.size))
          clear hX hjl
          go_wp2_with fail
          refine bodyPost_ret (results_tmp2 rfl _ _ _) rfl ?_
          rw [HSE.out]
          exact ask_some rfl HB3.out
        · have hjn : j < 4 := by omega
          have hjI : (j : Int) < 4 := by omega
          have j0 : (0 : Int) ≤ (j : Int) := by omega
          obtain ⟨b0, off, u, e, hb0, hcu, hu⟩ := (HL.out.rows.below B.out).fetch HEL.out j hjn
          subst e
          have hsucc : Lib.join (wtL E (j + 1)) [32] = if wtL E j = [] then ptextF (E.getD j []) else Lib.join (wtL E j) [32] ++ [32] ++ ptextF (E.getD j []) := by
            rw [wtL_succ (by rw [HEL.out]; exact hjn), join_snoc]
          have hpt := fun W (hb : Below wr.heap.size wr W) => specPathText_any u _ W (hu.below hb) (HEG.out j hjn)
          have hpl := ptext_short (HEG.out j hjn)
          obtain ⟨t, ht⟩ : ∃ t, ptextF (E.getD j []) = t := ⟨_, rfl⟩
          rw [ht] at hsucc hpt hpl
          unfold DecPost stV at hpt
          obtain ⟨ua, uc, rfl, _, _⟩ := hu.form
          have HPT := Lib.hid hpt
          have HJ := Lib.hid hj
          by_cases hj0 : j = 0
          · have hX0 : X = [] := by rw [← hX, hj0]; rfl
            rw [if_pos (show wtL E j = [] by rw [hj0]; rfl)] at hsucc
            have hng : ¬ (0 : Int) < (j : Int) := by omega
            rw [hX] at ⊢
            subst hX0
            have hadd := add_is [] t (by simp; omega)
            rw [List.nil_append] at hadd
            have HSU := Lib.hid hsucc
            clear hX hjl hsucc hpt ht hu hj hj0
            go_wp2_with fail
            refine (HPT.out _ (by repeat (first | exact Below.refl _ _ | assumption | refine Below.drew ?_ | refine belowDrewN ?_ _ | refine Below.alloc ?_ (by first | exact Nat.le_refl _ | omega | (simp; done) | (simp; omega)) _ | refine Below.setCell ?_ (by first | exact Nat.le_refl _ | omega | (simp; done) | (simp; omega)) _))).mono ?_
            rintro e w3 ⟨rfl, hb3⟩
            have HB3 : Hid (Below w2.heap.size w2 w3) := Lib.hid (B.out.trans (hb3.mono B.out.size))
            clear hb3
            go_wp2_with fail
            go_roundg (4 - (j + 1))
            case measure => have := HJ.out; omega
            case rel => exact ⟨j + 1, by go_num, by omega, by rw [HSU.out], HB3⟩
          · have hpos : (0 : Int) < (j : Int) := by omega
            have hne : ¬ wtL E j = [] := fun e => by have := wtL_len (L := E) (j := j) (by rw [HEL.out]; omega); rw [e] at this; simp at this; omega
            rw [if_neg hne, hX] at hsucc
            rw [hX] at hXl ⊢
            have hadd1 := add_is X [32] (by simp; omega)
            rw [show (⟨[(32 : UInt8)].toArray⟩ : ByteArray) = ⟨#[32]⟩ from rfl] at hadd1
            have hadd2 := add_is (X ++ [32]) t (by simp; omega)
            have HSU := Lib.hid hsucc
            clear hX hjl hsucc hpt ht hu hj hne
            go_wp2_with fail
            refine (HPT.out _ (by repeat (first | exact Below.refl _ _ | assumption | refine Below.drew ?_ | refine belowDrewN ?_ _ | refine Below.alloc ?_ (by first | exact Nat.le_refl _ | omega | (simp; done) | (simp; omega)) _ | refine Below.setCell ?_ (by first | exact Nat.le_refl _ | omega | (simp; done) | (simp; omega)) _))).mono ?_
            rintro e w3 ⟨rfl, hb3⟩
            have HB3 : Hid (Below w2.heap.size w2 w3) := Lib.hid (B.out.trans (hb3.mono B.out.size))
            clear hb3
            go_wp2_with fail
            go_roundg (4 - (j + 1))
            case measure => have := HJ.out; omega
            case rel => exact ⟨j + 1, by go_num, by omega, by rw [HSU.out, List.append_assoc]; rfl, HB3⟩
  · have q5 : (w0 == [119, 97, 121, 115]) = false := beq_eq_false_iff_ne.2 g5
    by_cases g6 : w0 = sSend
    · subst g6
      have hse := HAS.out
      rw [if_neg (by decide)] at hse
      first | rw [if_pos trivial] at hse | rw [if_pos rfl] at hse
      clear g5 q5
      cases hc1 : in14 a with
      | false =>
        rw [hc1, if_neg (by simp)] at hse
        rw [hc1] at HI1
        have HSE := Lib.hid hse
        clear hse hc1
        go_wp2_with fail
        refine (HI1.out _).mono ?_
        rintro e w' ⟨rfl, rfl⟩
        go_wp2_with fail
        refine bodyPost_ret (results_tmp2 rfl _ _ _) rfl ?_
        rw [HSE.out]
        exact ask_none rfl (by repeat (first | exact Below.refl _ _ | assumption | refine Below.drew ?_ | refine belowDrewN ?_ _ | refine Below.alloc ?_ (by first | exact Nat.le_refl _ | omega | (simp; done) | (simp; omega)) _ | refine Below.setCell ?_ (by first | exact Nat.le_refl _ | omega | (simp; done) | (simp; omega)) _))
      | true =>
        rw [hc1] at HI1
        cases hc2 : addrF b with
        | false =>
          rw [hc2, if_neg (by simp)] at hse
          rw [hc2] at HI2
          have HSE := Lib.hid hse
          clear hse hc1 hc2
          go_wp2_with fail
          refine (HI1.out _).mono ?_
          rintro e w' ⟨rfl, rfl⟩
          go_wp2_with fail
          refine (HI2.out _).mono ?_
          rintro e w' ⟨rfl, rfl⟩
          go_wp2_with fail
          refine bodyPost_ret (results_tmp2 rfl _ _ _) rfl ?_
          rw [HSE.out]
          exact ask_none rfl (by repeat (first | exact Below.refl _ _ | assumption | refine Below.drew ?_ | refine belowDrewN ?_ _ | refine Below.alloc ?_ (by first | exact Nat.le_refl _ | omega | (simp; done) | (simp; omega)) _ | refine Below.setCell ?_ (by first | exact Nat.le_refl _ | omega | (simp; done) | (simp; omega)) _))
        | true =>
          rw [hc1, hc2, if_pos ⟨rfl, rfl⟩, HSD.out hc1 hc2] at hse
          rw [hc2] at HI2
          have hax : 1 ≤ a ∧ a ≤ 4 := by unfold in14 at hc1; simpa using hc1
          have hgp := way_good HST.out.hom HST.out.len (by omega) (by omega) hax.1 (by omega) hc2
          have hpl := ptext_short hgp
          have htb := fun W (hb : Below w.heap.size w W) => specSendTables_any (.slice ra 4 rc) (.slice ha hn hc) s.rels s.homes 4 W (HSP.out.rows.below hb) HSQ.out (HSP.out.2.below hb) (by omega) (by omega) (by have := (homesOk_all HST.out.hom).2.1; omega)
          obtain ⟨T, hT⟩ : ∃ T, sendTabsF s.rels s.homes 4 = T := ⟨_, rfl⟩
          rw [hT] at hse hgp hpl htb
          obtain ⟨P, hP⟩ : ∃ P, wayF T a b = P := ⟨_, rfl⟩
          have hwy := fun W u (hu : TabsAt W u T) => specSendWay_any u T a b W hu
          rw [hP] at hse hgp hpl hwy
          obtain ⟨p, d⟩ := P
          simp only at hse hgp hpl
          unfold WayPost at hwy
          simp only at hwy
          have hpt := fun W u (hu : IntsAt W u p) => specPathText_any u p W hu hgp
          obtain ⟨t, ht⟩ : ∃ t, ptextF p = t := ⟨_, rfl⟩
          rw [ht] at hse hpl hpt
          unfold DecPost stV at hpt
          have ha1 := add_is t sHomeEnd (by simp [sHomeEnd]; omega)
          have ha2 := add_is t sLost (by simp [sLost]; omega)
          have HTB := Lib.hid htb
          have HWA := Lib.hid hwy
          have HPT := Lib.hid hpt
          have HSE := Lib.hid hse
          rw [show (⟨sHomeEnd.toArray⟩ : ByteArray) = ⟨#[32, 104, 111, 109, 101, 10]⟩ from rfl] at ha1
          rw [show (⟨sLost.toArray⟩ : ByteArray) = ⟨#[32, 108, 111, 115, 116, 10]⟩ from rfl] at ha2
          clear hse hc1 hc2 hax hgp htb hT hP hwy hpt ht
          go_wp2_with fail
          refine (HI1.out _).mono ?_
          rintro e w' ⟨rfl, rfl⟩
          go_wp2_with fail
          refine (HI2.out _).mono ?_
          rintro e w' ⟨rfl, rfl⟩
          go_wp2_with fail
          refine (HTB.out _ (by repeat (first | exact Below.refl _ _ | assumption | refine Below.drew ?_ | refine belowDrewN ?_ _ | refine Below.alloc ?_ (by first | exact Nat.le_refl _ | omega | (simp; done) | (simp; omega)) _ | refine Below.setCell ?_ (by first | exact Nat.le_refl _ | omega | (simp; done) | (simp; omega)) _))).mono ?_
          rintro e w2 ⟨v2, rfl, hT2, hb2⟩
          have HB2 : Hid (Below w.heap.size w w2) := Lib.hid (Below.trans (by repeat (first | exact Below.refl _ _ | assumption | refine Below.drew ?_ | refine belowDrewN ?_ _ | refine Below.alloc ?_ (by first | exact Nat.le_refl _ | omega | (simp; done) | (simp; omega)) _ | refine Below.setCell ?_ (by first | exact Nat.le_refl _ | omega | (simp; done) | (simp; omega)) _)) (hb2.mono (by simp)))
          have HT2 := Lib.hid hT2
          clear hT2 hb2
          go_wp2_with fail
          refine (HWA.out _ _ HT2.out.tabs).mono ?_
          rintro e w3 ⟨v3, rfl, hO3, hb3⟩
          have HB3 : Hid (Below w.heap.size w w3) := Lib.hid (HB2.out.trans (hb3.mono HB2.out.size))
          have HO3 := Lib.hid hO3
          clear hO3 hb3
          go_wp2_with fail
          refine (HPT.out _ _ HO3.out.ints).mono ?_
          rintro e w4 ⟨rfl, hb4⟩
          have HB4 : Hid (Below w.heap.size w w4) := Lib.hid (HB3.out.trans (hb4.mono HB3.out.size))
          clear hb4
          cases d with
          | true =>
            go_wp2_with fail
            refine bodyPost_ret (results_tmp2 rfl _ _ _) rfl ?_
            rw [HSE.out]
            exact ask_some rfl HB4.out
          | false =>
            go_wp2_with fail
            refine bodyPost_ret (results_tmp2 rfl _ _ _) rfl ?_
            rw [HSE.out]
            exact ask_some rfl HB4.out
    · have q6 : (w0 == [115, 101, 110, 100]) = false := beq_eq_false_iff_ne.2 g6
      by_cases g7 : w0 = sFree
      · subst g7
        have hse := HAS.out
        rw [if_neg (by decide), if_neg (by decide)] at hse
        first | rw [if_pos trivial] at hse | rw [if_pos rfl] at hse
        clear g5 q5 g6 q6
        have hro := fun W (hb : Below w.heap.size w W) => specRelsOrder_any (.slice ra 4 rc) s.rels W (HSP.out.rows.below hb) HSQ.out HST.out.rel
        unfold freeLine at hse
        cases hf : freeF s.rels with
        | false =>
          rw [hf, if_neg (by simp)] at hse
          rw [hf] at hro
          have HSE := Lib.hid hse
          have HRO := Lib.hid hro
          clear hse hro hf
          go_wp2_with fail
          refine (HRO.out _ (by repeat (first | exact Below.refl _ _ | assumption | refine Below.drew ?_ | refine belowDrewN ?_ _ | refine Below.alloc ?_ (by first | exact Nat.le_refl _ | omega | (simp; done) | (simp; omega)) _ | refine Below.setCell ?_ (by first | exact Nat.le_refl _ | omega | (simp; done) | (simp; omega)) _))).mono ?_
          rintro e w2 ⟨v2, rfl, _, hb2⟩
          have HB2 : Hid (Below w.heap.size w w2) := Lib.hid (Below.trans (by repeat (first | exact Below.refl _ _ | assumption | refine Below.drew ?_ | refine belowDrewN ?_ _ | refine Below.alloc ?_ (by first | exact Nat.le_refl _ | omega | (simp; done) | (simp; omega)) _ | refine Below.setCell ?_ (by first | exact Nat.le_refl _ | omega | (simp; done) | (simp; omega)) _)) (hb2.mono (by simp)))
          clear hb2
          go_wp2_with fail
          refine bodyPost_ret (results_tmp2 rfl _ _ _) rfl ?_
          rw [HSE.out]
          exact ask_some rfl HB2.out
        | true =>
          rw [hf, if_pos rfl] at hse
          rw [hf] at hro
          have hgp := order_good hf
          have hpl := ptext_short hgp
          obtain ⟨p, hp⟩ : ∃ p, relsOrderF s.rels = p := ⟨_, rfl⟩
          rw [hp] at hse hro hgp hpl
          have hpt := fun W u (hu : IntsAt W u p) => specPathText_any u p W hu hgp
          obtain ⟨t, ht⟩ : ∃ t, ptextF p = t := ⟨_, rfl⟩
          rw [ht] at hse hpl hpt
          unfold DecPost stV at hpt
          have ha1 := add_is t [10] (by simp; omega)
          rw [show (⟨[(10 : UInt8)].toArray⟩ : ByteArray) = ⟨#[10]⟩ from rfl] at ha1
          have HSE := Lib.hid hse
          have HRO := Lib.hid hro
          have HPT := Lib.hid hpt
          clear hse hro hf hgp hp hpt ht
          go_wp2_with fail
          refine (HRO.out _ (by repeat (first | exact Below.refl _ _ | assumption | refine Below.drew ?_ | refine belowDrewN ?_ _ | refine Below.alloc ?_ (by first | exact Nat.le_refl _ | omega | (simp; done) | (simp; omega)) _ | refine Below.setCell ?_ (by first | exact Nat.le_refl _ | omega | (simp; done) | (simp; omega)) _))).mono ?_
          rintro e w2 ⟨v2, rfl, hi2, hb2⟩
          have HB2 : Hid (Below w.heap.size w w2) := Lib.hid (Below.trans (by repeat (first | exact Below.refl _ _ | assumption | refine Below.drew ?_ | refine belowDrewN ?_ _ | refine Below.alloc ?_ (by first | exact Nat.le_refl _ | omega | (simp; done) | (simp; omega)) _ | refine Below.setCell ?_ (by first | exact Nat.le_refl _ | omega | (simp; done) | (simp; omega)) _)) (hb2.mono (by simp)))
          have HI2 := Lib.hid hi2
          clear hi2 hb2
          go_wp2_with fail
          refine (HPT.out _ _ HI2.out).mono ?_
          rintro e w4 ⟨rfl, hb4⟩
          have HB4 : Hid (Below w.heap.size w w4) := Lib.hid (HB2.out.trans (hb4.mono HB2.out.size))
          clear hb4
          go_wp2_with fail
          refine bodyPost_ret (results_tmp2 rfl _ _ _) rfl ?_
          rw [HSE.out]
          exact ask_some rfl HB4.out
      · have q7 : (w0 == [102, 114, 101, 101]) = false := beq_eq_false_iff_ne.2 g7
        have hse := HAS.out
        rw [if_neg g5, if_neg g6, if_neg g7] at hse
        have HSE := Lib.hid hse
        clear hse g5 g6 g7
        go_wp2_with fail
        refine bodyPost_ret (results_tmp2 rfl _ _ _) rfl ?_
        rw [HSE.out]
        exact ask_none rfl (by repeat (first | exact Below.refl _ _ | assumption | refine Below.drew ?_ | refine belowDrewN ?_ _ | refine Below.alloc ?_ (by first | exact Nat.le_refl _ | omega | (simp; done) | (simp; omega)) _ | refine Below.setCell ?_ (by first | exact Nat.le_refl _ | omega | (simp; done) | (simp; omega)) _))
end Go.Proofs.YtnecdeaikmhanaaGreatDoor
namespace Go.Proofs.YtnecdeaikmhanaaGreatDoor
open Go.RowKit
set_option linter.unusedVariables false
set_option maxRecDepth 100000
def StAt (W : World) (k : Nat) (s : LSt) : Prop := ∃ a1 n1 c1 a2 n2 c2, W.heap[k]? = some (.cells #[.slice a1 n1 c1, .slice a2 n2 c2] 43 (0, 0)) ∧ SpecAt W k (.slice a1 n1 c1) (.slice a2 n2 c2) s
theorem StAt.below {W W' : World} {k : Nat} {s : LSt} (h : StAt W k s) (hb : Below W.heap.size W W') : StAt W' k s := by
  obtain ⟨a1, n1, c1, a2, n2, c2, h1, h2⟩ := h
  exact ⟨a1, n1, c1, a2, n2, c2, (hb.block k (heap_lt h1)).trans h1, h2.below hb⟩
theorem StAt.store {W : World} {k : Nat} {s s' : LSt} {a1 a2 : Option Addr} {n1 c1 n2 c2 : Nat} (h : StAt W k s) (h2 : SpecAt W k (.slice a1 n1 c1) (.slice a2 n2 c2) s') : StAt ((W.setCell ⟨k, 0, none⟩ (.slice a1 n1 c1)).setCell ⟨k, 1, none⟩ (.slice a2 n2 c2)) k s' := by
  obtain ⟨b1, m1, d1, b2, m2, d2, h1, _⟩ := h
  have e1 := setCell_block (u := .slice a1 n1 c1) (i := 0) h1
  have e2 := setCell_block (u := .slice a2 n2 c2) (i := 1) e1
  obtain ⟨⟨lo, hi, hm, hk⟩, hE⟩ := h2
  have z0 : W.cell? ⟨k, 0, none⟩ = some (.slice b1 m1 d1) := by simp [World.cell?, h1]
  have z1 : (W.setCell ⟨k, 0, none⟩ (.slice a1 n1 c1)).cell? ⟨k, 1, none⟩ = some (.slice b2 m2 d2) := by
    rw [World.cell?_setCell_other _ _ _ _ (by simp)]; simp [World.cell?, h1]
  refine ⟨a1, n1, c1, a2, n2, c2, by simpa using e2, ⟨lo, hi, ?_, hk⟩, (hE.setSl z0 _).setSl z1 _⟩
  refine (hm.other (fun g cu T _ _ hg hg2 => Below.heap_setCell _ _ _ _ (by show g ≠ k; omega))).other (fun g cu T _ _ hg hg2 => Below.heap_setCell _ _ _ _ (by show g ≠ k; omega))
theorem StAt.cells {W : World} {k : Nat} {s : LSt} (h : StAt W k s) : ∃ a1 n1 c1 a2 n2 c2, W.cell? ⟨k, 0, none⟩ = some (.slice a1 n1 c1) ∧ W.cell? ⟨k, 1, none⟩ = some (.slice a2 n2 c2) ∧ W.frozen? ⟨k, 0, none⟩ = false ∧ W.frozen? ⟨k, 1, none⟩ = false ∧ k < W.heap.size ∧ SpecAt W k (.slice a1 n1 c1) (.slice a2 n2 c2) s := by
  obtain ⟨a1, n1, c1, a2, n2, c2, h1, h2⟩ := h
  exact ⟨a1, n1, c1, a2, n2, c2, by simp [World.cell?, h1], by simp [World.cell?, h1], by simp [World.frozen?, h1], by simp [World.frozen?, h1], heap_lt h1, h2⟩
set_option maxHeartbeats 16000000 in
theorem specLinesRun_any (l : Bs) (w : World) :
    Calls Tryz.prog 14 #[stV l] w fun e w' => e = .returned (stV (linesF l)) ∧ Below w.heap.size w w' := by
  obtain ⟨n, hn⟩ : ∃ n, l.length = n := ⟨_, rfl⟩
  have hsz : (⟨l.toArray⟩ : ByteArray).size = n := by rw [← hn]; simp [ByteArray.size]
  by_cases hlong : 500 < n
  · have hres : linesF l = sLong := by unfold linesF; rw [if_pos (by omega)]
    rw [hres]
    have hd : decide ((n : Int) > 500) = true := decide_eq_true (by omega)
    have hd' : (500 : Int) < (n : Int) := by omega
    obtain ⟨T, hT⟩ : ∃ T : ByteArray, (⟨l.toArray⟩ : ByteArray) = T := ⟨_, rfl⟩
    unfold stV
    rw [hT] at hsz ⊢
    clear hlong hres hn
    go_enter Tryz.func14, Tryz.ntmps14
    go_wp2_with fail
    go_ret
    exact ⟨rfl, Below.refl _ _⟩
  · have hres : linesF l = (runF (cutC 10 l).dropLast).2 ++ decF (runF (cutC 10 l).dropLast).1.homes.length ++ [10] := by unfold linesF; rw [if_neg (by omega)]
    rw [hres]
    have hd : decide ((n : Int) > 500) = false := decide_eq_false (by omega)
    have hnd : ¬ (500 : Int) < (n : Int) := by omega
    have hSP : ∀ W, Calls Tryz.prog 23 #[stV l, .int .u8 10] W fun e w' => ∃ v, e = .returned v ∧ StrNew w' W.heap.size v (cutC 10 l) ∧ Below W.heap.size W w' := fun W => cut_any 10 l (by omega) W
    have hCW : ∀ (p : Bs), p.length ≤ 500 → ∀ W, Calls Tryz.prog 23 #[stV p, .int .u8 32] W fun e w' => ∃ v, e = .returned v ∧ StrNew w' W.heap.size v (cutC 32 p) ∧ Below W.heap.size W w' := fun p hp W => cut_any 32 p (by omega) W
    have HSP := Lib.hid hSP
    have HCW := Lib.hid hCW
    have HL := Lib.hid hn
    have HNO := Lib.hid (none_any w)
    obtain ⟨T, hT⟩ : ∃ T : ByteArray, (⟨l.toArray⟩ : ByteArray) = T := ⟨_, rfl⟩
    unfold stV at HSP ⊢
    rw [hT] at hsz HSP ⊢
    clear hlong hres hn hSP hCW
    go_enter Tryz.func14, Tryz.ntmps14
    go_wp2_with fail
    refine HNO.out.mono ?_
    rintro e w1 ⟨v1, rfl, hM1, hb1⟩
    obtain ⟨a1, c1, rfl, _, _⟩ := hM1.form
    have HM1 := Lib.hid hM1
    have HB1 := Lib.hid hb1
    have z1 := hb1.size
    clear hM1 hb1
    go_wp2_with fail
    obtain ⟨W3, hW3⟩ : ∃ W3, (w1.alloc (.cells #[] 83)).alloc (.cells #[.slice a1 st0.rels.length c1, .slice (some ⟨w1.heap.size, 0, none⟩) 0 0] 43) = W3 := ⟨_, rfl⟩
    obtain ⟨k, hk⟩ : ∃ k, w1.heap.size + 1 = k := ⟨_, rfl⟩
    have hbA : Below w1.heap.size w1 W3 := by rw [← hW3]; repeat (first | exact Below.refl _ _ | assumption | refine Below.drew ?_ | refine belowDrewN ?_ _ | refine Below.alloc ?_ (by first | exact Nat.le_refl _ | omega | (simp; done) | (simp; omega)) _ | refine Below.setCell ?_ (by first | exact Nat.le_refl _ | omega | (simp; done) | (simp; omega)) _)
    have hst : StAt W3 k st0 := by
      refine ⟨a1, _, c1, some ⟨w1.heap.size, 0, none⟩, 0, 0, ?_, ⟨⟨_, _, HM1.out.below hbA, .inr (by omega)⟩, ?_⟩⟩
      · rw [← hW3, ← hk]
        have := heap_alloc_new (w1.alloc (.cells #[] 83)) (.cells #[.slice a1 st0.rels.length c1, .slice (some ⟨w1.heap.size, 0, none⟩) 0 0] 43)
        simpa using this
      · have := (HomNew.zero w1).ents
        rw [← hW3]
        exact this.below (Below.alloc (Below.refl _ _) (Nat.le_refl _) _)
    have hSR := HSP.out W3
    have HSR := Lib.hid hSR
    have HSTA := Lib.hid hst
    have HWW : Hid (Below w.heap.size w W3) := Lib.hid (HB1.out.trans (hbA.mono z1))
    have hkw : w.heap.size ≤ k := by omega
    rw [hW3, hk]
    clear hSR hst hbA hW3 hk
    refine HSR.out.mono ?_
    rintro e w5 ⟨v5, rfl, hS, hb5⟩
    obtain ⟨sa, sc, rfl, _, _⟩ := hS.form
    obtain ⟨L, hLL⟩ : ∃ L, cutC 10 l = L := ⟨_, rfl⟩
    have hcnt := cut_count 10 l
    have hpl := cut_len 10 l
    have hne := cutC_ne 10 l
    rw [hLL] at hS hcnt hpl hne ⊢
    obtain ⟨N, hN⟩ : ∃ N, L.length = N + 1 := ⟨L.length - 1, by have := List.length_pos_iff.2 hne; omega⟩
    rw [hN] at hS hcnt ⊢
    have hNn : N ≤ 500 := by have := HL.out; omega
    have hSA : StrsAt w5 (.slice sa (N + 1) sc) L := hS.strs
    obtain ⟨b, off, e, hb, _⟩ := hSA.get 0 (by omega)
    subst e
    have hbh : k < b := by
      have h1 := (World.ownsRow.lt hS b rfl).1
      have := heap_lt HSTA.out.choose_spec.choose_spec.choose_spec.choose_spec.choose_spec.choose_spec.1
      omega
    have HSA := Lib.hid hSA
    have HNL := Lib.hid hN
    have HPL := Lib.hid hpl
    have HLL := Lib.hid hLL
    have HST5 := Lib.hid (HSTA.out.below hb5)
    have HW5 : Hid (Below w.heap.size w w5) := Lib.hid (HWW.out.trans (hb5.mono HWW.out.size))
    clear hS hb5 hSA hN hpl hLL hcnt hne HM1 HB1 HSR HSTA HWW
    go_wp2_with fail
    go_loopg [4, 6] N (fun gk s4 s6 wr => ∃ j : Nat, s6 = .int .i64 (j : Int) ∧ j + gk = N ∧ s4 = .string ⟨(runF (L.take j)).2.toArray⟩ ∧ Hid (StAt wr k (runF (L.take j)).1) ∧ Hid (Within k (k + 1) w5 wr))
    case atStart => exact ⟨0, rfl, by omega, rfl, HST5, Lib.hid (Within.refl _ _ _)⟩
    case round =>
      clear HST5
      obtain ⟨j, rfl, hj, rfl, S, HWV⟩ := hrel
      have hRL := run_len (L.take j)
      have hSO := run_ok (L.take j)
      rw [List.length_take, HNL.out] at hRL
      have ew : IntKind.i64.wrap ((j : Int) + 1) = (j : Int) + 1 := IntWalk.i64_in _ (by omega)
      have HWr : Hid (Below w.heap.size w wr) := Lib.hid (HW5.out.trans (HWV.out.below hkw HW5.out.size))
      by_cases hjN : j < N
      · have hjI : (j : Int) + 1 < (N : Int) + 1 := by omega
        have hjI2 : (j : Int) < (N : Int) + 1 := by omega
        have hsucc := take_getD (L := L) (j := j) (by rw [HNL.out]; omega)
        obtain ⟨ln, hln⟩ : ∃ x, L.getD j [] = x := ⟨_, rfl⟩
        have hnext := runF_snoc (L.take j) ln
        rw [hln] at hsucc
        rw [← hsucc] at hnext
        obtain ⟨b', off', e, _, hcl⟩ := HSA.out.get j (by omega)
        simp only [Option.some.injEq, Addr.mk.injEq, and_true] at e
        obtain ⟨rfl, rfl⟩ := e
        rw [hln] at hcl
        have hcv : wr.cell? ⟨b, off + j, none⟩ = some (stV ln) := (HWV.out.cell (p := ⟨b, off + j, none⟩) hb (.inr (by show k + 1 ≤ b; omega))).trans hcl
        have hll : ln.length ≤ 500 := by rw [← hln]; exact Nat.le_trans (HPL.out j) (by rw [HL.out]; omega)
        have hcw := HCW.out ln hll wr
        obtain ⟨X, hX⟩ : ∃ X, runF (L.take j) = X := ⟨_, rfl⟩
        rw [hX] at S hRL hSO hnext ⊢
        obtain ⟨s, o⟩ := X
        have hol := out_len hSO ln
        unfold lineStep at hnext
        rw [exec_split] at hnext hol
        simp only at S hRL hSO hnext ⊢
        have hwne := cutC_ne 32 ln
        obtain ⟨ws, hws⟩ : ∃ ws, cutC 32 ln = ws := ⟨_, rfl⟩
        rw [hws] at hnext hol hcw hwne
        have HCC := Lib.hid hcw
        have HNX := Lib.hid hnext
        have HJ := Lib.hid hj
        have HSO := Lib.hid hSO
        have HWN := Lib.hid hwne
        have j0 : (0 : Int) ≤ (j : Int) := by omega
        clear hsucc hln hcl hX hcw hnext hj hSO hwne hws hll
        go_wp2_with fail
        refine HCC.out.mono ?_
        rintro e w7 ⟨v7, rfl, hS7, hb7⟩
        obtain ⟨a7, c7, rfl, _, _⟩ := hS7.form
        obtain ⟨n7, hn7⟩ : ∃ n7, ws.length = n7 := ⟨_, rfl⟩
        rw [hn7] at hS7 ⊢
        have HS7 := Lib.hid hS7.strs
        have S7 := Lib.hid (S.out.below hb7)
        have HW7 : Hid (Within k (k + 1) w5 w7) := Lib.hid (HWV.out.trans (Within.of_below hb7))
        obtain ⟨r1, rn1, rc1, h1, hn1, hc1, y0, y1, y2, y3, y4, hSP7⟩ := S7.out.cells
        have hset := set_any k _ _ _ s ws w7 y4 hSP7 (by have := HS7.out; exact this) HWN.out HSO.out
        have HSET := Lib.hid hset
        have HSP7 := Lib.hid hSP7
        clear hS7 hb7 S hSP7 hset hn7
        go_wp2_with fail
        refine HSET.out.mono ?_
        rintro e w8 ⟨rv8, hv8, rfl, ⟨ra8, rn8, rc8, rfl⟩, ⟨ha8, hn8, hc8, rfl⟩, hs8, hb8⟩
        have HS8 := Lib.hid hs8
        have S8 := Lib.hid (S7.out.below hb8)
        have HSP8 := Lib.hid (HSP7.out.below hb8)
        have HST8 := Lib.hid (HS7.out.below hb8)
        have HW8 : Hid (Within k (k + 1) w5 w8) := Lib.hid (HW7.out.trans (Within.of_below hb8))
        have hk8 : k < w8.heap.size := by have := hb8.size; omega
        have hkn8 : ¬ k = w8.heap.size := by omega
        have hnk8 : ¬ w8.heap.size = k := by omega
        have u0 := (hb8.cell (p := ⟨k, 0, none⟩) y4).trans y0
        have u1 := (hb8.cell (p := ⟨k, 1, none⟩) y4).trans y1
        have u2 := (hb8.frozen (p := ⟨k, 0, none⟩) y4).trans y2
        have u3 := (hb8.frozen (p := ⟨k, 1, none⟩) y4).trans y3
        clear hs8 hb8 y0 y1 y2 y3 y4
        cases hso : setF s ws with
        | some s' =>
          have hdone : doneF s ws = (s', []) := by unfold doneF; rw [hso]
          rw [hdone] at HNX
          rw [hso] at HS8
          have hsp := HS8.out s' rfl
          have HSPN := Lib.hid hsp
          clear hdone hsp hso
          go_wp2_with fail
          go_roundg (N - (j + 1))
          case measure => have := HJ.out; omega
          case rel =>
            have zs := StAt.store S8.out HSPN.out
            exact ⟨j + 1, by go_num, by omega, by rw [HNX.out]; simp, Lib.hid (by rw [HNX.out]; exact zs.below (Below.alloc (Below.refl _ _) (Nat.le_refl _) _)),
              Lib.hid (((HW8.out.setCell (p := ⟨k, 0, none⟩) (Nat.le_refl _) (Nat.lt_succ_self _) _).setCell (p := ⟨k, 1, none⟩) (Nat.le_refl _) (Nat.lt_succ_self _) _).trans (Within.of_below (Below.alloc (Below.refl _ _) (Nat.le_refl _) _)))⟩
        | none =>
          have hdone : doneF s ws = (s, (askF s ws).getD sWhat) := by unfold doneF; rw [hso]
          rw [hdone] at HNX hol
          obtain ⟨W9, hW9⟩ : ∃ W9, w8.alloc (.cells #[.slice ra8 rn8 rc8, .slice ha8 hn8 hc8] 43) = W9 := ⟨_, rfl⟩
          have hb9 : Below w8.heap.size w8 W9 := by rw [← hW9]; repeat (first | exact Below.refl _ _ | assumption | refine Below.drew ?_ | refine belowDrewN ?_ _ | refine Below.alloc ?_ (by first | exact Nat.le_refl _ | omega | (simp; done) | (simp; omega)) _ | refine Below.setCell ?_ (by first | exact Nat.le_refl _ | omega | (simp; done) | (simp; omega)) _)
          have hask := ask_any k _ _ _ s ws W9 (HSP8.out.below hb9) (HST8.out.below hb9) HWN.out HSO.out
          have HASK := Lib.hid hask
          have S9 := Lib.hid (S8.out.below hb9)
          have HW9 : Hid (Within k (k + 1) w5 W9) := Lib.hid (HW8.out.trans (Within.of_below hb9))
          have v0 := (hb9.cell (p := ⟨k, 0, none⟩) hk8).trans u0
          have v1 := (hb9.cell (p := ⟨k, 1, none⟩) hk8).trans u1
          simp only at hol
          cases hak : askF s ws with
          | some an =>
            rw [hak] at HNX HASK hol
            simp only [Option.getD_some] at HNX hol
            have hadd := add_is o an (by omega)
            have HAD := Lib.hid hadd
            clear hdone hso hask hb9 u0 u1 u2 u3 hak hadd hol HS8
            go_wp2_with fail
            refine HASK.out.mono ?_
            rintro e w10 ⟨rfl, hb10⟩
            have hadd := HAD.out
            go_wp2_with fail
            go_roundg (N - (j + 1))
            case measure => have := HJ.out; omega
            case rel => exact ⟨j + 1, by go_num, by omega, by rw [HNX.out], Lib.hid (by rw [HNX.out]; exact S9.out.below hb10), Lib.hid (HW9.out.trans (Within.of_below hb10))⟩
          | none =>
            rw [hak] at HNX HASK hol
            simp only [Option.getD_none] at HNX hol
            have hadd := add_is o sWhat (by omega)
            rw [show (⟨sWhat.toArray⟩ : ByteArray) = ⟨#[119, 104, 97, 116, 10]⟩ from rfl] at hadd
            have HAD := Lib.hid hadd
            clear hdone hso hask hb9 u0 u1 u2 u3 hak hadd hol HS8
            go_wp2_with fail
            refine HASK.out.mono ?_
            rintro e w10 ⟨rfl, hb10⟩
            have hadd := HAD.out
            go_wp2_with fail
            go_roundg (N - (j + 1))
            case measure => have := HJ.out; omega
            case rel => exact ⟨j + 1, by go_num, by omega, by rw [HNX.out], Lib.hid (by rw [HNX.out]; exact S9.out.below hb10), Lib.hid (HW9.out.trans (Within.of_below hb10))⟩
      · obtain rfl : j = N := by omega
        have hdl : L.take j = L.dropLast := by rw [List.dropLast_eq_take, HNL.out]; simp
        rw [hdl] at S hRL hSO ⊢
        obtain ⟨X, hX⟩ : ∃ X, runF L.dropLast = X := ⟨_, rfl⟩
        have HX := Lib.hid hX
        rw [hX] at S hRL hSO ⊢
        obtain ⟨s, o⟩ := X
        simp only at S hRL hSO ⊢
        obtain ⟨r1, rn1, rc1, h1, hn1, hc1, y0, y1, y2, y3, y4, hSP⟩ := S.out.cells
        obtain ⟨_, _, e, _, _⟩ := hSP.2.form
        simp only [Value.slice.injEq] at e
        obtain ⟨_, e2, _⟩ := e
        have h4 := (homesOk_all hSO.hom).2.1
        have hdec := fun W => dec_any s.homes.length (by omega) W
        have HE2 := Lib.hid e2
        rw [← e2] at hdec
        obtain ⟨D, hD⟩ : ∃ D, decF hn1 = D := ⟨_, rfl⟩
        have hDl : D.length ≤ 3 := by rw [← hD]; exact (decF_len hn1).2
        have HDD := Lib.hid hD
        rw [hD] at hdec
        unfold DecPost stV at hdec
        have ha1 := add_is o D (by omega)
        have ha2 := add_is (o ++ D) [10] (by simp; omega)
        rw [show (⟨[(10 : UInt8)].toArray⟩ : ByteArray) = ⟨#[10]⟩ from rfl] at ha2
        have HDC := Lib.hid hdec
        have HA1 := Lib.hid ha1
        have HA2 := Lib.hid ha2
        clear hdec hD hDl h4 e2 hSP hRL hSO hX hdl hj S ha1 ha2
        go_wp2_with fail
        refine (HDC.out _).mono ?_
        rintro e w' ⟨rfl, hb'⟩
        have ha1 := HA1.out
        have ha2 := HA2.out
        have HBB : Hid (Below w.heap.size w w') := Lib.hid (HWr.out.trans (hb'.mono HWr.out.size))
        clear hb'
        go_wp2_with fail
        go_ret
        exact ⟨by rw [HLL.out, HX.out, ← HE2.out, HDD.out, List.append_assoc]; rfl, HBB.out⟩
end Go.Proofs.YtnecdeaikmhanaaGreatDoor
namespace Go.Proofs.YtnecdeaikmhanaaGreatDoor
open Go.ChangeShapes Go.WideShapes Go.ChangeAt Go.RowKit
set_option linter.unusedVariables false
theorem handed_and_shaped {H : Type} {enc : TypeId × Value → H} {a : Assume} {C : Checked} {os : Os} {f : FuncId} {fn : Func} {s : ChangeSpec} {conds : List PathCond} {apart fresh handsOn again : Bool} {X : World → Array Value → Prop}
    (hX : ∀ (w w' : World) (args : Array Value), w.heap = w'.heap → X w args → X w' args)
    (own : ownKnob C.prog.godebug = none) (started : os.Started) (noInit : C.prog.inits.idxOf? f = none) (hfn : C.prog.funcs[f]? = some fn)
    (witness : ∃ (w : World) (tape : Tape) (i : Input), w.os = os ∧ (w.forCall tape i).Shaped C.prog ∧ i.vars = [] ∧ Input.okWide C.prog (w.forCall tape i) .any w.heap.size f i ∧
      ((s.pre enc C.prog fn conds apart (w.forCall tape i).memory i.args ∧ X (w.forCall tape i).memory i.args) ∧ sizedMet enc C.prog fn (OpenSpec.ofChange s) apart (w.forCall tape i).memory i.args) ∧ a.holds C.prog (lone (Frame.enter C.prog f i.args .normal) [] (w.forCall tape i)))
    (contract : ∀ (W : World) (base : Nat) (args : Array Value) (ds gs : List (DataW H)) (before : List MemPlace),
      (∀ (j : Nat) t v, fn.params[j]? = some t → args[j]? = some v → Value.okWide C.prog W .any base t v) →
      DataW.Whole enc C.prog fn.params.toList s.vars apart W args.toList ds gs before → W.ShapedOpen C.prog → X W args →
      Calls C.prog f args W fun e W' => ∃ v, e = .returned v ∧ s.post enc C.prog fn apart fresh handsOn again W args v W') :
    ReturnsInHanded a C os f .any (fun w args => (s.pre enc C.prog fn conds apart w args ∧ X w args) ∧ sizedMet enc C.prog fn (OpenSpec.ofChange s) apart w args) (s.post enc C.prog fn apart fresh handsOn again) := by
  refine returnsInHanded_of_calls own started noInit witness ?_
  intro w tape i _ hsh _ hok hpre hholds
  obtain ⟨_, _, _, fn', hfn', _, _, _, _, hval⟩ := hok
  have e : fn' = fn := Option.some.inj (hfn'.symm.trans hfn)
  subst e
  obtain ⟨⟨⟨ds, gs, before, hw, hc⟩, hx⟩, hz⟩ := hpre
  refine (contract (w.forCall tape i) w.heap.size i.args ds gs before hval (DataW.Whole.of_heap (w' := w.forCall tape i) (by rfl) hw) hsh (hX _ _ _ (by rfl) hx)).mono fun e W' ⟨v, he, hp⟩ => ?_
  subst he
  exact ChangeSpec.post_blind hp
theorem gErr : Tryz.prog.globalNamed "loop.example/wayboard/impl.errPath" = some 1 := by kernel_rfl
theorem gErrType : (Tryz.prog.globals[1]?).map (·.type) = some 133 := by kernel_rfl
theorem gSynType : (Tryz.prog.globals[7]?).map (·.type) = some 133 := by kernel_rfl
theorem gRngType : (Tryz.prog.globals[8]?).map (·.type) = some 133 := by kernel_rfl
theorem gTabType : (Tryz.prog.globals[2]?).map (·.type) = some 165 := by kernel_rfl
theorem cellsE : Tryz.prog.cellsOf 213 = 1 := by kernel_rfl
theorem cellsS : Tryz.prog.cellsOf 9 = 1 := by kernel_rfl
theorem cellsU : Tryz.prog.cellsOf 142 = 1 := by kernel_rfl
theorem cellsT : Tryz.prog.cellsOf 165 = 20 := by kernel_rfl
theorem star : "*" ++ "errors.errorString" = "*errors.errorString" := by decide
theorem rowE (u : TypeId) (h : Tryz.prog.typeName? 3 u = some "*errors.errorString") : u = 211 :=
  typeName_ptr_named (nm := "errors.errorString") (by rw [star]; kernel_rfl) (by kernel_rfl) (by decide) u (by rw [star]; exact h)
theorem max_some {W : World} (h : W.ShapedOpen Tryz.prog) : ∃ m, W.cell? ⟨0, 0, none⟩ = some (.int .i64 m) :=
  cell_of_shapedOpen_int (t := 3) (zero := #[.int .i64 0]) h (by decide +kernel) (by kernel_rfl) rfl (by kernel_rfl) (by kernel_rfl) Tryz.underlying3
def laidL : List (String × DataW Unit) := [("math/bits.deBruijn32tab", Rows.laid_math_bits_deBruijn32tab), ("math/bits.deBruijn64tab", Rows.laid_math_bits_deBruijn64tab), ("internal/strconv.uint64pow10", Rows.laid_internal_strconv_uint64pow10), ("unicode/utf8.acceptRanges", Rows.laid_unicode_utf8_acceptRanges), ("strconv.ErrRange", Rows.laid_strconv_ErrRange), ("strconv.ErrSyntax", Rows.laid_strconv_ErrSyntax), ("loop.example/wayboard/impl.errPath", Rows.laid_loop_example_wayboard_impl_errPath), ("unicode/utf8.first", Rows.laid_unicode_utf8_first)]
theorem pow_is : (Rows.laid_internal_strconv_uint64pow10 : DataW Unit) = Lib.tabData .u64 Lib.pow10Tab := by rfl
theorem env_of {W : World} (hL0 : laidMetH Tryz.prog laidL W) (hsh : W.ShapedOpen Tryz.prog) : EnvOk W ∧ ∃ a : Addr, W.var? Tryz.prog "loop.example/wayboard/impl.errPath" = some #[.iface 211 (.pointer (some a))] := by
  rw [MakeChecks.laidMetH_plain _ _ _ (by kernel_rfl)] at hL0
  have h1 := laidMet.tail (laidMet.tail hL0)
  rw [pow_is] at h1
  have hT : Lib.TabIs Tryz.prog W "internal/strconv.uint64pow10" .u64 Lib.pow10Tab := Lib.tabIs_of_head gTab gTabType Tryz.underlying165 Tryz.underlying142 cellsU cellsT h1
  have h2 := laidMet.tail (laidMet.tail h1)
  obtain ⟨a1, _, v1, _⟩ := laid_sentinel h2 gRng gRngType Tryz.underlying133 rowE Tryz.underlying211 Tryz.underlying213 rfl rfl Tryz.underlying9 cellsE cellsS
  have h3 := laidMet.tail h2
  obtain ⟨a2, _, v2, _⟩ := laid_sentinel h3 gSyn gSynType Tryz.underlying133 rowE Tryz.underlying211 Tryz.underlying213 rfl rfl Tryz.underlying9 cellsE cellsS
  have h4 := laidMet.tail h3
  obtain ⟨a3, _, v3, _⟩ := laid_sentinel h4 gErr gErrType Tryz.underlying133 rowE Tryz.underlying211 Tryz.underlying213 rfl rfl Tryz.underlying9 cellsE cellsS
  exact ⟨⟨⟨a3, by simpa using World.var?_cell gErr v3 0⟩, max_some hsh, hT, ⟨_, _, v2⟩, ⟨_, _, v1⟩⟩, a3, v3⟩
theorem laid_met (os : Os) (args : Array Value) : laidMetH Tryz.prog laidL ((World.laidAll Tryz.prog os laidL).forCall (fun _ _ => 0) ⟨#[], args, []⟩).memory := by
  rw [MakeChecks.laidMetH_plain _ _ _ (by kernel_rfl)]
  exact laidMet_laidAll _ (by kernel_rfl) (by kernel_rfl)
theorem laid_shaped (os : Os) : (World.laidAll Tryz.prog os laidL).Shaped Tryz.prog := World.shaped_of_ZipB (by kernel_rfl) (by kernel_rfl)
theorem varBelow {P : Program} {W W' : World} {n : String} {cs : Array Value} (h : W.var? P n = some cs) (hb : Below W.heap.size W W') : W'.var? P n = some cs := by
  unfold World.var? at h ⊢
  cases hg : P.globalNamed n with
  | none => simp [hg] at h
  | some g =>
    simp only [hg, Option.bind_some] at h ⊢
    have hlt : g < W.heap.size := by
      rcases Nat.lt_or_ge g W.heap.size with h' | h'
      · exact h'
      · simp [Array.getElem?_eq_none h'] at h
    rw [hb.block g hlt]; exact h
end Go.Proofs.YtnecdeaikmhanaaGreatDoor
