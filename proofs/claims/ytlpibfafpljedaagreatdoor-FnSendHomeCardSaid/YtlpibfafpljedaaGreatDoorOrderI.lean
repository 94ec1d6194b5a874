/- Plain: the order of houses, customers ahead of providers. No program here. The program's order of houses, customers ahead of providers. -/
import Derived.Test.YtlpibfafpljedaaGreatDoorHomeP
import Derived.Test.YtlpibfafpljedaaGreatDoorNetE
import Derived.Test.YtlpibfafpljedaaGreatDoorIntSS
namespace Go.Proofs.YtlpibfafpljedaaGreatDoor
set_option linter.unusedVariables false

/-- all customers of a house from 1 to m stand there -/
def custsF (rs : List (List Int)) (out : List Int) (h : Int) (m : Nat) : Bool := (List.range m).all fun c => !decide (ofF rs h ((c : Int) + 1) = 1) || decide ((c : Int) + 1 ∈ out)
theorem custsF_succ (rs : List (List Int)) (out : List Int) (h : Int) (m : Nat) : custsF rs out h (m + 1) = (custsF rs out h m && (!decide (ofF rs h ((m : Int) + 1) = 1) || decide ((m : Int) + 1 ∈ out))) := by
  unfold custsF
  rw [List.range_succ, List.all_append]
  simp
theorem custsF_cut {rs : List (List Int)} {out : List Int} {h : Int} {m n : Nat} (hm : m < n) (h1 : ofF rs h ((m : Int) + 1) = 1) (h2 : ((m : Int) + 1) ∉ out) : custsF rs out h n = false := by
  unfold custsF
  rw [List.all_eq_false]
  exact ⟨m, List.mem_range.2 hm, by simp [h1, h2]⟩
def readyF (rs : List (List Int)) (n : Nat) (out : List Int) (h : Int) : Bool := !decide (h ∈ out) && custsF rs out h n
/-- the least house of the first m that can stand -/
def leastF (rs : List (List Int)) (n : Nat) (out : List Int) (m : Nat) : Option Nat := (List.range m).find? fun i => readyF rs n out ((i : Int) + 1)
theorem leastF_zero (rs : List (List Int)) (n : Nat) (out : List Int) : leastF rs n out 0 = none := rfl
theorem leastF_none {rs : List (List Int)} {n : Nat} {out : List Int} {m : Nat} (h : ∀ i, i < m → readyF rs n out ((i : Int) + 1) = false) : leastF rs n out m = none := by
  unfold leastF
  rw [List.find?_eq_none]
  intro i hi
  rw [h i (List.mem_range.1 hi)]
  simp
theorem leastF_some {rs : List (List Int)} {n : Nat} {out : List Int} {m i : Nat} (hi : i < m) (hr : readyF rs n out ((i : Int) + 1) = true) (h : ∀ k, k < i → readyF rs n out ((k : Int) + 1) = false) : leastF rs n out m = some i := by
  unfold leastF
  obtain ⟨d, rfl⟩ : ∃ d, m = i + (d + 1) := ⟨m - i - 1, by omega⟩
  have e : List.range (i + (d + 1)) = List.range i ++ (List.range (d + 1)).map (i + ·) := List.range_add
  rw [e, List.find?_append]
  have e0 : (List.range i).find? (fun k : Nat => readyF rs n out ((k : Int) + 1)) = none := by
    rw [List.find?_eq_none]
    intro k hk
    rw [h k (List.mem_range.1 hk)]
    simp
  rw [e0, List.range_succ_eq_map]
  simp [hr]
theorem leastF_is {rs : List (List Int)} {n : Nat} {out : List Int} {m i : Nat} (h : leastF rs n out m = some i) : i < m ∧ readyF rs n out ((i : Int) + 1) = true := by
  unfold leastF at h
  exact ⟨List.mem_range.1 (List.mem_of_find?_eq_some h), by simpa using List.find?_some h⟩
def ordStep (rs : List (List Int)) (n : Nat) (out : List Int) : List Int := match leastF rs n out n with
  | some i => out ++ [(i : Int) + 1]
  | none => out
def ordTo (rs : List (List Int)) (n k : Nat) : List Int := (List.range k).foldl (fun out _ => ordStep rs n out) []
theorem ordTo_succ (rs : List (List Int)) (n k : Nat) : ordTo rs n (k + 1) = ordStep rs n (ordTo rs n k) := foldl_range_succ _ _ _
theorem ordStep_some {rs : List (List Int)} {n : Nat} {out : List Int} {i : Nat} (h : leastF rs n out n = some i) : ordStep rs n out = out ++ [(i : Int) + 1] := by unfold ordStep; rw [h]
theorem ordStep_none {rs : List (List Int)} {n : Nat} {out : List Int} (h : leastF rs n out n = none) : ordStep rs n out = out := by unfold ordStep; rw [h]
theorem ordTo_stuck {rs : List (List Int)} {n k : Nat} (h : leastF rs n (ordTo rs n k) n = none) : ∀ d, ordTo rs n (k + d) = ordTo rs n k
  | 0 => rfl
  | d + 1 => by rw [← Nat.add_assoc, ordTo_succ, ordTo_stuck h d, ordStep_none h]
theorem ordTo_len (rs : List (List Int)) (n : Nat) : ∀ k, (ordTo rs n k).length ≤ k
  | 0 => by simp [ordTo]
  | k + 1 => by
    rw [ordTo_succ]
    have := ordTo_len rs n k
    cases h : leastF rs n (ordTo rs n k) n with
    | none => rw [ordStep_none h]; omega
    | some i => rw [ordStep_some h]; simp; omega
/-- houses of an order: each once, from 1 to n -/
theorem ordTo_in (rs : List (List Int)) (n : Nat) : ∀ k, (∀ z, z ∈ ordTo rs n k → 1 ≤ z ∧ z ≤ (n : Int)) ∧ (ordTo rs n k).Nodup
  | 0 => by simp [ordTo]
  | k + 1 => by
    obtain ⟨h1, h2⟩ := ordTo_in rs n k
    rw [ordTo_succ]
    cases h : leastF rs n (ordTo rs n k) n with
    | none => rw [ordStep_none h]; exact ⟨h1, h2⟩
    | some i =>
      rw [ordStep_some h]
      obtain ⟨hi, hr⟩ := leastF_is h
      unfold readyF at hr
      simp only [Bool.and_eq_true, Bool.not_eq_true', decide_eq_false_iff_not] at hr
      refine ⟨fun z hz => ?_, ?_⟩
      · rcases List.mem_append.1 hz with hz | hz
        · exact h1 z hz
        · rw [List.mem_singleton] at hz; omega
      · rw [List.nodup_append]
        exact ⟨h2, by simp, fun a ha b hb => by rw [List.mem_singleton] at hb; subst hb; intro e; subst e; exact hr.1 ha⟩
end Go.Proofs.YtlpibfafpljedaaGreatDoor

namespace Go.Proofs.YtlpibfafpljedaaGreatDoor
open Go.RowKit Go.Maps
set_option linter.unusedVariables false
set_option maxRecDepth 100000

/-- what the order carries: the relations in a box, and behind it the houses so far -/
structure OrdS (w0 W : World) (B n : Nat) (out : List Int) (ov : Value) : Prop where
  bel : Below w0.heap.size w0 W
  hR : W.heap[w0.heap.size]? = some (.cells #[.int .i64 (n : Int), .map (some B)] 55 (0, 0))
  hO : W.heap[w0.heap.size + 1]? = some (.cells #[ov] 37 (0, 0))
  own : OwnInts W (w0.heap.size + 2) ov out
theorem OrdS.below {w0 W W' : World} {B n : Nat} {out : List Int} {ov : Value} (h : OrdS w0 W B n out ov) (hb : Below W.heap.size W W') : OrdS w0 W' B n out ov :=
  ⟨h.bel.trans (hb.mono h.bel.size), (hb.block _ (heap_lt h.hR)).trans h.hR, (hb.block _ (heap_lt h.hO)).trans h.hO, h.own.below hb⟩
theorem OrdS.size {w0 W : World} {B n : Nat} {out : List Int} {ov : Value} (h : OrdS w0 W B n out ov) : w0.heap.size + 2 ≤ W.heap.size := heap_lt h.hO
theorem block_new (w : World) (o : Obj) : (w.alloc o).heap[w.heap.size]? = some o := Array.getElem?_push_size ..
theorem OrdS.start (w : World) (B n : Nat) : OrdS w ((w.alloc (.cells #[.int .i64 (n : Int), .map (some B)] 55)).alloc (.cells #[.slice none 0 0] 37)) B n [] (.slice none 0 0) := by
  have hs : (w.alloc (.cells #[.int .i64 (n : Int), .map (some B)] 55)).heap.size = w.heap.size + 1 := World.size_alloc _ _
  have hb1 : Below w.heap.size w (w.alloc (.cells #[.int .i64 (n : Int), .map (some B)] 55)) := Below.alloc (Below.refl _ _) (Nat.le_refl _) _
  refine ⟨Below.alloc hb1 (by rw [hs]; omega) _, ?_, ?_, OwnInts.nil _ _⟩
  · have hb2 : Below (w.alloc (.cells #[.int .i64 (n : Int), .map (some B)] 55)).heap.size (w.alloc (.cells #[.int .i64 (n : Int), .map (some B)] 55)) ((w.alloc (.cells #[.int .i64 (n : Int), .map (some B)] 55)).alloc (.cells #[.slice none 0 0] 37)) := Below.alloc (Below.refl _ _) (Nat.le_refl _) _
    rw [hb2.block w.heap.size (by rw [hs]; omega)]
    exact block_new _ _
  · rw [← hs]
    exact block_new _ _
theorem OrdS.cells {w0 W : World} {B n : Nat} {out : List Int} {ov : Value} (h : OrdS w0 W B n out ov) : W.cell? ⟨w0.heap.size, 0, none⟩ = some (.int .i64 (n : Int)) ∧ W.cell? ⟨w0.heap.size, 1, none⟩ = some (.map (some B)) ∧ W.cell? ⟨w0.heap.size + 1, 0, none⟩ = some ov := by
  obtain ⟨_, h1, h2, _⟩ := h
  exact ⟨by simp [World.cell?, h1], by simp [World.cell?, h1], by simp [World.cell?, h2]⟩
theorem OrdS.push {w0 W w4 : World} {B n : Nat} {out out' : List Int} {ov ov' : Value} (h : OrdS w0 W B n out ov) (ho : OwnInts w4 (w0.heap.size + 2) ov' out') (hb : Below (w0.heap.size + 2) W w4) : OrdS w0 (w4.setCell ⟨w0.heap.size + 1, 0, none⟩ ov') B n out' ov' := by
  have e1 : w4.heap[w0.heap.size]? = some (.cells #[.int .i64 (n : Int), .map (some B)] 55 (0, 0)) := (hb.block _ (by omega)).trans h.hR
  have e2 : w4.heap[w0.heap.size + 1]? = some (.cells #[ov] 37 (0, 0)) := (hb.block _ (by omega)).trans h.hO
  have hg : w4.grownBy (w4.setCell ⟨w0.heap.size + 1, 0, none⟩ ov') (some (w0.heap.size + 1)) := grown_set (Below.refl _ _)
  refine ⟨Below.setCell (h.bel.trans (hb.mono (by omega))) (by show w0.heap.size ≤ w0.heap.size + 1; omega) _, ?_, ?_, OwnInts.kept (g := w0.heap.size + 1) ho hg⟩
  · rw [hg.block _ (heap_lt e1) (by simp)]; exact e1
  · have := setCell_block (i := 0) (u := ov') e2
    simpa using this
theorem OrdS.free {w0 W w4 : World} {B n : Nat} {out : List Int} {ov : Value} (h : OrdS w0 W B n out ov) (hb : Below (w0.heap.size + 2) W w4) : w4.cell? ⟨w0.heap.size + 1, 0, none⟩ = some ov ∧ w4.frozen? ⟨w0.heap.size + 1, 0, none⟩ = false := by
  have e2 : w4.heap[w0.heap.size + 1]? = some (.cells #[ov] 37 (0, 0)) := (hb.block _ (by omega)).trans h.hO
  exact ⟨by simp [World.cell?, e2], frozen_of_row w4 _ 0 _ _ e2⟩
def ReadyS (W : World) (O R B n : Nat) (rs : List (List Int)) (out : List Int) : Prop :=
  ∃ ov, W.cell? ⟨R, 0, none⟩ = some (.int .i64 (n : Int)) ∧ W.cell? ⟨R, 1, none⟩ = some (.map (some B)) ∧ W.cell? ⟨O, 0, none⟩ = some ov ∧ IntsAt W ov out ∧ RelB W B n rs
set_option maxHeartbeats 4000000 in
theorem ready_any (O R B n i : Nat) (rs : List (List Int)) (out : List Int) (w : World) (h : ReadyS w O R B n rs out) (hn : n ≤ 5) (hi : i < n) :
    Calls Tryz.prog 64 #[.int .i64 ((i : Int) + 1), .pointer (some ⟨O, 0, none⟩), .pointer (some ⟨R, 0, none⟩)] w fun e w' => e = .returned (.bool (readyF rs n out ((i : Int) + 1))) ∧ Below w.heap.size w w' := by
  obtain ⟨ov, c0, c1, c2, hI, hB⟩ := h
  obtain ⟨oa, oc, rfl, _, _⟩ := hI.form
  have hct := fun x W (hW : Below w.heap.size w W) => contains_any (.slice oa out.length oc) out x W (hI.below hW)
  have hof := fun y W (hW : Below w.heap.size w W) (h1 : 1 ≤ y) (h2 : y ≤ (n : Int)) => of_any (n : Int) B n rs ((i : Int) + 1) y W (hB.below hW) (by omega) (by omega) (by omega) h1 h2
  have hcell := fun W (hW : Below w.heap.size w W) => (show W.cell? ⟨R, 0, none⟩ = some (.int .i64 (n : Int)) ∧ W.cell? ⟨R, 1, none⟩ = some (.map (some B)) ∧ W.cell? ⟨O, 0, none⟩ = some (.slice oa out.length oc) from ⟨(hW.cell (p := ⟨R, 0, none⟩) (cell_lt c0)).trans c0, (hW.cell (p := ⟨R, 1, none⟩) (cell_lt c1)).trans c1, (hW.cell (p := ⟨O, 0, none⟩) (cell_lt c2)).trans c2⟩)
  have HCT := Lib.hid hct
  have HOF := Lib.hid hof
  have HCE := Lib.hid hcell
  clear hct hof hcell hI hB
  unfold readyF
  obtain ⟨m, hm⟩ : ∃ b, decide ((i : Int) + 1 ∈ out) = b := ⟨_, rfl⟩
  have hfst := HCT.out ((i : Int) + 1) w (Below.refl _ _)
  rw [hm] at hfst ⊢
  have HF := Lib.hid hfst
  clear hm hfst
  go_enter Tryz.func64, Tryz.ntmps64
  go_wp2_with fail
  refine HF.out.mono ?_
  rintro e w1 ⟨rfl, rfl⟩
  cases m
  · go_wp2_with fail
    go_loopg [5] n (fun gk s5 wr => ∃ c : Nat, s5 = .int .i64 ((c : Int) + 1) ∧ c + gk = n ∧ Hid (custsF rs out ((i : Int) + 1) c = true) ∧ Hid (Below w1.heap.size w1 wr))
    case atStart => exact ⟨0, by go_num, by omega, Lib.hid rfl, Lib.hid (Below.refl _ _)⟩
    case round =>
      obtain ⟨c, rfl, hc, HC, B⟩ := hrel
      obtain ⟨x0, x1, x2⟩ := HCE.out wr B.out
      clear c0 c1 c2
      by_cases hg : gk = 0
      · subst hg
        obtain rfl : c = n := by omega
        have hdn : decide ((c : Int) + 1 ≤ (c : Int)) = false := decide_eq_false (by omega)
        go_wp2_with fail
        go_ret
        exact ⟨by rw [HC.out]; rfl, B.out⟩
      · have hcn : c < n := by omega
        have hcI : (c : Int) + 1 ≤ (n : Int) := by omega
        have hgk : 1 ≤ gk := by omega
        have hs := custsF_succ rs out ((i : Int) + 1) c
        rw [HC.out] at hs
        have HOC := Lib.hid (HOF.out ((c : Int) + 1) wr B.out (by omega) hcI)
        obtain ⟨r, hr⟩ : ∃ r, ofF rs ((i : Int) + 1) ((c : Int) + 1) = r := ⟨_, rfl⟩
        have HCUT := Lib.hid (fun h2 => custsF_cut (rs := rs) (out := out) (h := (i : Int) + 1) hcn (h2 := h2))
        have hcut := HCUT.out
        rw [hr] at HOC hs hcut
        have HCU := Lib.hid hcut
        have HSU := Lib.hid hs
        have HK := Lib.hid hc
        clear hc hg HC hs hr hcut HCUT
        by_cases h1 : r = 1
        · have hb1 : (r == 1) = true := by simp [h1]
          have hcc := HCT.out ((c : Int) + 1)
          obtain ⟨m, hm⟩ : ∃ b, decide ((c : Int) + 1 ∈ out) = b := ⟨_, rfl⟩
          rw [hm] at hcc
          have HCC := Lib.hid hcc
          have HM := Lib.hid hm
          have H1 := Lib.hid h1
          clear hcc hm h1
          go_wp2_with fail
          refine HOC.out.mono ?_
          rintro e w2 ⟨rfl, hb2⟩
          have B2 := Lib.hid (B.out.trans (hb2.mono B.out.size))
          obtain ⟨y0, y1, y2⟩ := HCE.out w2 B2.out
          clear hb2 x0 x1 x2
          go_wp2_with fail
          refine (HCC.out w2 B2.out).mono ?_
          rintro e w3 ⟨rfl, rfl⟩
          cases m
          · go_wp2_with fail
            go_ret
            exact ⟨by rw [HCU.out (by have := HM.out; simpa using this) H1.out]; rfl, B2.out⟩
          · go_wp2_with fail
            go_roundg (gk - 1)
            case measure => omega
            case rel => exact ⟨c + 1, by go_num, by have := HK.out; omega, Lib.hid (by rw [HSU.out, HM.out]; simp), B2⟩
        · have hb1 : (r == 1) = false := by simp [h1]
          have H1 := Lib.hid h1
          clear h1
          go_wp2_with fail
          refine HOC.out.mono ?_
          rintro e w2 ⟨rfl, hb2⟩
          have B2 := Lib.hid (B.out.trans (hb2.mono B.out.size))
          clear hb2 x0 x1 x2
          go_wp2_with fail
          go_roundg (gk - 1)
          case measure => omega
          case rel => exact ⟨c + 1, by go_num, by have := HK.out; omega, Lib.hid (by rw [HSU.out]; simp [H1.out]), B2⟩
  · go_wp2_with fail
    go_ret
    exact ⟨rfl, Below.refl _ _⟩
def orderF (rs : List (List Int)) (n : Nat) : List Int := if (ordTo rs n n).length = n then ordTo rs n n else []
def OrderPost (rs : List (List Int)) (n : Nat) (w : World) (e : Ending) (w' : World) : Prop := ∃ v', e = .returned (.tuple #[v', .bool (decide ((ordTo rs n n).length = n))]) ∧ OwnInts w' w.heap.size v' (orderF rs n) ∧ Below w.heap.size w w'
theorem order_no {rs : List (List Int)} {n : Nat} {w w' : World} (h : (ordTo rs n n).length ≠ n) (hb : Below w.heap.size w w') : OrderPost rs n w (.returned (.tuple #[.slice none 0 0, .bool false])) w' :=
  ⟨_, by rw [decide_eq_false h], by unfold orderF; rw [if_neg h]; exact OwnInts.nil _ _, hb⟩
theorem order_yes {rs : List (List Int)} {n : Nat} {w w' : World} {v : Value} (h : (ordTo rs n n).length = n) (ho : OwnInts w' w.heap.size v (ordTo rs n n)) (hb : Below w.heap.size w w') : OrderPost rs n w (.returned (.tuple #[v, .bool true])) w' :=
  ⟨_, by rw [decide_eq_true h], by unfold orderF; rw [if_pos h]; exact ho, hb⟩
set_option maxHeartbeats 8000000 in
theorem order_any (B n : Nat) (rs : List (List Int)) (w : World) (h : RelB w B n rs) (hn : n ≤ 5) :
    Calls Tryz.prog 47 #[.agg #[.int .i64 (n : Int), .map (some B)]] w (OrderPost rs n w) := by
  have HRB := Lib.hid h
  clear h
  have hst := OrdS.start w B n
  have hsz : (w.alloc (.cells #[.int .i64 (n : Int), .map (some B)] 55)).heap.size = w.heap.size + 1 := World.size_alloc _ _
  have HST := Lib.hid hst
  clear hst
  go_enter Tryz.func47, Tryz.ntmps47
  go_wp2_with fail
  go_loopg [] n (fun gk wr => ∃ (k : Nat) (ov : Value), k + gk = n ∧ Hid ((ordTo rs n k).length = k) ∧ Hid (OrdS w wr B n (ordTo rs n k) ov))
  case atStart => exact ⟨0, _, by omega, Lib.hid rfl, HST⟩
  case round =>
    clear HST
    obtain ⟨k, ov, hk, HLN, S⟩ := hrel
    obtain ⟨oa, oc, e, hoc, hom⟩ := S.out.own.form
    subst e
    obtain ⟨c0, c1, c2⟩ := S.out.cells
    have hsz2 := S.out.size
    rw [HLN.out] at c2 S
    obtain ⟨out, hout⟩ : ∃ o, ordTo rs n k = o := ⟨_, rfl⟩
    have hstep := ordTo_succ rs n k
    have hstuck := fun h => ordTo_stuck (rs := rs) (n := n) (k := k) h (n - k)
    rw [hout] at S HLN hstep hstuck hoc
    have HOUT := Lib.hid hout
    have HSTEP := Lib.hid hstep
    have HSTK := Lib.hid hstuck
    clear hout hstep hstuck
    by_cases hg : gk = 0
    · subst hg
      obtain rfl : k = n := by omega
      have hdn : decide ((k : Int) < (k : Int)) = false := by simp
      go_wp2_with fail
      refine bodyPost_ret (results_tmp2 rfl _ _ _) rfl ?_
      exact order_yes (by rw [HOUT.out]; exact HLN.out) (by rw [HOUT.out]; exact S.out.own.lift (by omega)) S.out.bel
    · have hkn : k < n := by omega
      have hkI : (k : Int) < (n : Int) := by omega
      have hgk : 1 ≤ gk := by omega
      have HK := Lib.hid hk
      obtain ⟨GG, hGG⟩ : ∃ G, G = gk := ⟨_, rfl⟩
      have HRD := Lib.hid (fun W (hW : Below wr.heap.size wr W) i (hi : i < n) => ready_any (w.heap.size + 1) w.heap.size B n i rs out W ⟨_, (S.out.below hW).cells.1, (S.out.below hW).cells.2.1, (S.out.below hW).cells.2.2, (S.out.below hW).own.ints, HRB.out.below (S.out.below hW).bel⟩ hn hi)
      obtain ⟨wb, hwb⟩ : ∃ W, W = wr := ⟨_, rfl⟩
      subst hwb
      clear hk hg
      go_wp2_with fail
      clear c0 c1 c2
      go_loopg [6] n (fun gk s6 wr => ∃ i : Nat, s6 = .int .i64 ((i : Int) + 1) ∧ i + gk = n ∧ Hid (∀ j, j < i → readyF rs n out ((j : Int) + 1) = false) ∧ Hid (Below wb.heap.size wb wr))
      case atStart => exact ⟨0, by go_num, by omega, Lib.hid (fun j hj => absurd hj (by omega)), Lib.hid (Below.refl _ _)⟩
      case round =>
        obtain ⟨i, rfl, hi, HNO, BX⟩ := hrel
        obtain ⟨c0, c1, c2⟩ := (S.out.below BX.out).cells
        by_cases hg : gk = 0
        · subst hg
          obtain rfl : i = n := by omega
          have hdn : decide ((i : Int) + 1 ≤ (i : Int)) = false := decide_eq_false (by omega)
          have hdn2 : (i : Int) < (i : Int) + 1 := by omega
          go_wp2_with fail
          refine bodyPost_ret (results_tmp2 rfl _ _ _) rfl ?_
          refine order_no ?_ (S.out.below BX.out).bel
          have h1 := HSTK.out (leastF_none HNO.out)
          rw [show k + (i - k) = i by omega] at h1
          rw [h1, HLN.out]; omega
        · have hin : i < n := by omega
          have hiI : (i : Int) + 1 ≤ (n : Int) := by omega
          have hiI2 : ¬ (n : Int) < (i : Int) + 1 := by omega
          have hiI3 : decide ((n : Int) < (i : Int) + 1) = false := decide_eq_false hiI2
          have hgk2 : 1 ≤ gk := by omega
          have hrd := HRD.out wr BX.out i hin
          obtain ⟨r, hr⟩ : ∃ r, readyF rs n out ((i : Int) + 1) = r := ⟨_, rfl⟩
          rw [hr] at hrd
          have HR := Lib.hid hr
          have HC := Lib.hid hrd
          have HI := Lib.hid hi
          clear hi hg hr hrd
          cases r
          · go_wp2_with fail
            refine HC.out.mono ?_
            rintro e w2 ⟨rfl, hb2⟩
            have B2 := Lib.hid (BX.out.trans (hb2.mono BX.out.size))
            clear hb2
            go_wp2_with fail
            go_roundg (gk - 1)
            case measure => omega
            case rel => exact ⟨i + 1, by go_num, by have := HI.out; omega, Lib.hid (fun j hj => by
              by_cases hji : j = i
              · subst hji; exact HR.out
              · exact HNO.out j (by omega)), B2⟩
          · go_wp2_with fail
            refine HC.out.mono ?_
            rintro e w2 ⟨rfl, hb2⟩
            clear c0 c1 c2
            have B2 := Lib.hid (BX.out.trans (hb2.mono BX.out.size))
            have S2 := Lib.hid (S.out.below B2.out)
            obtain ⟨c0, c1, c2⟩ := S2.out.cells
            have hs2 := S2.out.size
            have I2 := Lib.hid (OwnInts.one w2 ((i : Int) + 1)).ints
            have O2 := Lib.hid (S2.out.own.below (Below.alloc (Below.refl _ _) (Nat.le_refl _) (.cells #[.int .i64 ((i : Int) + 1)] 3)))
            have BA := Lib.hid (Below.alloc (Below.refl (w.heap.size + 2) w2) hs2 (.cells #[.int .i64 ((i : Int) + 1)] 3))
            have HLE := Lib.hid (leastF_some hin HR.out HNO.out)
            clear hb2
            go_wp2_with (at_builtin; refine wpList_append_ints rfl (.tmp 29) (.tmp 31) rfl (w.heap.size + 2) _ _ out [(i : Int) + 1] (k + 1) (by rw [HLN.out]; rfl) rfl O2.out (by have := BA.out.size; omega) rfl I2.out (by omega) ?_; intro ad cc w4 hO4 hb4 hs4; have O4 := Lib.hid hO4; have B4 := Lib.hid (BA.out.trans hb4); have S4 := Lib.hid (S2.out.push O4.out B4.out); obtain ⟨f0, f1⟩ := S2.out.free B4.out; clear hO4 hb4)
            go_roundg (GG - 1)
            case measure => omega
            case rel => exact ⟨k + 1, _, by have := HK.out; omega, Lib.hid (by rw [HSTEP.out, ordStep_some HLE.out, List.length_append, HLN.out]; rfl), Lib.hid (by rw [HSTEP.out, ordStep_some HLE.out]; exact S4.out)⟩
def freeF (rs : List (List Int)) : Bool := relsOkF rs && decide ((ordTo rs rs.length rs.length).length = rs.length)
def relsOrderF (rs : List (List Int)) : List Int := if freeF rs = true then ordTo rs rs.length rs.length else []
def RelsOrderPost (rs : List (List Int)) (w : World) (e : Ending) (w' : World) : Prop := ∃ v', e = .returned (.tuple #[v', .bool (freeF rs)]) ∧ OwnInts w' w.heap.size v' (relsOrderF rs) ∧ Below w.heap.size w w'
theorem ro_no {rs : List (List Int)} {w w' : World} (h : relsOkF rs = false) (hb : Below w.heap.size w w') : RelsOrderPost rs w (.returned (.tuple #[.slice none 0 0, .bool false])) w' :=
  ⟨_, by unfold freeF; rw [h]; rfl, by unfold relsOrderF freeF; rw [h]; exact OwnInts.nil _ _, hb⟩
theorem ro_yes {rs : List (List Int)} {w w' : World} {v : Value} (h : relsOkF rs = true) (ho : OwnInts w' w.heap.size v (orderF rs rs.length)) (hb : Below w.heap.size w w') : RelsOrderPost rs w (.returned (.tuple #[v, .bool (decide ((ordTo rs rs.length rs.length).length = rs.length))])) w' :=
  ⟨v, by unfold freeF; rw [h]; rfl, by
    unfold orderF at ho
    unfold relsOrderF freeF
    rw [h]
    simpa using ho, hb⟩
set_option maxHeartbeats 4000000 in
theorem relsOrder_any (v : Value) (rs : List (List Int)) (w : World) (hv : RowsAt w v rs) :
    Calls Tryz.prog 26 #[v] w (RelsOrderPost rs w) := by
  have HRR := Lib.hid (readRels_any _ rs w hv)
  obtain ⟨ok, hok⟩ : ∃ b, relsOkF rs = b := ⟨_, rfl⟩
  have HOK := Lib.hid hok
  clear hv hok
  go_enter Tryz.func26, Tryz.ntmps26
  go_wp2_with fail
  refine HRR.out.mono ?_
  rintro e w1 ⟨m, ob, rfl, hb1, hpost⟩
  rw [HOK.out]
  have B1 := Lib.hid hb1
  have hs1 := hb1.size
  cases ok
  · clear hb1 hpost
    have BA : Hid (Below w.heap.size w (w1.alloc (.cells #[.int .i64 m, .map ob] 55))) := Lib.hid (Below.alloc B1.out hs1 _)
    go_wp2_with fail
    refine bodyPost_ret (results_tmp2 rfl _ _ _) rfl ?_
    exact ro_no HOK.out BA.out
  · obtain ⟨rfl, B, cnt, D, rfl, hB, hcnt, hown, hrd⟩ := hpost HOK.out
    have hn5 := (rels_bounds HOK.out).2
    have RB := Lib.hid (show RelB w1 B rs.length rs from ⟨cnt, D, hown, hrd⟩)
    have hal := Below.alloc (Below.refl w1.heap.size w1) (Nat.le_refl _) (.cells #[.int .i64 (rs.length : Int), .map (some B)] 55)
    have BA : Hid (Below w.heap.size w (w1.alloc (.cells #[.int .i64 (rs.length : Int), .map (some B)] 55))) := Lib.hid (hb1.trans (hal.mono hs1))
    have HOR := Lib.hid (order_any B rs.length rs _ (RB.out.below hal) hn5)
    have hsa : w.heap.size ≤ (w1.alloc (.cells #[.int .i64 (rs.length : Int), .map (some B)] 55)).heap.size := BA.out.size
    have HSA := Lib.hid hsa
    clear hb1 hpost hown hrd hal hB hsa
    go_wp2_with fail
    refine HOR.out.mono ?_
    rintro e w2 ⟨v', rfl, ho, hb2⟩
    have O2 := Lib.hid (ho.lift HSA.out)
    have B2 := Lib.hid (BA.out.trans (hb2.mono HSA.out))
    clear ho hb2
    go_wp2_with fail
    refine bodyPost_ret (results_tmp2 rfl _ _ _) rfl ?_
    exact ro_yes HOK.out O2.out B2.out
set_option maxHeartbeats 4000000 in
theorem relsFree_any (v : Value) (rs : List (List Int)) (w : World) (hv : RowsAt w v rs) :
    Calls Tryz.prog 9 #[v] w fun e w' => e = .returned (.bool (freeF rs)) ∧ Below w.heap.size w w' := by
  have HRR := Lib.hid (relsOrder_any _ rs w hv)
  clear hv
  go_enter Tryz.func9, Tryz.ntmps9
  go_wp2_with fail
  refine HRR.out.mono ?_
  rintro e w1 ⟨v', rfl, ho, hb1⟩
  have B1 := Lib.hid hb1
  clear hb1 ho
  go_wp2_with fail
  go_ret
  exact ⟨rfl, B1.out⟩
end Go.Proofs.YtlpibfafpljedaaGreatDoor
