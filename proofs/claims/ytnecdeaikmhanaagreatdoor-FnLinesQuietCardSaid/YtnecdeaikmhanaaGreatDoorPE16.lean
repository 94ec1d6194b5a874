/- A part of the proof; packed by a program of mine out of my texts. -/
import Derived.Test.YtnecdeaikmhanaaGreatDoorPE0
import Derived.Test.YtnecdeaikmhanaaGreatDoorPE1
import Derived.Test.YtnecdeaikmhanaaGreatDoorPE2
import Derived.Test.YtnecdeaikmhanaaGreatDoorPE3
import Derived.Test.YtnecdeaikmhanaaGreatDoorPE4
import Derived.Test.YtnecdeaikmhanaaGreatDoorPE5
import Derived.Test.YtnecdeaikmhanaaGreatDoorPE6
import Derived.Test.YtnecdeaikmhanaaGreatDoorPE7
import Derived.Test.YtnecdeaikmhanaaGreatDoorPE8
import Derived.Test.YtnecdeaikmhanaaGreatDoorPE9
import Derived.Test.YtnecdeaikmhanaaGreatDoorPE10
import Derived.Test.YtnecdeaikmhanaaGreatDoorPE12
import Derived.Test.YtnecdeaikmhanaaGreatDoorPE13
import Derived.Test.YtnecdeaikmhanaaGreatDoorPE14
import Derived.Test.YtnecdeaikmhanaaGreatDoorPE15
import Derived.Lib.IndexMore
namespace Go.Proofs.YtnecdeaikmhanaaGreatDoor
open Go.RowKit
set_option linter.unusedVariables false
set_option maxRecDepth 100000
def rrV : Option (Int × Int) → Value
  | none => .tuple #[.agg #[.int .i64 0, .int .i64 0], .bool false]
  | some p => .tuple #[.agg #[.int .i64 p.1, .int .i64 p.2], .bool true]
def RRPost (o : Option (Int × Int)) (w : World) (e : Ending) (w' : World) : Prop := e = .returned (rrV o) ∧ Below w.heap.size w w'
theorem rr_none {o : Option (Int × Int)} {w w' : World} (h : o = none) (hb : Below w.heap.size w w') : RRPost o w (.returned (.tuple #[.agg #[.int .i64 0, .int .i64 0], .bool false])) w' := by subst h; exact ⟨rfl, hb⟩
theorem rr_some {o : Option (Int × Int)} {w w' : World} {f b : Int} (h : o = some (f, b)) (hb : Below w.heap.size w w') : RRPost o w (.returned (.tuple #[.agg #[.int .i64 f, .int .i64 b], .bool true])) w' := by subst h; exact ⟨rfl, hb⟩
theorem slice_to (t : ByteArray) (s : Bs) (hs : t.data.toList = s) (j : Nat) (hj : j ≤ s.length) (W : World) :
    (Instr.slice 9 (.string t) none (some (.int .i64 (j : Int))) none).run Tryz.prog W = .ok (.string ⟨(s.take j).toArray⟩) W := by
  have hsz : t.size = s.length := by rw [← hs]; rfl
  have h1 := run_slice_string_to_if (P := Tryz.prog) W 9 t .i64 (j : Int) Tryz.underlying9
  rw [h1, if_pos ⟨by omega, by omega⟩]
  congr 2
  apply ByteArray.ext
  apply Array.toList_inj.1
  rw [Lib.extract_data, hs]
  simp
theorem slice_from (t : ByteArray) (s : Bs) (hs : t.data.toList = s) (j : Nat) (hj : j ≤ s.length) (W : World) :
    (Instr.slice 9 (.string t) (some (.int .i64 (j : Int))) none none).run Tryz.prog W = .ok (.string ⟨(s.drop j).toArray⟩) W := by
  have hsz : t.size = s.length := by rw [← hs]; rfl
  have h1 := run_slice_string_from_if (P := Tryz.prog) W 9 t .i64 (j : Int) Tryz.underlying9
  rw [h1, if_pos ⟨by omega, by omega⟩]
  congr 2
  apply ByteArray.ext
  apply Array.toList_inj.1
  rw [Lib.extract_data, hs, hsz]
  simp only [Int.toNat_natCast]
  rw [List.take_of_length_le (by rw [List.length_drop]; omega)]
set_option maxHeartbeats 4000000 in
theorem specRangeRead_any (s : Bs) (w : World) : Calls Tryz.prog 43 #[stV s] w (RRPost (rreadF s) w) := by
  obtain ⟨t, ht⟩ : ∃ t : ByteArray, t = ⟨s.toArray⟩ := ⟨_, rfl⟩
  have hdl : t.data.toList = s := by rw [ht]
  have htl : t.toList = s := by rw [ht]; simp
  have hsz : t.size = s.length := by rw [← hdl]; rfl
  unfold stV
  rw [← ht]
  clear ht
  obtain ⟨n, hn⟩ : ∃ n, s.length = n := ⟨_, rfl⟩
  rw [hn] at hsz
  by_cases h5 : 5 < n
  · have HR : Hid (rreadF s = none) := Lib.hid (rread_long (by omega))
    have h5' : decide ((5 : Int) < (n : Int)) = true := by rw [decide_eq_true_eq]; omega
    clear hdl htl hn h5
    go_enter Tryz.func43, Tryz.ntmps43
    go_wp2_with fail
    exact bodyPost_ret (v := .tuple #[.agg #[.int .i64 0, .int .i64 0], .bool false]) (by simp [results, Tryz.results43, go_sem]) rfl (rr_none HR.out bw)
  have h5' : decide ((5 : Int) < (n : Int)) = false := by rw [decide_eq_false_iff_not]; omega
  have hX : ∀ j, j < n → ∀ W, (Instr.index 9 (.string t) (.int .i64 (j : Int))).run Tryz.prog W = .ok (.int .u8 ((s.getD j 0).toNat : Int)) W := fun j hj W => index_str t s hdl j (by omega) W
  have hT : ∀ j, j ≤ n → ∀ W, (Instr.slice 9 (.string t) none (some (.int .i64 (j : Int))) none).run Tryz.prog W = .ok (.string ⟨(s.take j).toArray⟩) W := fun j hj W => slice_to t s hdl j (by omega) W
  have hF : ∀ j, j ≤ n → ∀ W, (Instr.slice 9 (.string t) (some (.int .i64 (j : Int))) none none).run Tryz.prog W = .ok (.string ⟨(s.drop j).toArray⟩) W := fun j hj W => slice_from t s hdl j (by omega) W
  have HX := Lib.hid hX
  have HT := Lib.hid hT
  have HF := Lib.hid hF
  have HN := Lib.hid hn
  have H5 := Lib.hid h5
  have HTL := Lib.hid htl
  clear hn hX hT hF hdl h5 htl
  go_enter Tryz.func43, Tryz.ntmps43
  go_wp2_with fail
  obtain ⟨W0, hW0⟩ : ∃ W0, w.alloc (.cells #[.int .i64 0, .int .i64 0] 66) = W0 := ⟨_, rfl⟩
  rw [hW0]
  have hB0 : Below w.heap.size w W0 := by rw [← hW0]; exact bw
  have z0 : W0.heap.size = w.heap.size + 1 := by rw [← hW0]; simp
  have c0 : W0.cell? ⟨w.heap.size, 0, none⟩ = some (.int .i64 0) := by rw [← hW0]; simp
  have c1 : W0.cell? ⟨w.heap.size, 1, none⟩ = some (.int .i64 0) := by rw [← hW0]; simp
  have f0 : W0.frozen? ⟨w.heap.size, 0, none⟩ = false := by rw [← hW0]; simp
  have f1 : W0.frozen? ⟨w.heap.size, 1, none⟩ = false := by rw [← hW0]; simp
  have Z0 := Lib.hid z0
  have z1 : w.heap.size < W0.heap.size := by omega
  clear hW0 z0
  go_loopg [4] n (fun g i wr => ∃ j : Nat, i = .int .i64 j ∧ j + g = n ∧ wr = W0 ∧ Hid (∀ i, i < j → s.getD i 0 ≠ 47))
  case atStart => exact ⟨0, rfl, by omega, rfl, Lib.hid (fun j hj => by omega)⟩
  case round =>
    obtain ⟨j, rfl, hj, rfl, hd⟩ := hrel
    by_cases hg : gk = 0
    · subst hg
      obtain rfl : j = n := by omega
      have HR : Hid (rreadF s = none) := Lib.hid (rread_no47 (fun i hi => hd.out i (by have := HN.out; omega)))
      go_wp2_with fail
      exact bodyPost_ret (v := .tuple #[.agg #[.int .i64 0, .int .i64 0], .bool false]) (by simp [results, Tryz.results43, go_sem, *]) rfl (rr_none HR.out bw)
    · have hjn : j < n := by omega
      have hx := HX.out j hjn
      have hj4 : (j : Int) < 1000 := by have := H5.out; omega
      by_cases h47 : s.getD j 0 = 47
      · rw [h47] at hx
        have hRR := rread_at (by have := HN.out; omega) h47 (fun i hi => hd.out i hi)
        obtain ⟨F, hFF⟩ : ∃ F, numF (s.take j) = F := ⟨_, rfl⟩
        obtain ⟨B, hBB⟩ : ∃ B, numF (s.drop (j + 1)) = B := ⟨_, rfl⟩
        have hL1 := fun W => l1Num_any (s.take j) W
        have hL2 := fun W => l1Num_any (s.drop (j + 1)) W
        have t1 := HT.out j (by omega)
        have t2 := HF.out (j + 1) (by omega)
        rw [show (((j + 1 : Nat)) : Int) = (j : Int) + 1 by omega] at t2
        rw [hFF] at hL1 hRR
        rw [hBB] at hL2 hRR
        unfold stV at hL1 hL2
        obtain ⟨T1, hT1⟩ : ∃ T : ByteArray, (⟨(s.take j).toArray⟩ : ByteArray) = T := ⟨_, rfl⟩
        obtain ⟨T2, hT2⟩ : ∃ T : ByteArray, (⟨(s.drop (j + 1)).toArray⟩ : ByteArray) = T := ⟨_, rfl⟩
        rw [hT1] at hL1 t1
        rw [hT2] at hL2 t2
        have HL1 := Lib.hid hL1
        have HL2 := Lib.hid hL2
        have HRR := Lib.hid hRR
        have e1 : IntKind.i64.wrap ((j : Int) + 1) = (j : Int) + 1 := IntWalk.i64_in _ (by omega)
        clear hL1 hL2 hRR hT1 hT2 hFF hBB hx
        have hx : ∀ W, (Instr.index 9 (.string t) (.int .i64 (j : Int))).run Tryz.prog W = .ok (.int .u8 47) W := fun W => by have := HX.out j hjn W; rw [h47] at this; exact this
        clear h47
        go_wp2_with fail
        go_region_law (first | (go_simp; go_at_call_of 72 (Value.string T1); (with_reducible refine (HL1.out _).mono ?_); rintro e w' ⟨rfl, rfl⟩) | (go_simp; go_at_call_of 72 (Value.string T2); (with_reducible refine (HL2.out _).mono ?_); rintro e w' ⟨rfl, rfl⟩))
        all_goals
          go_wp2_with fail
          obtain ⟨ok, hok⟩ : ∃ ok, rangeOkF F B = ok := ⟨_, rfl⟩
          obtain ⟨T4, hT4⟩ : ∃ T4 : ByteArray, T4 = ⟨(if ok = true then rtextF F B else []).toArray⟩ := ⟨_, rfl⟩
          have hRT : ∀ W, Calls Tryz.prog 74 #[.agg #[.int .i64 F, .int .i64 B]] W fun e w' => e = .returned (.string T4) ∧ Below W.heap.size W w' := fun W => by
            rw [hT4]
            cases ok
            · exact rangeText_no F B hok W
            · exact rangeText_yes F B hok W
          have HC : Hid ((T4.toList == t.toList) = (ok && decide (rtextF F B = s))) := Lib.hid (by
            rw [hT4, HTL.out, ByteArray.toList_mk]
            cases ok
            · rw [if_neg (by decide), Bool.false_and, beq_eq_false_iff_ne]
              intro e
              have := HN.out
              rw [← e] at this
              simp at this
              omega
            · rw [if_pos rfl, Bool.true_and]
              by_cases h : rtextF F B = s
              · rw [decide_eq_true h, beq_iff_eq]; exact h
              · rw [decide_eq_false h, beq_eq_false_iff_ne]; exact h)
          have HO := Lib.hid hok
          clear hok hT4
          refine (hRT _).mono ?_
          rintro e w2 ⟨rfl, hb2⟩
          have hB2 : Below w.heap.size w w2 := by refine Below.trans ?_ (hb2.mono (by first | exact Nat.le_refl _ | omega | (simp; done) | (simp; omega))); exact bw
          have k0 : w2.cell? ⟨w.heap.size, 0, none⟩ = some (.int .i64 0) := (hb2.cell (p := ⟨w.heap.size, 0, none⟩) (by simp; omega)).trans (by simp [go_sem, World.cell?_alloc_past _ _ _ z1, c0])
          have k1 : w2.cell? ⟨w.heap.size, 1, none⟩ = some (.int .i64 0) := (hb2.cell (p := ⟨w.heap.size, 1, none⟩) (by simp; omega)).trans (by simp [go_sem, World.cell?_alloc_past _ _ _ z1, c1])
          have g0 : w2.frozen? ⟨w.heap.size, 0, none⟩ = false := (hb2.frozen (p := ⟨w.heap.size, 0, none⟩) (by simp; omega)).trans (by simp [go_sem, World.frozen?_alloc_past _ _ _ z1, f0])
          have g1 : w2.frozen? ⟨w.heap.size, 1, none⟩ = false := (hb2.frozen (p := ⟨w.heap.size, 1, none⟩) (by simp; omega)).trans (by simp [go_sem, World.frozen?_alloc_past _ _ _ z1, f1])
          have k2 : w2.cell? ⟨wr.heap.size, 0, none⟩ = some (.int .i64 F) := (hb2.cell (p := ⟨wr.heap.size, 0, none⟩) (by simp)).trans (by simp)
          have k3 : w2.cell? ⟨wr.heap.size, 1, none⟩ = some (.int .i64 B) := (hb2.cell (p := ⟨wr.heap.size, 1, none⟩) (by simp)).trans (by simp)
          have z2 : wr.heap.size < w2.heap.size := by have := hb2.size; simp at this; omega
          clear hb2 c0 c1 f0 f1 hRT
          cases hcc : (ok && decide (rtextF F B = s))
          · have hcmp : (T4.toList == t.toList) = false := by rw [HC.out, hcc]
            have hnone : Hid (rreadF s = none) := Lib.hid (by
              rw [HRR.out, if_neg]
              rintro ⟨h1, h2⟩
              rw [HO.out] at h1
              rw [h1, decide_eq_true h2] at hcc
              cases hcc)
            clear hcc
            go_wp2_with fail
            exact bodyPost_ret (v := .tuple #[.agg #[.int .i64 0, .int .i64 0], .bool false]) (by simp [results, Tryz.results43, go_sem, *]) rfl (rr_none hnone.out bw)
          · have hcmp : (T4.toList == t.toList) = true := by rw [HC.out, hcc]
            have hsome : Hid (rreadF s = some (F, B)) := Lib.hid (by
              rw [Bool.and_eq_true, decide_eq_true_eq] at hcc
              rw [HRR.out, if_pos ⟨by rw [HO.out]; exact hcc.1, hcc.2⟩])
            clear hcc
            go_wp2_with fail
            exact bodyPost_ret (v := .tuple #[.agg #[.int .i64 F, .int .i64 B], .bool true]) (by simp [results, Tryz.results43, go_sem, *]) rfl (rr_some hsome.out bw)
      · obtain ⟨y, hy⟩ : ∃ y : Int, ((s.getD j 0).toNat : Int) = y := ⟨_, rfl⟩
        rw [hy] at hx
        have hy47 : (y == 47) = false := by
          rw [beq_eq_false_iff_ne]
          intro e
          apply h47
          have : (s.getD j 0).toNat = 47 := by omega
          exact UInt8.toNat_inj.1 this
        have H47 := Lib.hid h47
        clear hy h47
        go_wp2_with fail
        go_roundg (gk - 1)
        case measure => omega
        case rel =>
          refine ⟨j + 1, by go_num, by omega, rfl, Lib.hid (fun i hi => ?_)⟩
          by_cases hij : i = j
          · subst hij; exact H47.out
          · exact hd.out i (by omega)
end Go.Proofs.YtnecdeaikmhanaaGreatDoor
namespace Go.Proofs.YtnecdeaikmhanaaGreatDoor
open Go.RowKit
set_option linter.unusedVariables false
set_option maxRecDepth 100000
theorem occ47 (s : Bs) (j : Nat) : Lib.occAt s [47] j = decide (j < s.length ∧ s.getD j 0 = 47) := by
  unfold Lib.occAt
  by_cases h : j < s.length
  · rw [List.drop_eq_getElem_cons h, getD_lt h]
    obtain ⟨x, hx⟩ : ∃ x, s[j] = x := ⟨_, rfl⟩
    rw [hx]
    have e : List.isPrefixOf [(47 : UInt8)] (x :: s.drop (j + 1)) = ((47 : UInt8) == x) := by
      show ((47 : UInt8) == x && List.isPrefixOf [] (s.drop (j + 1))) = _
      cases hd : s.drop (j + 1) <;> simp [List.isPrefixOf]
    rw [e]
    by_cases h4 : x = 47
    · subst h4; rw [decide_eq_true ⟨h, rfl⟩]; rfl
    · rw [decide_eq_false (fun hc => h4 hc.2), beq_eq_false_iff_ne]; exact fun hc => h4 hc.symm
  · rw [List.drop_of_length_le (by omega), decide_eq_false (fun hc => h hc.1)]; rfl
theorem cut47 (s : Bs) : (Lib.cut s [47] = (s, [], false) ∧ ∀ j, j < s.length → s.getD j 0 ≠ 47) ∨ ∃ i, i < s.length ∧ s.getD i 0 = 47 ∧ (∀ j, j < i → s.getD j 0 ≠ 47) ∧ Lib.cut s [47] = (s.take i, s.drop (i + 1), true) := by
  rcases Lib.index_spec s [47] with ⟨hi, hno⟩ | ⟨i, hi, hl, ho, hn⟩
  · refine .inl ⟨?_, fun j hj e => ?_⟩
    · unfold Lib.cut; rw [hi, if_neg (by omega)]
    · have := hno j (by omega)
      rw [occ47, decide_eq_false_iff_not] at this
      exact this ⟨hj, e⟩
  · rw [occ47, decide_eq_true_eq] at ho
    refine .inr ⟨i, ho.1, ho.2, fun j hj e => ?_, ?_⟩
    · have := hn j hj
      rw [occ47, decide_eq_false_iff_not] at this
      exact this ⟨by omega, e⟩
    · unfold Lib.cut; rw [hi, if_pos (by omega)]; rfl
def rcomb (x y : Option Int) : Option (Int × Int) := match x, y with
  | some a, some b => if rangeOkF a b = true then some (a, b) else none
  | _, _ => none
theorem rcomb_none (y : Option Int) : rcomb none y = none := by cases y <;> rfl
theorem rcomb_none2 (y : Option Int) : rcomb y none = none := by cases y <;> rfl
theorem rcomb_some (a b : Int) : rcomb (some a) (some b) = if rangeOkF a b = true then some (a, b) else none := rfl
def rreadI (s : Bs) : Option (Int × Int) := rcomb (digF (Lib.cut s [47]).1) (digF (Lib.cut s [47]).2.1)
def decCheck (n : Nat) : Bool := match Lib.atoiAll (decF n) with
  | .ok v => decide (v = (n : Int))
  | _ => false
theorem decCheck_all : (List.range 256).all decCheck = true := by decide +kernel
theorem digF_dec {n : Nat} (h : n < 256) : digF (decF n) = some (n : Int) := by
  have := List.all_eq_true.1 decCheck_all n (List.mem_range.2 h)
  unfold decCheck at this
  split at this
  · rename_i v hv
    rw [decide_eq_true_eq] at this
    subst this
    rw [digF_ok hv, if_pos ⟨by omega, itoa_dec (by omega)⟩]
  · cases this
theorem rangeOk_in {f b : Int} (h : rangeOkF f b = true) : 0 ≤ f ∧ f ≤ 255 ∧ 0 ≤ b ∧ b ≤ 8 := by
  unfold rangeOkF addrF at h
  simp at h
  exact ⟨h.1.2.1, h.1.2.2, h.1.1.1, h.1.1.2⟩
theorem digF_num {s : Bs} {v : Int} (h : digF s = some v) (hv : v ≤ 255) : decF v.toNat = s ∧ numF s = v := by
  obtain ⟨h0, hi⟩ := digF_some h
  have e : ((v.toNat : Nat) : Int) = v := by omega
  have hd : decF v.toNat = s := by rw [← itoa_dec (n := v.toNat) (by omega), e]; exact hi
  exact ⟨hd, by rw [← hd, numF_dec (by omega), e]⟩
theorem rreadI_eq (s : Bs) : rreadI s = rreadF s := by
  unfold rreadI
  rcases cut47 s with ⟨hc, hno⟩ | ⟨i, hi, h47, hno, hc⟩
  · rw [hc, rread_no47 hno]
    have : digF [] = none := digF_bad (fun v h => by cases h)
    simp only [this]
    exact rcomb_none2 _
  · rw [hc, rread_at hi h47 hno]
    simp only
    by_cases hR : rangeOkF (numF (s.take i)) (numF (s.drop (i + 1))) = true ∧ rtextF (numF (s.take i)) (numF (s.drop (i + 1))) = s
    · rw [if_pos hR]
      obtain ⟨h1, h2⟩ := hR
      obtain ⟨f, hf⟩ : ∃ f, numF (s.take i) = f := ⟨_, rfl⟩
      obtain ⟨b, hb⟩ : ∃ b, numF (s.drop (i + 1)) = b := ⟨_, rfl⟩
      rw [hf, hb] at h1 h2 ⊢
      obtain ⟨r1, r2, r3, r4⟩ := rangeOk_in h1
      have e2 := split_at hi h47
      rw [← h2] at e2
      have e3 : rtextF f b = decF f.toNat ++ 47 :: decF b.toNat := rfl
      rw [h2] at e2
      rw [← h2] at e2
      rw [e3] at e2
      obtain ⟨a1, a2⟩ := stroke_split (dec_no47 (by omega)) (by rw [← e3, h2]; exact take_no hi hno) e2
      rw [← e3, h2] at a1 a2
      rw [← a1, ← a2, digF_dec (by omega), digF_dec (by omega), rcomb_some]
      have ef : ((f.toNat : Nat) : Int) = f := by omega
      have eb : ((b.toNat : Nat) : Int) = b := by omega
      simp only [ef, eb]
      rw [if_pos h1]
    · rw [if_neg hR]
      cases hA : digF (s.take i) with
      | none => exact rcomb_none _
      | some a =>
        cases hB : digF (s.drop (i + 1)) with
        | none => exact rcomb_none2 _
        | some b =>
          rw [rcomb_some, if_neg]
          intro hok
          obtain ⟨r1, r2, r3, r4⟩ := rangeOk_in hok
          obtain ⟨d1, n1⟩ := digF_num hA r2
          obtain ⟨d2, n2⟩ := digF_num hB (by omega)
          refine hR ⟨by rw [n1, n2]; exact hok, ?_⟩
          rw [n1, n2]
          show decF a.toNat ++ 47 :: decF b.toNat = s
          rw [d1, d2]
          exact (split_at hi h47).symm
theorem cut_short (s : Bs) : (Lib.cut s [47]).1.length ≤ s.length ∧ (Lib.cut s [47]).2.1.length ≤ s.length := by
  rcases cut47 s with ⟨hc, _⟩ | ⟨i, hi, _, _, hc⟩
  · rw [hc]; simp
  · rw [hc]; simp; omega
set_option maxHeartbeats 4000000 in
theorem implRangeRead_any (s : Bs) (hs : s.length ≤ 1000000) (w : World) (E : EnvOk w) : Calls Tryz.prog 55 #[stV s] w (RRPost (rreadF s) w) := by
  rw [← rreadI_eq]
  obtain ⟨hl1, hl2⟩ := cut_short s
  have hcut : ∀ W, EnvOk W → Calls Tryz.prog 90 #[stV s, stV [47]] W fun e w' => e = .returned (.tuple #[stV (Lib.cut s [47]).1, stV (Lib.cut s [47]).2.1, .bool (Lib.cut s [47]).2.2]) ∧ ∃ n, w' = W.drewN n := fun W EW => by
    obtain ⟨m, hm⟩ := EW.max
    exact Go.Proofs.Tryz.strings_Cut ⟨s.toArray⟩ ⟨#[47]⟩ m W (by simp [ByteArray.size]; omega) hm
  have hd1 : ∀ W, EnvOk W → Calls Tryz.prog 91 #[stV (Lib.cut s [47]).1] W (DigPost (Lib.cut s [47]).1 W) := fun W EW => digits_any _ (by omega) W EW
  have hd2 : ∀ W, EnvOk W → Calls Tryz.prog 91 #[stV (Lib.cut s [47]).2.1] W (DigPost (Lib.cut s [47]).2.1 W) := fun W EW => digits_any _ (by omega) W EW
  unfold rreadI
  obtain ⟨s1, hs1⟩ : ∃ x, (Lib.cut s [47]).1 = x := ⟨_, rfl⟩
  obtain ⟨s2, hs2⟩ : ∃ x, (Lib.cut s [47]).2.1 = x := ⟨_, rfl⟩
  obtain ⟨c3, hc3⟩ : ∃ x, (Lib.cut s [47]).2.2 = x := ⟨_, rfl⟩
  rw [hs1] at hcut hd1 ⊢
  rw [hs2] at hcut hd2 ⊢
  rw [hc3] at hcut
  obtain ⟨O, hO⟩ : ∃ O, rcomb (digF s1) (digF s2) = O := ⟨_, rfl⟩
  rw [hO]
  have HO : Hid (O = rcomb (digF s1) (digF s2)) := Lib.hid hO.symm
  clear hO
  unfold stV at hcut hd1 hd2 ⊢
  rw [show (⟨[(47 : UInt8)].toArray⟩ : ByteArray) = ⟨#[47]⟩ from rfl] at hcut
  obtain ⟨T, hT⟩ : ∃ T : ByteArray, (⟨s.toArray⟩ : ByteArray) = T := ⟨_, rfl⟩
  obtain ⟨T1, hT1⟩ : ∃ T : ByteArray, (⟨s1.toArray⟩ : ByteArray) = T := ⟨_, rfl⟩
  obtain ⟨T2, hT2⟩ : ∃ T : ByteArray, (⟨s2.toArray⟩ : ByteArray) = T := ⟨_, rfl⟩
  rw [hT] at hcut ⊢
  rw [hT1] at hcut hd1
  rw [hT2] at hcut hd2
  have HC := Lib.hid hcut
  have HD1 := Lib.hid hd1
  have HD2 := Lib.hid hd2
  have HE := Lib.hid E
  clear hcut hd1 hd2 hs1 hs2 hc3 hT hT1 hT2 hl1 hl2 hs E
  go_enter Tryz.func55, Tryz.ntmps55
  go_wp2_with fail
  refine (HC.out _ (HE.out.next bw)).mono ?_
  rintro e w1 ⟨rfl, q, rfl⟩
  go_wp2_with fail
  refine (HD1.out _ (HE.out.next bw)).mono ?_
  rintro e w2 ⟨v1, d1, rfl, hf1, hb2⟩
  have hB2 : Below w.heap.size w w2 := by refine Below.trans ?_ (hb2.mono (by first | exact Nat.le_refl _ | omega | (simp; done) | (simp; omega))); exact bw
  have k0 : w2.cell? ⟨w.heap.size, 0, none⟩ = some (.int .i64 0) := (hb2.cell (p := ⟨w.heap.size, 0, none⟩) (by simp)).trans (by simp [go_sem])
  have k1 : w2.cell? ⟨w.heap.size, 1, none⟩ = some (.int .i64 0) := (hb2.cell (p := ⟨w.heap.size, 1, none⟩) (by simp)).trans (by simp [go_sem])
  have g0 : w2.frozen? ⟨w.heap.size, 0, none⟩ = false := (hb2.frozen (p := ⟨w.heap.size, 0, none⟩) (by simp)).trans (by simp [go_sem])
  have g1 : w2.frozen? ⟨w.heap.size, 1, none⟩ = false := (hb2.frozen (p := ⟨w.heap.size, 1, none⟩) (by simp)).trans (by simp [go_sem])
  have z2 : w.heap.size < w2.heap.size := by have := hb2.size; simp at this; omega
  have HF1 := Lib.hid hf1
  have HB2 := Lib.hid hB2
  clear hb2 hf1 hB2 HC HD1
  go_wp2_with fail
  refine (HD2.out _ (HE.out.next HB2.out)).mono ?_
  rintro e w3 ⟨v2, d2, rfl, hf2, hb3⟩
  have hB3 : Below w.heap.size w w3 := HB2.out.trans (hb3.mono HB2.out.size)
  have m0 := (hb3.cell (p := ⟨w.heap.size, 0, none⟩) z2).trans k0
  have m1 := (hb3.cell (p := ⟨w.heap.size, 1, none⟩) z2).trans k1
  have n0 := (hb3.frozen (p := ⟨w.heap.size, 0, none⟩) z2).trans g0
  have n1 := (hb3.frozen (p := ⟨w.heap.size, 1, none⟩) z2).trans g1
  have z3 : w.heap.size < w3.heap.size := by have := hb3.size; omega
  have HF2 := Lib.hid hf2
  clear hb3 hf2 k0 k1 g0 g1 z2 HD2 HE
  cases d1
  · have HR : Hid (O = none) := Lib.hid (by rw [HO.out, HF1.out, if_neg (by decide)]; exact rcomb_none _)
    go_wp2_with fail
    exact bodyPost_ret (v := .tuple #[.agg #[.int .i64 0, .int .i64 0], .bool false]) (by simp [results, Tryz.results55, go_sem, *]) rfl (rr_none HR.out bw)
  · cases d2
    · have HR : Hid (O = none) := Lib.hid (by rw [HO.out, HF2.out, if_neg (by decide)]; exact rcomb_none2 _)
      go_wp2_with fail
      exact bodyPost_ret (v := .tuple #[.agg #[.int .i64 0, .int .i64 0], .bool false]) (by simp [results, Tryz.results55, go_sem, *]) rfl (rr_none HR.out bw)
    · obtain ⟨ok, hok⟩ : ∃ ok, rangeOkF v1 v2 = ok := ⟨_, rfl⟩
      have hRO := fun W => rangeOk_any v1 v2 W
      rw [hok] at hRO
      have HRO := Lib.hid hRO
      have HR : Hid (O = (if ok = true then some (v1, v2) else none)) := Lib.hid (by
        rw [HO.out, HF1.out, HF2.out, if_pos rfl, if_pos rfl, rcomb_some, hok])
      clear hRO hok
      go_wp2_with fail
      refine (HRO.out _).mono ?_
      rintro e w4 ⟨rfl, hb4⟩
      have hB4 : Below w.heap.size w w4 := by refine Below.trans ?_ (hb4.mono (by first | exact Nat.le_refl _ | omega | (simp; done) | (simp; omega))); exact bw
      have j0 : w4.cell? ⟨w.heap.size, 0, none⟩ = some (.int .i64 0) := (hb4.cell (p := ⟨w.heap.size, 0, none⟩) (by simp; omega)).trans (by simp [go_sem, World.cell?_alloc_past _ _ _ z3, m0])
      have j1 : w4.cell? ⟨w.heap.size, 1, none⟩ = some (.int .i64 0) := (hb4.cell (p := ⟨w.heap.size, 1, none⟩) (by simp; omega)).trans (by simp [go_sem, World.cell?_alloc_past _ _ _ z3, m1])
      have l0 : w4.frozen? ⟨w.heap.size, 0, none⟩ = false := (hb4.frozen (p := ⟨w.heap.size, 0, none⟩) (by simp; omega)).trans (by simp [go_sem, World.frozen?_alloc_past _ _ _ z3, n0])
      have l1 : w4.frozen? ⟨w.heap.size, 1, none⟩ = false := (hb4.frozen (p := ⟨w.heap.size, 1, none⟩) (by simp; omega)).trans (by simp [go_sem, World.frozen?_alloc_past _ _ _ z3, n1])
      have k2 : w4.cell? ⟨w3.heap.size, 0, none⟩ = some (.int .i64 v1) := (hb4.cell (p := ⟨w3.heap.size, 0, none⟩) (by simp)).trans (by simp)
      have k3 : w4.cell? ⟨w3.heap.size, 1, none⟩ = some (.int .i64 v2) := (hb4.cell (p := ⟨w3.heap.size, 1, none⟩) (by simp)).trans (by simp)
      clear hb4 m0 m1 n0 n1
      cases ok
      · rw [if_neg (by decide)] at HR
        go_wp2_with fail
        exact bodyPost_ret (v := .tuple #[.agg #[.int .i64 0, .int .i64 0], .bool false]) (by simp [results, Tryz.results55, go_sem, *]) rfl (rr_none HR.out bw)
      · rw [if_pos rfl] at HR
        go_wp2_with fail
        exact bodyPost_ret (v := .tuple #[.agg #[.int .i64 v1, .int .i64 v2], .bool true]) (by simp [results, Tryz.results55, go_sem, *]) rfl (rr_some HR.out bw)
end Go.Proofs.YtnecdeaikmhanaaGreatDoor
namespace Go.Proofs.YtnecdeaikmhanaaGreatDoor
open Go.RowKit
set_option linter.unusedVariables false
set_option maxRecDepth 100000
theorem goodP_len {p : List Int} (h : GoodP p) : p.length ≤ 5 := by
  have hn : p.Nodup := List.pairwise_iff_getElem.2 fun i j hi hj hij => by
    have := h.2 i j hij hj
    rw [List.getD_eq_getElem?_getD, List.getD_eq_getElem?_getD, List.getElem?_eq_getElem hi, List.getElem?_eq_getElem hj] at this
    exact this
  refine List.Nodup.length_le_of_subset (l₂ := [1, 2, 3, 4, 5]) hn fun x hx => ?_
  obtain ⟨j, hj, e⟩ := List.getElem_of_mem hx
  obtain ⟨h1, h5⟩ := h.1 j hj
  rw [List.getD_eq_getElem?_getD, List.getElem?_eq_getElem hj] at h1 h5
  simp only [Option.getD_some] at h1 h5
  rw [e] at h1 h5
  have : x = 1 ∨ x = 2 ∨ x = 3 ∨ x = 4 ∨ x = 5 := by omega
  rcases this with rfl | rfl | rfl | rfl | rfl <;> simp
theorem goodP_no {p : List Int} (h : GoodP p) {k : Nat} (hk : k < p.length) : decide (p.getD k 0 ∈ p.take k) = false := by
  rw [decide_eq_false_iff_not]
  intro hm
  obtain ⟨j, hj, e⟩ := List.getElem_of_mem hm
  have hj' : j < k := by rw [List.length_take] at hj; omega
  refine h.2 j k hj' hk ?_
  rw [List.getElem_take] at e
  rw [← e, List.getD_eq_getElem?_getD, List.getElem?_eq_getElem (by omega)]; rfl
theorem l3House_yes (y : Int) (h1 : 1 ≤ y) (h5 : y ≤ 5) (w : World) : Calls Tryz.prog 115 #[.int .i64 y] w fun e w' => e = .returned (.bool true) ∧ w' = w := by
  have hI := in_any y 1 5 w
  rw [decide_eq_true (by omega), decide_eq_true (by omega)] at hI
  have HI := Lib.hid hI
  clear hI h1 h5
  go_enter Tryz.func115, Tryz.ntmps115
  go_wp2_with fail
  refine HI.out.mono ?_
  rintro e w' ⟨rfl, hw⟩
  obtain rfl : w = w' := hw.symm
  go_wp2_with fail
  go_ret
  exact ⟨rfl, rfl⟩
set_option maxHeartbeats 2000000 in
theorem specPathOk_good (v : Value) (l : List Int) (w : World) (hv : IntsAt w v l) (hg : GoodP l) :
    Calls Tryz.prog 79 #[v] w fun e w' => e = .returned (.bool true) ∧ Drew w w' := by
  obtain ⟨a, cap, rfl, hc, hm⟩ := hv.form
  obtain ⟨n, hn⟩ : ∃ n, l.length = n := ⟨_, rfl⟩
  rw [hn] at hc hv ⊢
  have HG := Lib.hid hg
  have HN := Lib.hid hn
  have H := Lib.hid hv
  clear hn hv hg
  go_enter Tryz.func79, Tryz.ntmps79
  go_wp2_with fail
  go_loopg [3] n (fun g i wr => ∃ k : Nat, i = .int .i64 k ∧ k + g = n ∧ Hid (Drew w wr))
  case atStart => exact ⟨0, rfl, by omega, Lib.hid (Drew.refl _)⟩
  case round =>
    obtain ⟨k, rfl, hk, hd⟩ := hrel
    have HR : Hid (IntsAt wr (.slice a n cap) l) := Lib.hid (H.out.below (hd.out.below _))
    by_cases hg : gk = 0
    · subst hg
      obtain rfl : k = n := by omega
      go_wp2_with fail
      go_ret
      exact ⟨rfl, hd.out⟩
    · have hkn : k < n := by omega
      obtain ⟨b, off, rfl, hb, hx⟩ := HR.out.get k hkn
      have hsub : ∀ q, IntsAt (wr.drewN q) (.slice (some ⟨b, off, none⟩) k cap) (l.take k) := fun q => (HR.out.take (by rw [HN.out]; omega)).below (belowDrewN (Below.refl _ _) q)
      have hH : ∀ q, Calls Tryz.prog 116 #[.slice (some ⟨b, off, none⟩) k cap, .int .i64 (l.getD k 0)] (wr.drewN q) fun e w' => e = .returned (.bool (decide (l.getD k 0 ∈ l.take k))) ∧ w' = wr.drewN q := fun q => has_any _ _ _ _ (hsub q)
      have hy15 := HG.out.1 k (by rw [HN.out]; exact hkn)
      have hno := goodP_no HG.out (k := k) (by rw [HN.out]; exact hkn)
      obtain ⟨y, hy⟩ : ∃ y, l.getD k 0 = y := ⟨_, rfl⟩
      rw [hy] at hx hH hy15 hno
      rw [hno] at hH
      have hI := fun w => l3House_yes y hy15.1 hy15.2 w
      have HK := Lib.hid hk
      have HH := Lib.hid hH
      have HI := Lib.hid hI
      have hkI : (k : Int) < (n : Int) := by omega
      clear hH hsub hy hno hk hI hy15
      go_wp2_with fail
      go_quiet (first | (go_at_call 115; exact Calls.quiet_of_same (HI.out _)) | (go_at_call 116; exact Calls.quiet_of_same (HH.out _)))
      go_wp2_with fail
      go_roundg (gk - 1)
      case measure => omega
      case rel => exact ⟨k + 1, by go_num, by have := HK.out; omega, Lib.hid (hd.out.more _)⟩
def ptTo (p : List Int) (j : Nat) : Bs := Lib.join ((p.take j).map fun x => decF x.toNat) [45]
theorem join_snoc (xs : List Bs) (x sep : Bs) : Lib.join (xs ++ [x]) sep = if xs = [] then x else Lib.join xs sep ++ sep ++ x := by
  cases xs with
  | nil => rw [if_pos rfl, List.nil_append, Lib.join_one]
  | cons y t =>
    rw [if_neg (by simp), List.cons_append, Lib.join_cons, Lib.join_cons]
    unfold Lib.joinTail
    simp [List.append_assoc]
theorem ptTo_zero (p : List Int) : ptTo p 0 = [] := by unfold ptTo; simp [Lib.join_nil]
theorem ptTo_succ {p : List Int} {j : Nat} (hj : j < p.length) : ptTo p (j + 1) = (if j = 0 then [] else ptTo p j ++ [45]) ++ decF (p.getD j 0).toNat := by
  unfold ptTo
  have e : p.take (j + 1) = p.take j ++ [p.getD j 0] := by
    rw [List.take_add_one, List.getElem?_eq_getElem hj, List.getD_eq_getElem?_getD, List.getElem?_eq_getElem hj]; rfl
  rw [e, List.map_append, List.map_cons, List.map_nil, join_snoc]
  by_cases h0 : j = 0
  · subst h0; simp
  · rw [if_neg h0, if_neg]
    intro h
    have := congrArg List.length h
    rw [List.length_map, List.length_take, List.length_nil] at this
    omega
theorem ptTo_len {p : List Int} : ∀ {j : Nat}, j ≤ p.length → (ptTo p j).length ≤ 4 * j
  | 0, _ => by rw [ptTo_zero]; simp
  | j + 1, hj => by
    have ih := ptTo_len (p := p) (j := j) (by omega)
    have h1 := (decF_len (p.getD j 0).toNat).2
    rw [ptTo_succ (by omega)]
    split
    · rw [List.nil_append]; omega
    · rw [List.length_append, List.length_append, List.length_singleton]; omega
theorem ptTo_pos {p : List Int} {j : Nat} (hj : j ≤ p.length) (h1 : 1 ≤ j) : 1 ≤ (ptTo p j).length := by
  obtain ⟨k, rfl⟩ : ∃ k, j = k + 1 := ⟨j - 1, by omega⟩
  have := (decF_len (p.getD k 0).toNat).1
  rw [ptTo_succ (by omega), List.length_append]
  omega
theorem ptext_to (p : List Int) : ptextF p = if p.length = 0 then [46] else ptTo p p.length := by
  unfold ptextF ptTo
  rw [List.take_length]
  by_cases h : p = []
  · subst h; rfl
  · rw [if_neg h, if_neg]
    intro e
    exact h (List.eq_nil_of_length_eq_zero e)
set_option maxHeartbeats 4000000 in
theorem specPathText_any (v : Value) (l : List Int) (w : World) (hv : IntsAt w v l) (hg : GoodP l) :
    Calls Tryz.prog 47 #[v] w (DecPost (ptextF l) w) := by
  obtain ⟨a, cap, rfl, hc, hm⟩ := hv.form
  have hok := specPathOk_good _ l w hv hg
  have h5 := goodP_len hg
  obtain ⟨n, hn⟩ : ∃ n, l.length = n := ⟨_, rfl⟩
  obtain ⟨T, hT⟩ : ∃ T : ByteArray, T = ⟨(ptextF l).toArray⟩ := ⟨_, rfl⟩
  have hT0 : n = 0 → T = ⟨#[46]⟩ := fun h => by rw [hT, ptext_to, if_pos (by omega)]
  have hTn : n ≠ 0 → T = ⟨(ptTo l n).toArray⟩ := fun h => by rw [hT, ptext_to, if_neg (by omega), hn]
  unfold DecPost stV
  rw [← hT]
  rw [hn] at hc hv hok h5 ⊢
  have HG := Lib.hid hg
  have HN := Lib.hid hn
  have H := Lib.hid hv
  have HOK := Lib.hid hok
  have H5 := Lib.hid h5
  have HT0 := Lib.hid hT0
  have HTN := Lib.hid hTn
  clear hn hv hg hok h5 hT hT0 hTn
  go_enter Tryz.func47, Tryz.ntmps47
  go_wp2_with fail
  refine HOK.out.mono ?_
  rintro e w1 ⟨rfl, hd1⟩
  have HB1 : Hid (Below w.heap.size w w1) := Lib.hid (hd1.below _)
  have H1 : Hid (IntsAt w1 (.slice a n cap) l) := Lib.hid (H.out.below (hd1.below _))
  have hz1 := hd1.size
  have Z1 := Lib.hid hz1
  clear hd1 HOK H hz1
  go_wp2_with fail
  go_loopg [3, 4] n (fun g s i wr => ∃ k : Nat, i = .int .i64 k ∧ k + g = n ∧ s = .string ⟨(ptTo l k).toArray⟩ ∧ Hid (Below w.heap.size w wr) ∧ Hid (Below w1.heap.size w1 wr))
  case atStart => exact ⟨0, rfl, by omega, by rw [ptTo_zero], HB1, Lib.hid (Below.refl _ _)⟩
  case round =>
    obtain ⟨k, rfl, hk, rfl, hB, hB1⟩ := hrel
    have HR : Hid (IntsAt wr (.slice a n cap) l) := Lib.hid (H1.out.below hB1.out)
    have hl1 := ptTo_len (p := l) (j := k) (by have := HN.out; omega)
    by_cases hg : gk = 0
    · subst hg
      obtain rfl : k = n := by omega
      by_cases h0 : k = 0
      · have e := HT0.out h0
        subst h0
        subst e
        rw [ptTo_zero]
        clear hl1
        go_wp2_with fail
        go_ret
        exact ⟨rfl, hB.out⟩
      · have e := HTN.out h0
        have hp := ptTo_pos (p := l) (j := k) (by have := HN.out; omega) (by omega)
        obtain ⟨S, hS⟩ : ∃ S : ByteArray, (⟨(ptTo l k).toArray⟩ : ByteArray) = S := ⟨_, rfl⟩
        have hne : (S.toList).isEmpty = false := by
          rw [← hS, ByteArray.toList_mk]
          cases hq : ptTo l k with
          | nil => rw [hq] at hp; simp at hp
          | cons x y => rfl
        rw [hS] at e
        subst e
        rw [hS]
        clear hS hp hl1 h0
        go_wp2_with fail
        go_ret
        exact ⟨rfl, hB.out⟩
    · have hkn : k < n := by omega
      obtain ⟨b, off, rfl, hb, hx⟩ := HR.out.get k hkn
      have hy15 := HG.out.1 k (by rw [HN.out]; exact hkn)
      have hs := ptTo_succ (p := l) (j := k) (by have := HN.out; omega)
      obtain ⟨y, hy⟩ : ∃ y, l.getD k 0 = y := ⟨_, rfl⟩
      rw [hy] at hx hy15 hs
      have hD := fun W => dec_int y (by omega) (by omega) W
      have hl2 := (decF_len y.toNat).2
      unfold DecPost stV at hD
      have hk4 : (k : Int) < 1000 := by have := H5.out; omega
      by_cases h0 : k = 0
      · subst h0
        rw [if_pos rfl] at hs
        rw [Nat.add_zero] at hx
        have ha := fun W => add_is [] (decF y.toNat) (by simp; omega) W
        rw [ptTo_zero]
        obtain ⟨T1, hT1⟩ : ∃ T : ByteArray, (⟨(decF y.toNat).toArray⟩ : ByteArray) = T := ⟨_, rfl⟩
        obtain ⟨T2, hT2⟩ : ∃ T : ByteArray, (⟨([] ++ decF y.toNat).toArray⟩ : ByteArray) = T := ⟨_, rfl⟩
        rw [hT1] at hD ha
        rw [hT2] at ha
        have HS : Hid (T2 = ⟨(ptTo l 1).toArray⟩) := Lib.hid (by rw [← hT2, ← hs])
        have HD := Lib.hid hD
        have HK := Lib.hid hk
        clear hD hs hl1 hl2 hy hy15 hT1 hT2 hk
        go_wp2_with fail
        refine (HD.out _).mono ?_
        rintro e w2 ⟨rfl, hb2⟩
        have hB2 : Below w.heap.size w w2 := hB.out.trans (hb2.mono hB.out.size)
        have hB3 : Below w1.heap.size w1 w2 := hB1.out.trans (hb2.mono hB1.out.size)
        clear hb2
        go_wp2_with fail
        go_roundg (gk - 1)
        case measure => omega
        case rel => exact ⟨0 + 1, by go_num, by have := HK.out; omega, by rw [HS.out], Lib.hid hB2, Lib.hid hB3⟩
      · rw [if_neg h0] at hs
        have hk0 : (0 : Int) < (k : Int) := by omega
        have ha1 := fun W => add_is (ptTo l k) [45] (by simp; have := H5.out; omega) W
        have ha2 := fun W => add_is (ptTo l k ++ [45]) (decF y.toNat) (by simp; have := H5.out; omega) W
        rw [show (⟨[(45 : UInt8)].toArray⟩ : ByteArray) = ⟨#[45]⟩ from rfl] at ha1
        obtain ⟨T0, hT0⟩ : ∃ T : ByteArray, (⟨(ptTo l k).toArray⟩ : ByteArray) = T := ⟨_, rfl⟩
        obtain ⟨T1, hT1⟩ : ∃ T : ByteArray, (⟨(decF y.toNat).toArray⟩ : ByteArray) = T := ⟨_, rfl⟩
        obtain ⟨T2, hT2⟩ : ∃ T : ByteArray, (⟨(ptTo l k ++ [45]).toArray⟩ : ByteArray) = T := ⟨_, rfl⟩
        obtain ⟨T3, hT3⟩ : ∃ T : ByteArray, (⟨(ptTo l k ++ [45] ++ decF y.toNat).toArray⟩ : ByteArray) = T := ⟨_, rfl⟩
        rw [hT0] at ha1 ⊢
        rw [hT1] at hD ha2
        rw [hT2] at ha1 ha2
        rw [hT3] at ha2
        have HS : Hid (T3 = ⟨(ptTo l (k + 1)).toArray⟩) := Lib.hid (by rw [← hT3, ← hs])
        have HD := Lib.hid hD
        have HK := Lib.hid hk
        clear hD hs hl1 hl2 hy hy15 hT0 hT1 hT2 hT3 hk h0
        go_wp2_with fail
        refine (HD.out _).mono ?_
        rintro e w2 ⟨rfl, hb2⟩
        have hB2 : Below w.heap.size w w2 := hB.out.trans (hb2.mono hB.out.size)
        have hB3 : Below w1.heap.size w1 w2 := hB1.out.trans (hb2.mono hB1.out.size)
        clear hb2
        go_wp2_with fail
        go_roundg (gk - 1)
        case measure => omega
        case rel => exact ⟨k + 1, by go_num, by have := HK.out; omega, by rw [HS.out], Lib.hid hB2, Lib.hid hB3⟩
end Go.Proofs.YtnecdeaikmhanaaGreatDoor
namespace Go.Proofs.YtnecdeaikmhanaaGreatDoor
open Go.RowKit
set_option linter.unusedVariables false
set_option maxRecDepth 100000
def ptL (p : List Int) (j : Nat) : List Bs := (p.take j).map fun x => decF x.toNat
theorem ptL_len {p : List Int} {j : Nat} (hj : j ≤ p.length) : (ptL p j).length = j := by unfold ptL; rw [List.length_map, List.length_take]; omega
theorem ptL_succ {p : List Int} {j : Nat} (hj : j < p.length) : ptL p (j + 1) = ptL p j ++ [decF (p.getD j 0).toNat] := by
  unfold ptL
  have e : p.take (j + 1) = p.take j ++ [p.getD j 0] := by
    rw [List.take_add_one, List.getElem?_eq_getElem hj, List.getD_eq_getElem?_getD, List.getElem?_eq_getElem hj]; rfl
  rw [e, List.map_append]; rfl
set_option maxHeartbeats 4000000 in
theorem implPathText_any (v : Value) (l : List Int) (w : World) (hv : IntsAt w v l) (hg : GoodP l) (hE : ErrOk w) :
    Calls Tryz.prog 64 #[v] w (DecPost (ptextF l) w) := by
  obtain ⟨a, cap, rfl, hc, hm⟩ := hv.form
  have hok := pathOk_good _ l w hv hg hE
  have h5 := goodP_len hg
  obtain ⟨n, hn⟩ : ∃ n, l.length = n := ⟨_, rfl⟩
  obtain ⟨T, hT⟩ : ∃ T : ByteArray, T = ⟨(ptextF l).toArray⟩ := ⟨_, rfl⟩
  have hT0 : n = 0 → T = ⟨#[46]⟩ := fun h => by rw [hT, ptext_to, if_pos (by omega)]
  have hTn : n ≠ 0 → T = ⟨(Lib.join (ptL l n) [45]).toArray⟩ := fun h => by rw [hT, ptext_to, if_neg (by omega), hn]; rfl
  unfold DecPost stV
  rw [← hT]
  rw [hn] at hc hv hok h5 ⊢
  have HG := Lib.hid hg
  have HN := Lib.hid hn
  have H := Lib.hid hv
  have HOK := Lib.hid hok
  have H5 := Lib.hid h5
  have HT0 := Lib.hid hT0
  have HTN := Lib.hid hTn
  clear hn hv hg hok h5 hT hT0 hTn hE
  by_cases h0 : n = 0
  · have e := HT0.out h0
    subst h0
    subst e
    clear HT0 HTN
    go_enter Tryz.func64, Tryz.ntmps64
    go_wp2_with fail
    refine HOK.out.mono ?_
    rintro e w1 ⟨rfl, hb1⟩
    have HB1 := Lib.hid hb1
    clear hb1
    go_wp2_with fail
    go_ret
    exact ⟨rfl, HB1.out⟩
  have e := HTN.out h0
  have HE := Lib.hid e
  have h0' : (((n : Nat) : Int) == 0) = false := by rw [beq_eq_false_iff_ne]; omega
  have H0 := Lib.hid h0
  clear e HT0 HTN h0
  go_enter Tryz.func64, Tryz.ntmps64
  go_wp2_with fail
  refine HOK.out.mono ?_
  rintro e w1 ⟨rfl, hb1⟩
  have HB1 : Hid (Below w.heap.size w w1) := Lib.hid hb1
  have H1 : Hid (IntsAt w1 (.slice a n cap) l) := Lib.hid (H.out.below hb1)
  have Z1 := Lib.hid hb1.size
  clear hb1 HOK H
  go_wp2_with fail
  go_loopg [3, 16] n (fun g u i wr => ∃ k : Nat, i = .int .i64 k ∧ k + g = n ∧ Hid (StrNew wr w1.heap.size u (ptL l k)) ∧ Hid (Below w1.heap.size w1 wr))
  case atStart => exact ⟨0, rfl, by omega, Lib.hid (by unfold ptL; rw [List.take_zero]; exact World.ownsRow_nil _ _ _ _), Lib.hid (Below.refl _ _)⟩
  case round =>
    obtain ⟨k, rfl, hk, hS, hB1⟩ := hrel
    have HR : Hid (IntsAt wr (.slice a n cap) l) := Lib.hid (H1.out.below hB1.out)
    obtain ⟨sa, sc, rfl, hsc, hsm⟩ := hS.out.form
    by_cases hg : gk = 0
    · subst hg
      obtain rfl : k = n := by omega
      have hl := ptL_len (p := l) (j := k) (by have := HN.out; omega)
      have hJ := join_any _ (ptL l k) [45] wr hS.out.strs (by
        have := ptTo_len (p := l) (j := k) (by have := HN.out; omega)
        unfold ptTo at this
        have := H5.out
        unfold ptL
        omega) (by have := H5.out; omega)
      rw [hl] at hJ hsc ⊢
      unfold stV at hJ
      rw [← HE.out] at hJ
      have HJ := Lib.hid hJ
      clear hJ hl
      go_wp2_with fail
      refine HJ.out.mono ?_
      rintro e w2 ⟨rfl, hb2⟩
      have hB2 : Below w.heap.size w w2 := HB1.out.trans ((hB1.out.mono Z1.out).trans (hb2.mono (by have := hB1.out.size; have := Z1.out; omega)))
      clear hb2
      go_wp2_with fail
      go_ret
      exact ⟨rfl, hB2⟩
    · have hkn : k < n := by omega
      obtain ⟨b, off, rfl, hb, hx⟩ := HR.out.get k hkn
      have hy15 := HG.out.1 k (by rw [HN.out]; exact hkn)
      have hs := ptL_succ (p := l) (j := k) (by have := HN.out; omega)
      have hl := ptL_len (p := l) (j := k) (by have := HN.out; omega)
      obtain ⟨y, hy⟩ : ∃ y, l.getD k 0 = y := ⟨_, rfl⟩
      rw [hy] at hx hy15 hs
      have hI := fun W => itoa_small y.toNat (by omega) W
      rw [show ((y.toNat : Nat) : Int) = y by omega] at hI
      have hk4 : (k : Int) < 1000 := by have := H5.out; omega
      have HS2 : Hid (StrNew wr w1.heap.size (.slice sa k sc) (ptL l k)) := Lib.hid (by have := hS.out; rw [hl] at this; exact this)
      rw [hl] at hsc ⊢
      obtain ⟨s, hs'⟩ : ∃ s, decF y.toNat = s := ⟨_, rfl⟩
      rw [hs'] at hI hs
      have HI := Lib.hid hI
      have HL := Lib.hid hl
      have HS := Lib.hid hs
      have HK := Lib.hid hk
      have hkI : (k : Int) < (n : Int) := by omega
      have Zr := Lib.hid hB1.out.size
      clear hI hl hs hs' hk hy hy15
      go_wp2_with fail
      refine (HI.out _).mono ?_
      rintro e w' ⟨rfl, rfl⟩
      go_wp2_with (at_builtin; go_loud (refine wpList_append_str rfl (.tmp 20) (.tmp 23) rfl w1.heap.size _ s (ptL l k) k HL.out rfl HS2.out Zr.out _ rfl rfl (by have := H5.out; omega) ?_); intro ad cc w4 hO4 hb4 hs4; have O4 := Lib.hid hO4; have B4 := Lib.hid (hB1.out.trans hb4); clear hO4 hb4 hs4)
      go_roundg (gk - 1)
      case measure => omega
      case rel => exact ⟨k + 1, by go_num, by have := HK.out; omega, Lib.hid (by rw [HS.out]; exact O4.out), B4⟩
end Go.Proofs.YtnecdeaikmhanaaGreatDoor
namespace Go.Proofs.YtnecdeaikmhanaaGreatDoor
set_option linter.unusedVariables false
def BestQ (rs : List (List Int)) (l : List Ent) (n : Nat) (x : Int) (i q : Nat) : Prop :=
  q < l.length ∧ hasF (l.getD q (0, 0, 0)).1 (l.getD q (0, 0, 0)).2.1 x = true ∧ (end31 rs (l.getD q (0, 0, 0)).2.2 n).getD i [] ≠ [] ∧
    ∀ q', q' < l.length → hasF (l.getD q' (0, 0, 0)).1 (l.getD q' (0, 0, 0)).2.1 x = true → (end31 rs (l.getD q' (0, 0, 0)).2.2 n).getD i [] ≠ [] → (l.getD q' (0, 0, 0)).2.1 ≤ (l.getD q (0, 0, 0)).2.1
theorem same_bits {rs : List (List Int)} {l : List Ent} {q q' : Nat} {x : Int} (hok : homesOkF rs l = true) (hq : q < l.length) (hq' : q' < l.length)
    (hx : hasF (l.getD q (0, 0, 0)).1 (l.getD q (0, 0, 0)).2.1 x = true) (hx' : hasF (l.getD q' (0, 0, 0)).1 (l.getD q' (0, 0, 0)).2.1 x = true) (hb : (l.getD q' (0, 0, 0)).2.1 = (l.getD q (0, 0, 0)).2.1) : q' = q := by
  obtain ⟨_, _, a0, a1, am⟩ := rangeOk_parts (homes_house hok hq).2.2
  obtain ⟨_, _, b0, b1, bm⟩ := rangeOk_parts (homes_house hok hq').2.2
  refine rise_same (homes_rise hok) hq hq' ?_ hb
  unfold hasF at hx hx'
  rw [decide_eq_true_eq] at hx hx'
  rw [hb] at hx' bm
  have e : (l.getD q' (0, 0, 0)).1 / sizeF (l.getD q (0, 0, 0)).2.1 = (l.getD q (0, 0, 0)).1 / sizeF (l.getD q (0, 0, 0)).2.1 := hx'.symm.trans hx
  have h1 := Int.mul_ediv_add_emod (l.getD q (0, 0, 0)).1 (sizeF (l.getD q (0, 0, 0)).2.1)
  have h2 := Int.mul_ediv_add_emod (l.getD q' (0, 0, 0)).1 (sizeF (l.getD q (0, 0, 0)).2.1)
  rw [am] at h1
  rw [bm, e] at h2
  omega
theorem next_best {rs : List (List Int)} {l : List Ent} {n i q : Nat} {x : Int} (hok : homesOkF rs l = true) (hn : rs.length = n) (hi : i < n) (hB : BestQ rs l n x i q) :
    nextF (sendTabsF rs l n) x ((i : Int) + 1) = viaF ((end31 rs (l.getD q (0, 0, 0)).2.2 n).getD i []) (l.getD q (0, 0, 0)).2.2 := by
  obtain ⟨hq, hx, hne, hmax⟩ := hB
  have hmem := tabF_has rs n l i l.length q hq hne
  obtain ⟨i0, i8, _⟩ := rangeOk_parts (homes_house hok hq).2.2
  obtain ⟨K, hK⟩ : ∃ K : Nat, (l.getD q (0, 0, 0)).2.1 = (K : Int) := ⟨((l.getD q (0, 0, 0)).2.1).toNat, by omega⟩
  have hxi : x / sizeF (l.getD q (0, 0, 0)).2.1 = (l.getD q (0, 0, 0)).1 / sizeF (l.getD q (0, 0, 0)).2.1 := by
    have h := hx
    unfold hasF at h
    rw [decide_eq_true_eq] at h
    exact h
  have hbest : ∀ e, e ∈ tabF rs n l i l.length → hasF e.1 e.2.1 x = true → e.2.1 ≤ (l.getD q (0, 0, 0)).2.1 ∧ (e.2.1 = (l.getD q (0, 0, 0)).2.1 → e.2.2 = viaF ((end31 rs (l.getD q (0, 0, 0)).2.2 n).getD i []) (l.getD q (0, 0, 0)).2.2) := fun e he hex => by
    obtain ⟨p, hp, e1, e2, e3, e4⟩ := tabF_ranges rs n l i l.length e he
    rw [e1, e2] at hex
    refine ⟨by rw [e2]; exact hmax p hp hex e3, fun hb => ?_⟩
    rw [e2] at hb
    obtain rfl := same_bits hok hq hp hx hex hb
    exact e4
  have hpos := via_pos hn hi hne
  unfold nextF
  rw [show ((i : Int) + 1 - 1).toNat = i by omega, sendTabs_get hok hn hi]
  refine fV_at (K := K) (by omega) ?_ 9 (by omega) (fun k h1 h2 => ?_)
  · rw [← hK]
    exact vF_same ⟨_, hmem, hK, by rw [hxi]⟩ (fun e he e1 e2 => (hbest e he (by unfold hasF; rw [decide_eq_true_eq, e2]; rw [e1, ← hK])).2 (by rw [e1, ← hK]))
  · refine vF_zero (fun e he h => ?_)
    have := (hbest e he (by unfold hasF; rw [decide_eq_true_eq, h.2, h.1])).1
    rw [h.1, hK] at this
    omega
theorem greatest (P : Nat → Prop) (g : Nat → Int) : ∀ m, (∃ q, q < m ∧ P q) → ∃ q, q < m ∧ P q ∧ ∀ q', q' < m → P q' → g q' ≤ g q
  | 0, h => by obtain ⟨q, hq, _⟩ := h; omega
  | m + 1, h => by
    rcases Classical.em (∃ q, q < m ∧ P q) with h' | h'
    · obtain ⟨q, hq, hP, hm⟩ := greatest P g m h'
      rcases Classical.em (P m ∧ g q < g m) with hc | hc
      · refine ⟨m, by omega, hc.1, fun q' hq' hP' => ?_⟩
        by_cases e : q' = m
        · subst e; omega
        · have := hm q' (by omega) hP'; omega
      · refine ⟨q, by omega, hP, fun q' hq' hP' => ?_⟩
        by_cases e : q' = m
        · subst e
          rcases Int.lt_or_le (g q) (g q') with h1 | h1
          · exact absurd ⟨hP', h1⟩ hc
          · exact h1
        · exact hm q' (by omega) hP'
    · obtain ⟨q, hq, hP⟩ := h
      have e : q = m := by
        rcases Nat.lt_or_ge q m with h1 | h1
        · exact absurd ⟨q, h1, hP⟩ h'
        · omega
      subst e
      refine ⟨q, by omega, hP, fun q' hq' hP' => ?_⟩
      rcases Nat.lt_or_ge q' q with h1 | h1
      · exact absurd ⟨q', h1, hP'⟩ h'
      · have : q' = q := by omega
        subst this; omega
theorem best_or (rs : List (List Int)) (l : List Ent) (n : Nat) (x : Int) (i : Nat) : (∃ q, BestQ rs l n x i q) ∨ ∀ q, q < l.length → hasF (l.getD q (0, 0, 0)).1 (l.getD q (0, 0, 0)).2.1 x = true → (end31 rs (l.getD q (0, 0, 0)).2.2 n).getD i [] = [] := by
  rcases Classical.em (∃ q, q < l.length ∧ (hasF (l.getD q (0, 0, 0)).1 (l.getD q (0, 0, 0)).2.1 x = true ∧ (end31 rs (l.getD q (0, 0, 0)).2.2 n).getD i [] ≠ [])) with h | h
  · obtain ⟨q, hq, hP, hm⟩ := greatest (fun q => hasF (l.getD q (0, 0, 0)).1 (l.getD q (0, 0, 0)).2.1 x = true ∧ (end31 rs (l.getD q (0, 0, 0)).2.2 n).getD i [] ≠ []) (fun q => (l.getD q (0, 0, 0)).2.1) l.length h
    exact .inl ⟨q, hq, hP.1, hP.2, fun q' h1 h2 h3 => hm q' h1 ⟨h2, h3⟩⟩
  · refine .inr (fun q hq hx => ?_)
    rcases Classical.em ((end31 rs (l.getD q (0, 0, 0)).2.2 n).getD i [] = []) with e | e
    · exact e
    · exact absurd ⟨q, hq, hx, e⟩ h
theorem best_one {rs : List (List Int)} {l : List Ent} {n i q q' : Nat} {x : Int} (hok : homesOkF rs l = true) (h : BestQ rs l n x i q) (h' : BestQ rs l n x i q') : q' = q := by
  refine same_bits hok h.1 h'.1 h.2.1 h'.2.1 ?_
  have h1 := h.2.2.2 q' h'.1 h'.2.1 h'.2.2.1
  have h2 := h'.2.2.2 q h.1 h.2.1 h.2.2.1
  omega
def FarBy (rs : List (List Int)) (l : List Ent) (n : Nat) (x : Int) (g : Int → Int) : Prop :=
  ∀ i q : Nat, BestQ rs l n x i q → g ((i : Int) + 1) = 10 * (l.getD q (0, 0, 0)).2.1 - (((end31 rs (l.getD q (0, 0, 0)).2.2 n).getD i []).length : Int)
theorem far_by {rs : List (List Int)} {l : List Ent} {n : Nat} {x : Int} (hok : homesOkF rs l = true) : ∃ g, FarBy rs l n x g := by
  classical
  refine ⟨fun h => if hex : ∃ q, BestQ rs l n x (h - 1).toNat q then 10 * (l.getD hex.choose (0, 0, 0)).2.1 - (((end31 rs (l.getD hex.choose (0, 0, 0)).2.2 n).getD (h - 1).toNat []).length : Int) else 0, fun i q h => ?_⟩
  have hi : ((i : Int) + 1 - 1).toNat = i := by omega
  simp only [hi]
  have hex : ∃ q, BestQ rs l n x i q := ⟨q, h⟩
  rw [dif_pos hex, best_one hok h hex.choose_spec]
theorem far_step {rs : List (List Int)} {l : List Ent} {n i j : Nat} {x : Int} {g : Int → Int} (hg : FarBy rs l n x g) (hok : homesOkF rs l = true) (hn : rs.length = n) (h5 : n ≤ 5) (hi : i < n) (hj : j < n) (hne : j ≠ i)
    (hf : nextF (sendTabsF rs l n) x ((i : Int) + 1) = (j : Int) + 1) : g ((i : Int) + 1) < g ((j : Int) + 1) := by
  rcases best_or rs l n x i with ⟨q, hq⟩ | hno
  · have R := end_tail (home := (l.getD q (0, 0, 0)).2.2) hn (relsOk_mirror hn (homesOk_all hok).1)
    rw [next_best hok hn hi hq] at hf
    have hfar : (i : Int) + 1 ≠ (l.getD q (0, 0, 0)).2.2 := fun e => by
      have := (via_own (rs := rs) hi e).2
      rw [this, ← e] at hf
      omega
    obtain ⟨b, hb, hbn, e3⟩ := R.tail i hi hfar hq.2.2.1
    obtain ⟨_, e4, _⟩ := via_far hn hi hfar hq.2.2.1
    have hbj : b = j := by
      have h0 := R.head b hb hbn
      rw [e4, e3] at hf
      have : (((i : Int) + 1) :: (end31 rs (l.getD q (0, 0, 0)).2.2 n).getD b []).getD 1 0 = ((end31 rs (l.getD q (0, 0, 0)).2.2 n).getD b []).getD 0 0 := by simp
      rw [this, h0] at hf
      omega
    subst hbj
    rcases best_or rs l n x b with ⟨q2, hq2⟩ | hno2
    · rw [hg _ _ hq, hg _ _ hq2]
      have hle := hq2.2.2.2 q hq.1 hq.2.1 hbn
      have hl : ((end31 rs (l.getD q (0, 0, 0)).2.2 n).getD i []).length = ((end31 rs (l.getD q (0, 0, 0)).2.2 n).getD b []).length + 1 := by rw [e3, List.length_cons]
      have hs : ((end31 rs (l.getD q2 (0, 0, 0)).2.2 n).getD b []).length ≤ n := net_short hn hb _
      by_cases he : (l.getD q (0, 0, 0)).2.1 = (l.getD q2 (0, 0, 0)).2.1
      · obtain rfl := same_bits hok hq2.1 hq.1 hq2.2.1 hq.2.1 he
        omega
      · omega
    · exact absurd (hno2 q hq.1 hq.2.1) hbn
  · have := next_none hok hn hi hno
    rw [this] at hf
    omega
theorem goW_up {f g : Int → Int} {n : Nat} (hs : ∀ h, 1 ≤ h → h ≤ (n : Int) → f h ≠ h → 1 ≤ f h → f h ≤ (n : Int) → g h < g (f h)) : ∀ (k : Nat) (h : Int) (acc : List Int), 1 ≤ h → h ≤ (n : Int) →
    acc.Pairwise (fun a b => g a < g b) → (∀ a, a ∈ acc → g a ≤ g h ∧ 1 ≤ a ∧ a ≤ (n : Int)) → (goW f n k h acc).1.Pairwise (fun a b => g a < g b) ∧ ∀ a, a ∈ (goW f n k h acc).1 → 1 ≤ a ∧ a ≤ (n : Int)
  | 0, h, acc, _, _, hp, ha => ⟨hp, fun a hm => (ha a hm).2⟩
  | k + 1, h, acc, h1, hn, hp, ha => by
    unfold goW
    split
    · exact ⟨hp, fun a hm => (ha a hm).2⟩
    · rename_i hne
      split
      · exact ⟨hp, fun a hm => (ha a hm).2⟩
      · rename_i hb
        have hlt := hs h h1 hn hne (by omega) (by omega)
        refine goW_up hs k (f h) _ (by omega) (by omega) ?_ (fun a hm => ?_)
        · rw [List.pairwise_append]
          refine ⟨hp, by simp, fun a hm b hb' => ?_⟩
          rw [List.mem_singleton] at hb'
          subst hb'
          have := (ha a hm).1
          omega
        · rcases List.mem_append.1 hm with hm | hm
          · have := ha a hm; exact ⟨by omega, this.2⟩
          · rw [List.mem_singleton] at hm
            subst hm
            exact ⟨Int.le_refl _, by omega, by omega⟩
theorem way_good {rs : List (List Int)} {l : List Ent} {n : Nat} {h x : Int} (hok : homesOkF rs l = true) (hn : rs.length = n) (h1 : 1 ≤ n) (h5 : n ≤ 5) (hh1 : 1 ≤ h) (hhn : h ≤ (n : Int)) (hx : addrF x = true) : GoodP (wayF (sendTabsF rs l n) h x).1 := by
  unfold wayF
  rw [if_pos ⟨tabs_ok hok hn h1 h5, hh1, by rw [sendTabs_len2 hok]; exact hhn, hx⟩, sendTabs_len2 hok]
  obtain ⟨g, hg⟩ := far_by (n := n) (x := x) hok
  obtain ⟨a1, a2⟩ := goW_up (f := nextF (sendTabsF rs l n) x) (g := g) (n := n) (fun y y1 yn hne f1 fn => by
    obtain ⟨i, rfl⟩ : ∃ i : Nat, y = (i : Int) + 1 := ⟨(y - 1).toNat, by omega⟩
    obtain ⟨j, hj⟩ : ∃ j : Nat, nextF (sendTabsF rs l n) x ((i : Int) + 1) = (j : Int) + 1 := ⟨(nextF (sendTabsF rs l n) x ((i : Int) + 1) - 1).toNat, by omega⟩
    rw [hj] at hne f1 fn ⊢
    exact far_step hg hok hn h5 (by omega) (by omega) (by omega) hj) n h [h] hh1 hhn (by simp) (fun a ha => by rw [List.mem_singleton] at ha; subst ha; exact ⟨Int.le_refl _, hh1, hhn⟩)
  refine goodP_of (fun z hz => by have := a2 z hz; omega) ?_
  exact a1.imp (fun hlt e => by subst e; omega)
end Go.Proofs.YtnecdeaikmhanaaGreatDoor
namespace Go.Proofs.YtnecdeaikmhanaaGreatDoor
open Go.RowKit
set_option linter.unusedVariables false
set_option maxRecDepth 100000
theorem goodP_mem {l : List Int} (hn : l.Nodup) (h : ∀ z, z ∈ l → 1 ≤ z ∧ z ≤ 5) : GoodP l := by
  refine ⟨fun j hj => ?_, fun i j hij hj => ?_⟩
  · rw [List.getD_eq_getElem?_getD, List.getElem?_eq_getElem hj]
    exact h _ (List.getElem_mem _)
  · rw [List.getD_eq_getElem?_getD, List.getD_eq_getElem?_getD, List.getElem?_eq_getElem hj, List.getElem?_eq_getElem (by omega : i < l.length)]
    exact List.pairwise_iff_getElem.1 hn i j (by omega) hj hij
theorem order_good {R : List (List Int)} (h : freeF R = true) : GoodP (relsOrderF R) := by
  unfold relsOrderF
  rw [if_pos h]
  unfold freeF at h
  rw [Bool.and_eq_true] at h
  have hb := rels_bounds h.1
  obtain ⟨h1, h2⟩ := ordTo_in R R.length R.length
  exact goodP_mem h2 fun z hz => by have := h1 z hz; omega
theorem BoardAt.load {w : World} {lo hi k : Nat} {R : List (List Int)} {H : List Ent} (h : BoardAt w lo hi k R H) :
    ∃ v u, w.cell? ⟨k, 0, none⟩ = some v ∧ w.cell? ⟨k, 1, none⟩ = some u ∧ RowsAt w v R ∧ EntsAt w u H ∧ (∃ a n c, v = .slice a n c) ∧ (∃ a n c, u = .slice a n c) := by
  obtain ⟨v, hv, hM⟩ := h.rels
  obtain ⟨u, hu, hH⟩ := h.homes
  obtain ⟨a, c, e, _⟩ := hM.form
  obtain ⟨a2, c2, e2, _⟩ := hH.1.form
  exact ⟨v, u, hv, hu, hM.rows, hH.1, ⟨_, _, _, e⟩, ⟨_, _, _, e2⟩⟩
theorem ptext_short {p : List Int} (h : GoodP p) : (ptextF p).length ≤ 30 := by
  rw [ptext_to]
  have := goodP_len h
  have := ptTo_len (p := p) (j := p.length) (Nat.le_refl _)
  split
  · simp
  · omega
theorem do_good {lo hi k : Nat} {s : LSt} {o : Bs} {w w' : World} {T : ByteArray} (hB : BoardAt w lo hi k s.rels s.homes) (hb : Below w.heap.size w w') (hT : T = ⟨o.toArray⟩) : DoPost lo hi k (s, o) w (.returned (.string T)) w' :=
  ⟨.inl (by rw [hT]), hB.below hb, Within.of_below hb⟩
set_option maxHeartbeats 4000000 in
theorem free_any (lo hi k : Nat) (s : LSt) (v : Value) (w : World) (hB : BoardAt w lo hi k s.rels s.homes) (E : EnvOk w) :
    Calls Tryz.prog 36 #[.pointer (some ⟨k, 0, none⟩), v] w (DoPost lo hi k (s, freeLine s) w) := by
  have HB := Lib.hid hB
  obtain ⟨vr, vh, c0, c1, hR, hH, ⟨ra, rn, rc, rfl⟩, ⟨ha, hn, hc, rfl⟩⟩ := hB.load
  have HO := Lib.hid (relsOrder_any _ s.rels w hR)
  have HE := Lib.hid E
  unfold freeLine
  clear hB hR hH E c1
  cases hf : freeF s.rels with
  | false =>
    rw [if_neg (by decide)]
    have HF := Lib.hid hf
    clear hf
    go_enter Tryz.func36, Tryz.ntmps36
    go_wp2_with fail
    refine HO.out.mono ?_
    rintro e w1 ⟨v', rfl, _, hb1⟩
    have HB1 := Lib.hid hb1
    rw [HF.out]
    clear hb1
    go_wp2_with fail
    go_ret
    exact do_good HB.out HB1.out rfl
  | true =>
    rw [if_pos rfl]
    have hg := order_good hf
    have hl := ptext_short hg
    have HF := Lib.hid hf
    have HG := Lib.hid hg
    have ha := fun W => add_is (ptextF (relsOrderF s.rels)) [10] (by simp; omega) W
    rw [show (⟨[(10 : UInt8)].toArray⟩ : ByteArray) = ⟨#[10]⟩ from rfl] at ha
    have hP : ∀ W u, IntsAt W u (relsOrderF s.rels) → EnvOk W → Calls Tryz.prog 64 #[u] W (DecPost (ptextF (relsOrderF s.rels)) W) := fun W u hu EW => implPathText_any u _ W hu hg EW.err
    unfold DecPost stV at hP
    obtain ⟨T1, hT1⟩ : ∃ T : ByteArray, (⟨(ptextF (relsOrderF s.rels)).toArray⟩ : ByteArray) = T := ⟨_, rfl⟩
    obtain ⟨T2, hT2⟩ : ∃ T : ByteArray, T = (⟨(ptextF (relsOrderF s.rels) ++ [10]).toArray⟩ : ByteArray) := ⟨_, rfl⟩
    rw [hT1] at hP ha
    rw [← hT2] at ha
    have HP := Lib.hid hP
    have HT := Lib.hid hT2
    clear hf hg hl hP hT1 hT2
    go_enter Tryz.func36, Tryz.ntmps36
    go_wp2_with fail
    refine HO.out.mono ?_
    rintro e w1 ⟨v', rfl, ho, hb1⟩
    have HB1 := Lib.hid hb1
    have HI : Hid (IntsAt w1 v' (relsOrderF s.rels)) := Lib.hid ho.ints
    rw [HF.out]
    clear hb1 ho
    go_wp2_with fail
    refine (HP.out _ _ HI.out (HE.out.next HB1.out)).mono ?_
    rintro e w2 ⟨rfl, hb2⟩
    have HB2 : Hid (Below w.heap.size w w2) := Lib.hid (HB1.out.trans (hb2.mono HB1.out.size))
    clear hb2
    go_wp2_with fail
    go_ret
    exact do_good HB.out HB2.out HT.out
theorem end_len {R : List (List Int)} (hl : R.length = 4) (x : Int) : (end31 R x 4).length = 4 := (endTo31_ways (home := x) hl (by omega) (4 * 4 * 4)).len
set_option maxHeartbeats 4000000 in
theorem send_any (lo hi k : Nat) (s : LSt) (v : Value) (ws : List Bs) (w : World) (hB : BoardAt w lo hi k s.rels s.homes) (hS : StrsAt w v ws) (E : EnvOk w) (hst : StOk s) :
    Calls Tryz.prog 35 #[.pointer (some ⟨k, 0, none⟩), v] w (DoPost lo hi k (s, sendLine s ws) w) := by
  have HB := Lib.hid hB
  have HE := Lib.hid E
  have e1 : wordF ws 1 = ws.getD 1 [] := rfl
  have e2 : wordF ws 2 = ws.getD 2 [] := rfl
  unfold sendLine
  rw [e1, e2]
  clear e1 e2
  obtain ⟨s1, hs1⟩ : ∃ x, ws.getD 1 [] = x := ⟨_, rfl⟩
  obtain ⟨s2, hs2⟩ : ∃ x, ws.getD 2 [] = x := ⟨_, rfl⟩
  rw [hs1, hs2]
  have hA1 : Calls Tryz.prog 37 #[v, .int .i64 1] w fun e w' => e = .returned (stV s1) ∧ w = w' := by rw [← hs1]; exact at_1 v ws w hS
  have hA2 : ∀ W, Below w.heap.size w W → Calls Tryz.prog 66 #[v, .int .i64 2] W fun e w' => e = .returned (.int .i64 (numF s2)) ∧ Below W.heap.size W w' := fun W hb => number_of v 2 s2 W (by rw [← hs2]; exact at_2 v ws W (hS.below hb))
  have HA2 := Lib.hid hA2
  cases hc1 : in14 (numF s1) with
  | false =>
    rw [if_neg (by simp)]
    have HH := Lib.hid (house_no v 1 s1 w hA1 hc1)
    clear hc1 hs1 hs2 hA1 hA2 hB hS E
    go_enter Tryz.func35, Tryz.ntmps35
    go_wp2_with fail
    refine HH.out.mono ?_
    rintro e w1 ⟨rfl, hb1⟩
    have HB1 := Lib.hid hb1
    clear hb1
    go_wp2_with fail
    exact ⟨rfl, do_bad HB.out HB1.out⟩
  | true =>
    have HH := Lib.hid (house_yes v 1 s1 w hA1 hc1)
    obtain ⟨X, hX⟩ : ∃ X, numF s1 = X := ⟨_, rfl⟩
    obtain ⟨Y, hY⟩ : ∃ Y, numF s2 = Y := ⟨_, rfl⟩
    rw [hX] at HH hc1 ⊢
    rw [hY] at HA2 ⊢
    have hx : 1 ≤ X ∧ X ≤ 4 := by unfold in14 at hc1; simpa using hc1
    have hAd := fun W => isAddr_any Y W
    cases hc2 : addrF Y with
    | false =>
      rw [if_neg (by simp)]
      rw [hc2] at hAd
      have HAD := Lib.hid hAd
      clear hc1 hc2 hs1 hs2 hA1 hA2 hB hS E hX hY hx hAd
      go_enter Tryz.func35, Tryz.ntmps35
      go_wp2_with fail
      refine HH.out.mono ?_
      rintro e w1 ⟨rfl, hb1⟩
      have HB1 := Lib.hid hb1
      clear hb1
      go_wp2_with fail
      refine (HA2.out _ HB1.out).mono ?_
      rintro e w2 ⟨rfl, hb2⟩
      have HB2 : Hid (Below w.heap.size w w2) := Lib.hid (HB1.out.trans (hb2.mono HB1.out.size))
      clear hb2
      go_wp2_with fail
      refine (HAD.out _).mono ?_
      rintro e w3 ⟨rfl, hd3⟩
      have HB3 : Hid (Below w.heap.size w w3) := Lib.hid (HB2.out.trans (hd3.below _))
      clear hd3
      go_wp2_with fail
      refine (need_no _).mono ?_
      rintro e w' ⟨rfl, rfl⟩
      go_wp2_with fail
      exact ⟨rfl, do_bad HB.out HB3.out⟩
    | true =>
      rw [if_pos ⟨rfl, rfl⟩]
      rw [hc2] at hAd
      have HAD := Lib.hid hAd
      have hg := way_good (x := Y) (h := X) hst.hom hst.len (by omega) (by omega) hx.1 (by omega) hc2
      obtain ⟨P, hP⟩ : ∃ P, wayF (sendTabsF s.rels s.homes 4) X Y = P := ⟨_, rfl⟩
      rw [hP] at hg ⊢
      have hl := ptext_short hg
      have hT : ∀ W vr vh, RowsAt W vr s.rels → EntsAt W vh s.homes → EnvOk W → Calls Tryz.prog 69 #[vr, vh] W fun e w' => ∃ v', e = .returned v' ∧ TabsL w' W.heap.size v' (sendTabsF s.rels s.homes 4) ∧ Below W.heap.size W w' := fun W vr vh h1 h2 h3 => implSendTables_any vr vh _ _ 4 W h1 h2 hst.len h3.err
      have hW : ∀ W vt, TabsAt W vt (sendTabsF s.rels s.homes 4) → Calls Tryz.prog 68 #[vt, .int .i64 X, .int .i64 Y] W (WayPost P W) := fun W vt h => by have := implSendWay_any vt _ X Y W h; rw [hP] at this; exact this
      have hPT : ∀ W u, IntsAt W u P.1 → EnvOk W → Calls Tryz.prog 64 #[u] W (DecPost (ptextF P.1) W) := fun W u hu EW => implPathText_any u _ W hu hg EW.err
      have ha1 := fun W => add_is (ptextF P.1) sHomeEnd (by simp [sHomeEnd]; omega) W
      have ha2 := fun W => add_is (ptextF P.1) sLost (by simp [sLost]; omega) W
      rw [show (⟨sHomeEnd.toArray⟩ : ByteArray) = ⟨#[32, 104, 111, 109, 101, 10]⟩ from rfl] at ha1
      rw [show (⟨sLost.toArray⟩ : ByteArray) = ⟨#[32, 108, 111, 115, 116, 10]⟩ from rfl] at ha2
      unfold DecPost stV at hPT
      obtain ⟨T1, hT1⟩ : ∃ T : ByteArray, (⟨(ptextF P.1).toArray⟩ : ByteArray) = T := ⟨_, rfl⟩
      obtain ⟨T2, hT2⟩ : ∃ T : ByteArray, T = (⟨(ptextF P.1 ++ sHomeEnd).toArray⟩ : ByteArray) := ⟨_, rfl⟩
      obtain ⟨T3, hT3⟩ : ∃ T : ByteArray, T = (⟨(ptextF P.1 ++ sLost).toArray⟩ : ByteArray) := ⟨_, rfl⟩
      rw [hT1] at hPT ha1 ha2
      rw [← hT2] at ha1
      rw [← hT3] at ha2
      obtain ⟨o, ho⟩ : ∃ o, ptextF P.1 ++ (if P.2 = true then sHomeEnd else sLost) = o := ⟨_, rfl⟩
      rw [ho]
      have HOO := Lib.hid ho
      obtain ⟨pb, hpb⟩ : ∃ b, P.2 = b := ⟨_, rfl⟩
      have HPB := Lib.hid hpb
      clear ho hpb
      have HT := Lib.hid hT
      have HW := Lib.hid hW
      have HPT := Lib.hid hPT
      have HT2 := Lib.hid hT2
      have HT3 := Lib.hid hT3
      clear hc1 hc2 hs1 hs2 hA1 hA2 hB hS E hX hY hx hAd hg hP hl hT hW hPT hT1 hT2 hT3 hst
      go_enter Tryz.func35, Tryz.ntmps35
      go_wp2_with fail
      refine HH.out.mono ?_
      rintro e w1 ⟨rfl, hb1⟩
      have HB1 := Lib.hid hb1
      clear hb1
      go_wp2_with fail
      refine (HA2.out _ HB1.out).mono ?_
      rintro e w2 ⟨rfl, hb2⟩
      have HB2 : Hid (Below w.heap.size w w2) := Lib.hid (HB1.out.trans (hb2.mono HB1.out.size))
      clear hb2
      go_wp2_with fail
      refine (HAD.out _).mono ?_
      rintro e w3 ⟨rfl, hd3⟩
      have HB3 : Hid (Below w.heap.size w w3) := Lib.hid (HB2.out.trans (hd3.below _))
      clear hd3
      go_wp2_with fail
      refine (need_yes _).mono ?_
      rintro e w' ⟨rfl, rfl⟩
      have HBB := Lib.hid (HB.out.below HB3.out)
      have HEE := Lib.hid (HE.out.next HB3.out)
      obtain ⟨vr, vh, c0, c1, hR, hH, ⟨ra, rn, rc, rfl⟩, ⟨ha, hn, hc, rfl⟩⟩ := HBB.out.load
      have hks : k < w3.heap.size := by have := HBB.out.kIn; have := HBB.out.hiIn; omega
      have HRR := Lib.hid hR
      have HHH := Lib.hid hH
      clear hR hH
      go_wp2_with fail
      go_region_held3 (fun W => W.cell? ⟨k, 0, none⟩ = some (.slice ra rn rc) ∧ W.cell? ⟨k, 1, none⟩ = some (.slice ha hn hc)) ((simp [go_sem, *])) (first
        | (go_at_call 69; (with_reducible refine (HT.out _ _ _ (HRR.out.below bw) (HHH.out.below bw) (HEE.out.next bw)).mono ?_); rintro e w4 ⟨vt, rfl, hta, hb4⟩; have hB4 : Below w3.heap.size w3 w4 := (by refine Below.trans ?_ (hb4.mono (by first | exact Nat.le_refl _ | omega | (simp; done) | (simp; omega))); exact bw); have z4 := hB4.size; have d0 := (hB4.cell (p := ⟨k, 0, none⟩) hks).trans c0; have d1 := (hB4.cell (p := ⟨k, 1, none⟩) hks).trans c1; have HTA := Lib.hid hta.tabs; clear hb4 hta)
        | (go_at_call 68; (with_reducible refine (HW.out _ _ (by first | exact HTA.out | exact HTA.out.below bw)).mono ?_); rintro e w5 ⟨vp, rfl, hpo, hb5⟩; rw [HPB.out]; have hB5 : Below w3.heap.size w3 w5 := (by refine Below.trans ?_ (hb5.mono (by first | exact Nat.le_refl _ | omega | (simp; done) | (simp; omega))); exact bw); have z5 := hB5.size; have d0 := (hB5.cell (p := ⟨k, 0, none⟩) hks).trans c0; have d1 := (hB5.cell (p := ⟨k, 1, none⟩) hks).trans c1; have HPO := Lib.hid hpo.ints; clear hb5 hpo))
      all_goals
        cases pb
        · go_wp2_with fail
          refine (HPT.out _ _ (by first | exact HPO.out | exact HPO.out.below bw) (HEE.out.next bw)).mono ?_
          rintro e w6 ⟨rfl, hb6⟩
          have hB6 : Below w3.heap.size w3 w6 := by refine Below.trans ?_ (hb6.mono (by first | exact Nat.le_refl _ | omega | (simp; done) | (simp; omega))); exact bw
          clear hb6
          go_wp2_with fail
          go_ret
          exact do_good HB.out (HB3.out.trans (hB6.mono HB3.out.size)) (by rw [HT3.out, ← HOO.out, HPB.out]; rfl)
        · go_wp2_with fail
          refine (HPT.out _ _ (by first | exact HPO.out | exact HPO.out.below bw) (HEE.out.next bw)).mono ?_
          rintro e w6 ⟨rfl, hb6⟩
          have hB6 : Below w3.heap.size w3 w6 := by refine Below.trans ?_ (hb6.mono (by first | exact Nat.le_refl _ | omega | (simp; done) | (simp; omega))); exact bw
          clear hb6
          go_wp2_with fail
          go_ret
          exact do_good HB.out (HB3.out.trans (hB6.mono HB3.out.size)) (by rw [HT2.out, ← HOO.out, HPB.out]; rfl)
end Go.Proofs.YtnecdeaikmhanaaGreatDoor
namespace Go.Proofs.YtnecdeaikmhanaaGreatDoor
open Go.RowKit
set_option linter.unusedVariables false
set_option maxRecDepth 100000
theorem while_take {P : Ent → Bool} : ∀ {l : List Ent} {i : Nat}, i ≤ l.length → (∀ j, j < i → P (l.getD j (0, 0, 0)) = true) → (i < l.length → P (l.getD i (0, 0, 0)) = false) → l.takeWhile P = l.take i ∧ l.dropWhile P = l.drop i
  | [], i, hi, _, _ => by simp
  | x :: t, 0, hi, _, h0 => by
    have : P x = false := by simpa using h0 (by simp)
    simp [this]
  | x :: t, i + 1, hi, hp, h0 => by
    have hx : P x = true := by simpa using hp 0 (by omega)
    obtain ⟨a, b⟩ := while_take (l := t) (i := i) (by simpa using hi) (fun j hj => by simpa using hp (j + 1) (by omega)) (fun h => by simpa using h0 (by simpa using h))
    simp [hx, a, b]
theorem put_place {H : List Ent} {f b : Int} {i : Nat} (h : PlaceAt H f b i) (z : Int) : H.take i ++ (f, b, z) :: H.drop i = homePut H (f, b, z) := by
  obtain ⟨h1, h2, h3⟩ := h
  obtain ⟨a, c⟩ := while_take (P := fun x => decide (ordF x (f, b, z) < 0)) h1 (fun j hj => decide_eq_true (h2 j hj)) (fun hi => decide_eq_false (by have := h3 i (Nat.le_refl _) hi; show ¬ ordF _ (f, b, 0) < 0; omega))
  unfold homePut
  rw [a, c]
theorem put_has (H : List Ent) (e : Ent) : (homePut H e).getD (H.takeWhile (fun x => decide (ordF x e < 0))).length (0, 0, 0) = e ∧ (H.takeWhile (fun x => decide (ordF x e < 0))).length < (homePut H e).length := by
  unfold homePut
  constructor
  · rw [List.getD_eq_getElem?_getD, List.getElem?_append_right (Nat.le_refl _)]; simp
  · simp
theorem home_bad_house {R : List (List Int)} {H : List Ent} {f b z : Int} (hl : R.length = 4) (h : in14 z = false) : homesOkF R (homePut H (f, b, z)) = false := by
  obtain ⟨h1, h2⟩ := put_has H (f, b, z)
  refine homesOk_bad (n := 4) hl h2 ?_
  rw [h1]
  unfold in14 at h
  unfold homOkF
  simp only [Bool.and_eq_false_iff, decide_eq_false_iff_not] at h ⊢
  simp
  omega
theorem rrV_form (o : Option (Int × Int)) : ∃ f b ok, rrV o = .tuple #[.agg #[.int .i64 f, .int .i64 b], .bool ok] ∧ o = (if ok = true then some (f, b) else none) := by
  cases o with
  | none => exact ⟨0, 0, false, rfl, rfl⟩
  | some p => exact ⟨p.1, p.2, true, rfl, rfl⟩
theorem HomNew.up {w : World} {lo hi : Nat} {v : Value} {l : List Ent} (h : HomNew w lo v l) (hl : hi ≤ lo) : HomUp w hi v l := by
  refine ⟨h.ents, fun a n c e => ?_⟩
  obtain ⟨xs, h1, _⟩ := h
  subst e
  rcases h1.2 with ⟨e, _⟩ | ⟨g, cap, cur, e, hb, _⟩
  · cases e
  · simp only [Value.slice.injEq, Option.some.injEq] at e
    obtain ⟨rfl, _⟩ := e
    show hi ≤ g
    omega
theorem BoardAt.setHomes {w : World} {lo hi k : Nat} {R : List (List Int)} {H H' : List Ent} {v : Value} (h : BoardAt w lo hi k R H) (hv : HomUp w hi v H') : BoardAt (w.setCell ⟨k, 1, none⟩ v) lo hi k R H' ∧ Within lo hi w (w.setCell ⟨k, 1, none⟩ v) := by
  have hW : Within lo hi w (w.setCell ⟨k, 1, none⟩ v) := Within.setCell (Within.refl _ _ _) h.kIn.1 h.kIn.2 _
  obtain ⟨u, hu, hM⟩ := h.rels
  obtain ⟨x, hx, hH⟩ := h.homes
  obtain ⟨cur, mk, hblk⟩ := h.blk
  refine ⟨⟨h.kIn, by have := h.hiIn; simp [World.setCell] at this ⊢; exact this, h.lo9, h.len, h.row, ?_, ⟨u, ?_, hM.other (fun g cu T hg hT _ _ => ?_)⟩, by simp [h.f0], ⟨v, World.cell?_setCell_same _ _ _ hx, hv.within hW⟩, by simp [h.f1]⟩, hW⟩
  · exact ⟨_, _, setCell_block hblk⟩
  · rw [World.cell?_setCell_other _ _ _ _ (by simp)]; exact hu
  · refine Below.heap_setCell _ _ _ _ (fun e => ?_)
    have e : g = k := by first | exact e | exact e.symm
    subst e
    rw [hblk] at hg
    simp only [Option.some.injEq, Obj.cells.injEq] at hg
    rcases hT with rfl | rfl <;> exact absurd hg.2.1 (by decide)
theorem homeLine_none {s : LSt} {ws : List Bs} (h : rreadF (ws.getD 1 []) = none) : homeLine s ws = (s, sWhat) := by
  have e1 : wordF ws 1 = ws.getD 1 [] := rfl
  unfold homeLine
  rw [e1, h]
theorem homeLine_some {s : LSt} {ws : List Bs} {f b : Int} (h : rreadF (ws.getD 1 []) = some (f, b)) : homeLine s ws = if homesOkF s.rels (homePut s.homes (f, b, numF (ws.getD 2 []))) = true then ({ s with homes := homePut s.homes (f, b, numF (ws.getD 2 [])) }, []) else (s, sWhat) := by
  have e1 : wordF ws 1 = ws.getD 1 [] := rfl
  have e2 : wordF ws 2 = ws.getD 2 [] := rfl
  unfold homeLine
  rw [e1, e2, h]
set_option maxHeartbeats 8000000 in
theorem home_no (lo hi k : Nat) (s : LSt) (v : Value) (ws : List Bs) (w : World) (hB : BoardAt w lo hi k s.rels s.homes) (hS : StrsAt w v ws) (E : EnvOk w) (hst : StOk s) (h4 : (ws.getD 1 []).length ≤ 1000000) (h : in14 (numF (ws.getD 2 [])) = false ∨ rreadF (ws.getD 1 []) = none) :
    Calls Tryz.prog 33 #[.pointer (some ⟨k, 0, none⟩), v] w (DoPost lo hi k (s, sWhat) w) := by
  have HB := Lib.hid hB
  obtain ⟨s1, hs1⟩ : ∃ x, ws.getD 1 [] = x := ⟨_, rfl⟩
  obtain ⟨s2, hs2⟩ : ∃ x, ws.getD 2 [] = x := ⟨_, rfl⟩
  rw [hs1] at h4 h
  rw [hs2] at h
  have hA1 : Calls Tryz.prog 37 #[v, .int .i64 1] w fun e w' => e = .returned (stV s1) ∧ w = w' := by rw [← hs1]; exact at_1 v ws w hS
  have hA2 : ∀ W, Below w.heap.size w W → Calls Tryz.prog 37 #[v, .int .i64 2] W fun e w' => e = .returned (stV s2) ∧ W = w' := fun W hb => by rw [← hs2]; exact at_2 v ws W (hS.below hb)
  have hRR := implRangeRead_any s1 h4 w E
  obtain ⟨f, b, ok, hrv, ho⟩ := rrV_form (rreadF s1)
  unfold RRPost at hRR
  rw [hrv] at hRR
  unfold stV at hA1 hRR
  obtain ⟨T1, hT1⟩ : ∃ T : ByteArray, (⟨s1.toArray⟩ : ByteArray) = T := ⟨_, rfl⟩
  rw [hT1] at hA1 hRR
  have HA1 := Lib.hid hA1
  have HRR := Lib.hid hRR
  have HO := Lib.hid ho
  cases hc2 : in14 (numF s2) with
  | false =>
    have HH : Hid (∀ W, Below w.heap.size w W → Calls Tryz.prog 56 #[v, .int .i64 2] W fun e w' => e = .panicked badP ∧ Below W.heap.size W w') := Lib.hid (fun W hb => house_no v 2 s2 W (hA2 W hb) hc2)
    clear hB hS E hst h4 h hs1 hs2 hA1 hA2 hRR hrv ho hT1 hc2
    go_enter Tryz.func33, Tryz.ntmps33
    go_wp2_with fail
    refine HA1.out.mono ?_
    rintro e w' ⟨rfl, rfl⟩
    go_wp2_with fail
    refine HRR.out.mono ?_
    rintro e w1 ⟨rfl, hb1⟩
    have z1 := hb1.size
    go_wp2_with fail
    refine wp_region_any (by kernel_rfl) ?_
    (try (change wpAny _ _ _ _ _ _ _ (World.drew _)))
    refine wpAny_take (i := 1) (v := _) rfl (by kernel_rfl) (by kernel_rfl) (by kernel_rfl) (fun _ _ _ h => h) (Or.inl ⟨by rfl, fun w => by go_simp <;> with_reducible rfl⟩) ?_
    refine wpAny_ready (rs := [0, 2, 4]) (by kernel_rfl) (by simp) ?_
    refine AllReady.cons rfl (fun K hK => ?_) (AllReady.cons rfl (fun K hK => ?_) (AllReady.cons rfl (fun K hK => ?_) AllReady.nil))
    · go_simp
      refine hK _ _ ?_
      refine wpAny_ready (rs := [2, 4]) (by kernel_rfl) (by simp) ?_
      refine AllReady.cons rfl (fun K hK => ?_) (AllReady.cons rfl (fun K hK => ?_) AllReady.nil)
      · go_simp
        (go_at_call 56; refine (HH.out _ bw).mono ?_; rintro e w5 ⟨rfl, hb5⟩; have hB5 : Below w.heap.size w w5 := (by refine Below.trans ?_ (hb5.mono (by first | exact Nat.le_refl _ | omega | (simp; done) | (simp; omega))); exact bw); go_simp; exact ⟨rfl, do_bad HB.out hB5⟩)
      · go_simp
        refine hK _ _ ?_
        refine wpAny_ready (rs := [2]) (by kernel_rfl) (by simp) ?_
        refine AllReady.cons rfl (fun K hK => ?_) AllReady.nil
        · go_simp
          (go_at_call 56; refine (HH.out _ bw).mono ?_; rintro e w5 ⟨rfl, hb5⟩; have hB5 : Below w.heap.size w w5 := (by refine Below.trans ?_ (hb5.mono (by first | exact Nat.le_refl _ | omega | (simp; done) | (simp; omega))); exact bw); go_simp; exact ⟨rfl, do_bad HB.out hB5⟩)
    · go_simp
      (go_at_call 56; refine (HH.out _ bw).mono ?_; rintro e w5 ⟨rfl, hb5⟩; have hB5 : Below w.heap.size w w5 := (by refine Below.trans ?_ (hb5.mono (by first | exact Nat.le_refl _ | omega | (simp; done) | (simp; omega))); exact bw); go_simp; exact ⟨rfl, do_bad HB.out hB5⟩)
    · go_simp
      refine hK _ _ ?_
      refine wpAny_ready (rs := [0, 2]) (by kernel_rfl) (by simp) ?_
      refine AllReady.cons rfl (fun K hK => ?_) (AllReady.cons rfl (fun K hK => ?_) AllReady.nil)
      · go_simp
        refine hK _ _ ?_
        refine wpAny_ready (rs := [2]) (by kernel_rfl) (by simp) ?_
        refine AllReady.cons rfl (fun K hK => ?_) AllReady.nil
        · go_simp
          (go_at_call 56; refine (HH.out _ bw).mono ?_; rintro e w5 ⟨rfl, hb5⟩; have hB5 : Below w.heap.size w w5 := (by refine Below.trans ?_ (hb5.mono (by first | exact Nat.le_refl _ | omega | (simp; done) | (simp; omega))); exact bw); go_simp; exact ⟨rfl, do_bad HB.out hB5⟩)
      · go_simp
        (go_at_call 56; refine (HH.out _ bw).mono ?_; rintro e w5 ⟨rfl, hb5⟩; have hB5 : Below w.heap.size w w5 := (by refine Below.trans ?_ (hb5.mono (by first | exact Nat.le_refl _ | omega | (simp; done) | (simp; omega))); exact bw); go_simp; exact ⟨rfl, do_bad HB.out hB5⟩)
  | true =>
    have HH : Hid (∀ W, Below w.heap.size w W → Calls Tryz.prog 56 #[v, .int .i64 2] W fun e w' => e = .returned (.int .i64 (numF s2)) ∧ Below W.heap.size W w') := Lib.hid (fun W hb => house_yes v 2 s2 W (hA2 W hb) hc2)
    have hok : ok = false := by
      rcases h with h | h
      · rw [hc2] at h; cases h
      · rw [h] at ho
        cases ok
        · rfl
        · rw [if_pos rfl] at ho; cases ho
    subst hok
    obtain ⟨z, hz⟩ : ∃ z, numF s2 = z := ⟨_, rfl⟩
    rw [hz] at HH
    clear hB hS E hst h4 h hs1 hs2 hA1 hA2 hRR hrv ho hT1 hc2 hz
    go_enter Tryz.func33, Tryz.ntmps33
    go_wp2_with fail
    refine HA1.out.mono ?_
    rintro e w' ⟨rfl, rfl⟩
    go_wp2_with fail
    refine HRR.out.mono ?_
    rintro e w1 ⟨rfl, hb1⟩
    have z1 := hb1.size
    go_wp2_with fail
    go_region_law (go_simp; go_at_call 56; (with_reducible refine (HH.out _ bw).mono ?_); rintro e w5 ⟨rfl, hb5⟩; have hB5 : Below w.heap.size w w5 := (by refine Below.trans ?_ (hb5.mono (by first | exact Nat.le_refl _ | omega | (simp; done) | (simp; omega))); exact bw); have z5 := hb5.size; (try simp at z5); obtain ⟨hc5, hf5⟩ := bcell hb5; (try simp at hc5); (try simp at hf5); have y5 : w1.heap.size < w5.heap.size := (by omega); have x5 : ¬ w1.heap.size = w5.heap.size := (by omega); have x6 : ¬ w5.heap.size = w1.heap.size := (by omega); clear hb5)
    all_goals
      go_wp2_with fail
      refine (need_no _).mono ?_
      rintro e w' ⟨rfl, rfl⟩
      go_wp2_with fail
      exact ⟨rfl, do_bad HB.out bw⟩
end Go.Proofs.YtnecdeaikmhanaaGreatDoor
