/- A part of the proof; packed by a program of mine out of my texts. -/
import Derived.Test.YtnecdeaikmhanaaGreatDoorPE0
import Derived.Test.YtnecdeaikmhanaaGreatDoorPE1
import Derived.Test.YtnecdeaikmhanaaGreatDoorPE2
import Derived.Test.YtnecdeaikmhanaaGreatDoorPE3
import Derived.Test.YtnecdeaikmhanaaGreatDoorPE4
import Derived.Test.YtnecdeaikmhanaaGreatDoorPE5
import Derived.Test.YtnecdeaikmhanaaGreatDoorPE6
import Derived.Test.YtnecdeaikmhanaaGreatDoorPE7
import Derived.Test.YtnecdeaikmhanaaGreatDoorPE8
import Derived.Test.YtnecdeaikmhanaaGreatDoorPE9
import Derived.Test.YtnecdeaikmhanaaGreatDoorPE10
import Derived.Test.YtnecdeaikmhanaaGreatDoorPE11
import Derived.Test.YtnecdeaikmhanaaGreatDoorPE12
import Derived.Test.YtnecdeaikmhanaaGreatDoorPE13
import Derived.Test.YtnecdeaikmhanaaGreatDoorPE14
import Derived.Test.YtnecdeaikmhanaaGreatDoorPE15
import Derived.Test.YtnecdeaikmhanaaGreatDoorPE16
import Derived.Deep.DeepCutAuto
import Derived.Defers
import Derived.Recover
import Derived.Maps.OwnSet
import Derived.Lib.SplitLaws
import Derived.Carry
import Derived.Deep.RegionHeld3
namespace Go.Proofs.YtnecdeaikmhanaaGreatDoor
open Go.RowKit
set_option linter.unusedVariables false
set_option maxRecDepth 100000
theorem rread_good {s : Bs} {f b : Int} (h : rreadF s = some (f, b)) : rangeOkF f b = true := by
  by_cases hx : ∃ f' b' : Nat, f' < 256 ∧ b' < 9 ∧ rangeOkF f' b' = true ∧ s = rtextF f' b'
  · obtain ⟨f', b', h1, h2, h3, rfl⟩ := hx
    rw [rread_is h1 h2 h3] at h
    cases h
    exact h3
  · rw [rread_none fun f' b' h1 h2 h3 e => hx ⟨f', b', h1, h2, h3, e⟩] at h
    cases h
theorem store3_heap {W : World} {g : Nat} {a b c x y z : Value} {T : TypeId} {mk : Nat × Nat} (h : W.heap[g]? = some (.cells #[a, b, c] T mk)) : (((W.setCell ⟨g, 0, none⟩ x).setCell ⟨g, 1, none⟩ y).setCell ⟨g, 2, none⟩ z).heap[g]? = some (.cells #[x, y, z] T mk) := by
  have h1 := setCell_block (u := x) (i := 0) h
  have h2 := setCell_block (u := y) (i := 1) h1
  have h3 := setCell_block (u := z) (i := 2) h2
  simpa using h3
theorem cells3_at {W : World} {g : Nat} {a b c : Value} {T : TypeId} {mk : Nat × Nat} (h : W.heap[g]? = some (.cells #[a, b, c] T mk)) : W.cell? ⟨g, 0, none⟩ = some a ∧ W.cell? ⟨g, 1, none⟩ = some b ∧ W.cell? ⟨g, 2, none⟩ = some c := by
  simp [World.cell?, h]
theorem HomNew.block {w : World} {lo : Nat} {v : Value} {l : List Ent} (h : HomNew w lo v l) : ∀ b, v.ownBlock = some b → lo ≤ b ∧ b < w.heap.size := fun b hb => by
  obtain ⟨xs, h1, _⟩ := h
  rcases h1.2 with ⟨e, _⟩ | ⟨g, cap, cur, e, h2, h3, _⟩
  · subst e; cases hb
  · subst e
    have : g = b := by first | exact Option.some.inj hb | cases hb; rfl
    subst this
    exact ⟨h2, heap_lt h3⟩
theorem home_end {lo hi k B : Nat} {s : LSt} {H' : List Ent} {w wz : World} {v : Value} {X : LSt × Bs} (hB : BoardAt w lo hi k s.rels s.homes) (hb : Below w.heap.size w wz) (hN : HomNew wz B v H') (hs : w.heap.size ≤ B) (hX : X = ({ s with homes := H' }, [])) : DoPost lo hi k X w (.returned (.string { data := #[] })) (wz.setCell ⟨k, 1, none⟩ v) := by
  subst hX
  obtain ⟨h1, h2⟩ := (hB.below hb).setHomes (hN.up (Nat.le_trans hB.hiIn hs))
  exact ⟨.inl rfl, h1, (Within.of_below hb).trans h2⟩
set_option maxHeartbeats 8000000 in
theorem home_yes (lo hi k : Nat) (s : LSt) (v : Value) (ws : List Bs) (w : World) (f b : Int) (hB : BoardAt w lo hi k s.rels s.homes) (hS : StrsAt w v ws) (E : EnvOk w) (hst : StOk s) (h4 : (ws.getD 1 []).length ≤ 1000000) (h : in14 (numF (ws.getD 2 [])) = true) (hr : rreadF (ws.getD 1 []) = some (f, b)) :
    Calls Tryz.prog 33 #[.pointer (some ⟨k, 0, none⟩), v] w (DoPost lo hi k (homeLine s ws) w) := by
  have HB := Lib.hid hB
  have hpost := homeLine_some (s := s) hr
  have hfb := rread_good hr
  obtain ⟨X, hX⟩ : ∃ X, homeLine s ws = X := ⟨_, rfl⟩
  rw [hX] at hpost ⊢
  obtain ⟨s1, hs1⟩ : ∃ x, ws.getD 1 [] = x := ⟨_, rfl⟩
  obtain ⟨s2, hs2⟩ : ∃ x, ws.getD 2 [] = x := ⟨_, rfl⟩
  rw [hs1] at h4 hr
  rw [hs2] at h hpost
  have hA1 : Calls Tryz.prog 37 #[v, .int .i64 1] w fun e w' => e = .returned (stV s1) ∧ w = w' := by rw [← hs1]; exact at_1 v ws w hS
  have hA2 : ∀ W, Below w.heap.size w W → Calls Tryz.prog 37 #[v, .int .i64 2] W fun e w' => e = .returned (stV s2) ∧ W = w' := fun W hb => by rw [← hs2]; exact at_2 v ws W (hS.below hb)
  have hRR := implRangeRead_any s1 h4 w E
  unfold RRPost at hRR
  rw [hr] at hRR
  unfold rrV at hRR
  simp only at hRR
  unfold stV at hA1 hRR
  obtain ⟨T1, hT1⟩ : ∃ T : ByteArray, (⟨s1.toArray⟩ : ByteArray) = T := ⟨_, rfl⟩
  rw [hT1] at hA1 hRR
  have HA1 := Lib.hid hA1
  have HRR := Lib.hid hRR
  have HH : Hid (∀ W, Below w.heap.size w W → Calls Tryz.prog 56 #[v, .int .i64 2] W fun e w' => e = .returned (.int .i64 (numF s2)) ∧ Below W.heap.size W w') := Lib.hid (fun W hb => house_yes v 2 s2 W (hA2 W hb) h)
  obtain ⟨z, hz⟩ : ∃ z, numF s2 = z := ⟨_, rfl⟩
  rw [hz] at HH hpost
  obtain ⟨vr, vh, c0, c1, hR, hHo, ⟨ra, rn, rc, rfl⟩, ⟨ha, hn, hc, rfl⟩⟩ := hB.load
  have hf1 := hB.f1
  have hks : k < w.heap.size := by have := hB.kIn; have := hB.hiIn; omega
  have HP := Lib.hid hpost
  have HFB := Lib.hid hfb
  have HRI := Lib.hid (homes_rise hst.hom)
  have HRG := Lib.hid (homesOk_range hst.hom)
  have hL4 := (homesOk_all hst.hom).2.1
  have HL4 := Lib.hid hL4
  have HRW := Lib.hid hR
  have HHO := Lib.hid hHo
  have C0 := Lib.hid c0
  have C1 := Lib.hid c1
  have F1 := Lib.hid hf1
  clear hB hS E hst h4 h hr hs1 hs2 hA1 hA2 hRR hT1 hz hX hpost hfb hL4 hR hHo c0 c1 hf1
  go_enter Tryz.func33, Tryz.ntmps33
  go_wp2_with fail
  refine HA1.out.mono ?_
  rintro e w' ⟨rfl, rfl⟩
  go_wp2_with fail
  refine HRR.out.mono ?_
  rintro e w1 ⟨rfl, hb1⟩
  have z1 := hb1.size
  go_upto_region 2 with fail
  go_cut [7] (fun s7 wx => ∃ q : Nat, s7 = .pointer (some ⟨q, 0, none⟩) ∧ Hid (w.heap.size ≤ q ∧ wx.heap[q]? = some (.cells #[.int .i64 f, .int .i64 b, .int .i64 z] 83 (0, 0)) ∧ Below w.heap.size w wx))
  case first =>
    go_region_law (go_simp; go_at_call 56; (with_reducible refine (HH.out _ bw).mono ?_); rintro e w5 ⟨rfl, hb5⟩; have hB5 : Below w.heap.size w w5 := (by refine Below.trans ?_ (hb5.mono (by first | exact Nat.le_refl _ | omega | (simp; done) | (simp; omega))); exact bw); have z5 := hb5.size; (try simp at z5); obtain ⟨hc5, hf5⟩ := bcell hb5; (try simp at hc5); (try simp at hf5); have y5 : w1.heap.size < w5.heap.size := (by omega); have x5 : ¬ w1.heap.size = w5.heap.size := (by omega); have x6 : ¬ w5.heap.size = w1.heap.size := (by omega); have HK5 := Lib.hid (fun g hg => hb5.block g hg); clear hb5)
    all_goals
      go_wp2_with fail
      go_meet
      first
        | exact ⟨_, rfl, by have := hB5.size; exact this, heap_alloc_new _ _, by exact bw⟩
        | exact ⟨_, rfl, by omega, store3_heap ((HK5.out _ (by simp)).trans (by first | exact heap_alloc_new _ _ | exact heap_alloc2_new _ _ _ | fail)), by exact bw⟩
  case rest =>
    obtain ⟨q, rfl, Q⟩ := hcut
    have hQ := Q.out
    obtain ⟨q1, q2, q3⟩ := hQ
    obtain ⟨d0, d1, d2⟩ := cells3_at q2
    have hck : wc.cell? ⟨k, 1, none⟩ = some (.slice ha hn hc) := (q3.cell (p := ⟨k, 1, none⟩) hks).trans C1.out
    have hqs : q < wc.heap.size := heap_lt q2
    have Q3 := Lib.hid q3
    have Q2 := Lib.hid q2
    have Q1 := Lib.hid q1
    clear q1 q2 q3 hb1 z1
    go_wp2_with fail
    refine (need_yes _).mono ?_
    rintro e w' ⟨rfl, rfl⟩
    go_upto_region 4 with fail
    go_cut [8, 9] (fun s8 s9 wx => ∃ (i : Nat) (x : Bool), s8 = .int .i64 (i : Int) ∧ s9 = .bool x ∧ Hid (PlaceAt s.homes f b i) ∧ Hid (wx.heap[q]? = some (.cells #[.int .i64 f, .int .i64 b, .int .i64 z] 83 (0, 0))) ∧ Hid (Below w.heap.size w wx))
    case first =>
      go_wp2_with fail
      go_region_law (go_simp; go_at_call 57; refine (searchH_any _ s.homes f b z _ (HHO.out.below (Below.drew Q3.out)) HRI.out HRG.out HFB.out (by have := HL4.out; omega)).mono ?_; rintro e w6 ⟨i, rfl, hp, hb6⟩; have HPL := Lib.hid hp; have HB6 : Hid (Below w.heap.size w w6) := Lib.hid ((Below.drew Q3.out).trans (hb6.mono Q3.out.size)); have HQ6 : Hid (w6.heap[q]? = some (.cells #[.int .i64 f, .int .i64 b, .int .i64 z] 83 (0, 0))) := Lib.hid ((hb6.block q hqs).trans Q2.out); clear hb6 hp)
      all_goals
        go_wp2_with fail
        go_meet
        exact ⟨_, _, rfl, rfl, HPL, HQ6, HB6⟩
    case rest =>
      have HQ1 : Hid (w.heap.size ≤ q) := Lib.hid Q1.out
      clear d0 d1 d2 hck hqs Q Q2 Q3
      obtain ⟨i, x, rfl, rfl, HPL, HQ6, HB6⟩ := hcut
      obtain ⟨d0, d1, d2⟩ := cells3_at HQ6.out
      have hck : wc.cell? ⟨k, 1, none⟩ = some (.slice ha hn hc) := (HB6.out.cell (p := ⟨k, 1, none⟩) hks).trans C1.out
      have hqs : q < wc.heap.size := heap_lt HQ6.out
      have hws := HB6.out.size
      have hkc : k < wc.heap.size := by omega
      have hkn : ¬ k = wc.heap.size := by omega
      go_wp2_with fail
      go_region_law (first
        | (go_simp; go_at_call 61; refine (slCloneH_any _ s.homes _ (HHO.out.below (by have := HB6.out; exact bw)) (by have := HL4.out; omega)).mono ?_; rintro e w7 ⟨v7, rfl, hN, hb7⟩; have HBL := Lib.hid hN.block; have HN : Hid (HomNew w7 wc.heap.size v7 s.homes) := Lib.hid (hN.lift (by first | exact Nat.le_refl _ | omega | (simp; done) | (simp; omega))); have s7 := hb7.size; (try simp at s7); have y7 : wc.heap.size ≤ w7.heap.size := (by omega); have HK7 := Lib.hid (fun g hg => hb7.block g hg); have HB7 : Hid (Below w.heap.size w w7) := Lib.hid (HB6.out.trans ((show Below wc.heap.size wc w7 by refine Below.trans ?_ (hb7.mono (by first | exact Nat.le_refl _ | omega | (simp; done) | (simp; omega))); exact bw).mono hws)); obtain ⟨hc7, _⟩ := bcell hb7; (try simp at hc7); clear hb7 hN)
        | (go_simp; go_at_call 60; refine (insert_any wc.heap.size _ i v7 s.homes (f, b, z) _ (HN.out.below bw) HPL.out.1 (by have := HL4.out; omega) (by first | exact heap_alloc_new _ _ | exact (HK7.out _ (by simp)).trans (heap_alloc_new _ _)) (by first | (simp; done) | (simp; omega) | omega) (fun bb hbb => by have := HBL.out bb hbb; (try simp at this); (try simp); omega)).mono ?_; rintro e w8 ⟨v8, rfl, hN8, hb8⟩; have HN8 := Lib.hid hN8; have HB8 : Hid (Below w.heap.size w w8) := Lib.hid (by refine Below.trans ?_ (hb8.mono hws); have := HB7.out; exact bw); clear hN8 hb8))
      all_goals
        have e8 := put_place HPL.out z
        rw [e8] at HN8
        obtain ⟨a8, c8, rfl, _, _⟩ := HN8.out.form
        have g0 : w8.cell? ⟨k, 0, none⟩ = some (.slice ra rn rc) := (HB8.out.cell (p := ⟨k, 0, none⟩) hks).trans C0.out
        have hHO := implHomesOk_any _ _ s.rels (homePut s.homes (f, b, z)) w8 (HRW.out.below HB8.out) HN8.out.ents
        have HHK := Lib.hid hHO
        clear hHO e8
        cases hok : homesOkF s.rels (homePut s.homes (f, b, z)) with
        | false =>
          have hxe := HP.out
          rw [hok, if_neg (by decide)] at hxe
          rw [hok] at HHK
          have HX := Lib.hid hxe
          clear hxe hok
          go_wp2_with fail
          refine HHK.out.mono ?_
          rintro e w9 ⟨rfl, hb9⟩
          have HB9 : Hid (Below w.heap.size w w9) := Lib.hid (HB8.out.trans (hb9.mono HB8.out.size))
          clear hb9
          go_wp2_with fail
          refine (need_no _).mono ?_
          rintro e w' ⟨rfl, rfl⟩
          go_wp2_with fail
          refine ⟨rfl, ?_⟩
          rw [HX.out]
          exact do_bad HB.out (by have := HB9.out; exact bw)
        | true =>
          have hxe := HP.out
          rw [hok, if_pos rfl] at hxe
          rw [hok] at HHK
          have HX := Lib.hid hxe
          clear hxe hok
          go_wp2_with fail
          refine HHK.out.mono ?_
          rintro e w9 ⟨rfl, hb9⟩
          have HB9 : Hid (Below w.heap.size w w9) := Lib.hid (HB8.out.trans (hb9.mono HB8.out.size))
          have HN9 := Lib.hid (HN8.out.below hb9)
          have g1 : w9.cell? ⟨k, 1, none⟩ = some (.slice ha hn hc) := (HB9.out.cell (p := ⟨k, 1, none⟩) hks).trans C1.out
          have g2 : w9.frozen? ⟨k, 1, none⟩ = false := (HB9.out.frozen (p := ⟨k, 1, none⟩) hks).trans F1.out
          clear hb9 g0
          go_wp2_with fail
          refine (need_yes _).mono ?_
          rintro e w' ⟨rfl, rfl⟩
          go_wp2_with fail
          go_ret
          exact home_end HB.out HB9.out HN9.out hws HX.out
theorem home_any (lo hi k : Nat) (s : LSt) (v : Value) (ws : List Bs) (w : World) (hB : BoardAt w lo hi k s.rels s.homes) (hS : StrsAt w v ws) (E : EnvOk w) (hst : StOk s) (h4 : (ws.getD 1 []).length ≤ 1000000) :
    Calls Tryz.prog 33 #[.pointer (some ⟨k, 0, none⟩), v] w (DoPost lo hi k (homeLine s ws) w) := by
  cases hr : rreadF (ws.getD 1 []) with
  | none =>
    rw [homeLine_none hr]
    exact home_no lo hi k s v ws w hB hS E hst h4 (.inr hr)
  | some p =>
    obtain ⟨f, b⟩ := p
    cases h : in14 (numF (ws.getD 2 [])) with
    | false =>
      rw [homeLine_some hr, home_bad_house hst.len h, if_neg (by decide)]
      exact home_no lo hi k s v ws w hB hS E hst h4 (.inl h)
    | true => exact home_yes lo hi k s v ws w f b hB hS E hst h4 h hr
end Go.Proofs.YtnecdeaikmhanaaGreatDoor
namespace Go.Proofs.YtnecdeaikmhanaaGreatDoor
open Go.RowKit
set_option linter.unusedVariables false
set_option maxRecDepth 100000
def wtL (L : List (List Int)) (j : Nat) : List Bs := (L.take j).map ptextF
theorem wtL_len {L : List (List Int)} {j : Nat} (hj : j ≤ L.length) : (wtL L j).length = j := by unfold wtL; rw [List.length_map, List.length_take]; omega
theorem wtL_succ {L : List (List Int)} {j : Nat} (hj : j < L.length) : wtL L (j + 1) = wtL L j ++ [ptextF (L.getD j [])] := by
  unfold wtL
  have e : L.take (j + 1) = L.take j ++ [L.getD j []] := by
    rw [List.take_add_one, List.getElem?_eq_getElem hj, List.getD_eq_getElem?_getD, List.getElem?_eq_getElem hj]; rfl
  rw [e, List.map_append]; rfl
theorem lens_le {xs : List Bs} {m : Nat} (h : ∀ x, x ∈ xs → x.length ≤ m) : Lib.lens xs ≤ m * xs.length := by
  induction xs with
  | nil => simp [Lib.lens]
  | cons x t ih =>
    have h1 := h x (List.mem_cons_self ..)
    have h2 := ih fun y hy => h y (List.mem_cons_of_mem _ hy)
    unfold Lib.lens at h2 ⊢
    simp only [List.map_cons, List.sum_cons, List.length_cons]
    rw [Nat.mul_add]
    omega
theorem join_le {xs : List Bs} {m : Nat} (h : ∀ x, x ∈ xs → x.length ≤ m) (c : UInt8) : (Lib.join xs [c]).length ≤ (m + 1) * xs.length := by
  cases xs with
  | nil => simp [Lib.join_nil]
  | cons x t =>
    rw [Lib.join_length]
    have := lens_le h
    simp only [List.length_cons, List.length_nil] at this ⊢
    have e : (m + 1) * (t.length + 1) = m * (t.length + 1) + (t.length + 1) := Nat.succ_mul _ _
    rw [e]
    omega
theorem wtL_short {L : List (List Int)} (h : ∀ i, i < L.length → GoodP (L.getD i [])) (j : Nat) : ∀ x, x ∈ wtL L j → x.length ≤ 30 := by
  intro x hx
  unfold wtL at hx
  obtain ⟨p, hp, rfl⟩ := List.mem_map.1 hx
  obtain ⟨i, hi, rfl⟩ := List.getElem_of_mem hp
  have hi' : i < L.length := by rw [List.length_take] at hi; omega
  have := h i hi'
  rw [List.getD_eq_getElem?_getD, List.getElem?_eq_getElem hi'] at this
  rw [List.getElem_take]
  exact ptext_short this
set_option maxHeartbeats 4000000 in
theorem ways_any (lo hi k : Nat) (s : LSt) (v : Value) (ws : List Bs) (w : World) (hB : BoardAt w lo hi k s.rels s.homes) (hS : StrsAt w v ws) (E : EnvOk w) (hst : StOk s) :
    Calls Tryz.prog 34 #[.pointer (some ⟨k, 0, none⟩), v] w (DoPost lo hi k (s, waysLine s ws) w) := by
  have HB := Lib.hid hB
  have HE := Lib.hid E
  have e1 : wordF ws 1 = ws.getD 1 [] := rfl
  unfold waysLine
  rw [e1]
  clear e1
  obtain ⟨s1, hs1⟩ : ∃ x, ws.getD 1 [] = x := ⟨_, rfl⟩
  rw [hs1]
  have hA1 : ∀ W, Below w.heap.size w W → Calls Tryz.prog 37 #[v, .int .i64 1] W fun e w' => e = .returned (stV s1) ∧ W = w' := fun W hb => by rw [← hs1]; exact at_1 v ws W (hS.below hb)
  obtain ⟨vr, vh, c0, c1, hR, hH, ⟨ra, rn, rc, rfl⟩, ⟨ha, hn, hc, rfl⟩⟩ := hB.load
  have hks : k < w.heap.size := by have := hB.kIn; have := hB.hiIn; omega
  have HRR := Lib.hid hR
  clear hR hH c1
  cases hc1 : in14 (numF s1) with
  | false =>
    rw [if_neg (by decide)]
    have HH : Hid (∀ W, Below w.heap.size w W → Calls Tryz.prog 56 #[v, .int .i64 1] W fun e w' => e = .panicked badP ∧ Below W.heap.size W w') := Lib.hid (fun W hb => house_no v 1 s1 W (hA1 W hb) hc1)
    clear hc1 hs1 hA1 hB hS E
    go_enter Tryz.func34, Tryz.ntmps34
    go_wp2_with fail
    refine wp_region_any (by kernel_rfl) ?_
    (try (change wpAny _ _ _ _ _ _ _ (World.drew _)))
    refine wpAny_take (i := 0) (v := _) rfl (by kernel_rfl) (by kernel_rfl) (by kernel_rfl) (fun _ _ _ h => h) (Or.inl ⟨by rfl, fun w => by go_simp <;> with_reducible rfl⟩) ?_
    refine wpAny_take (i := 1) (v := _) rfl (by kernel_rfl) (by kernel_rfl) (by kernel_rfl) (fun _ _ _ h => h) (Or.inl ⟨by rfl, fun w => by go_simp <;> with_reducible rfl⟩) ?_
    refine wpAny_take (i := 2) (v := _) rfl (by kernel_rfl) (by kernel_rfl) (by kernel_rfl) (fun _ _ _ h => h) (Or.inl ⟨by rfl, fun w => by go_simp <;> with_reducible rfl⟩) ?_
    refine wpAny_take (i := 4) (v := _) rfl (by kernel_rfl) (by kernel_rfl) (by kernel_rfl) (fun _ _ _ h => h) (Or.inl ⟨by rfl, fun w => by go_simp <;> with_reducible rfl⟩) ?_
    refine wpAny_take (i := 8) (v := _) rfl (by kernel_rfl) (by kernel_rfl) (by kernel_rfl) (fun _ _ _ h => h) (Or.inl ⟨by rfl, fun w => by go_simp <;> with_reducible rfl⟩) ?_
    refine wpAny_ready (rs := [3, 5]) (by kernel_rfl) (by simp) ?_
    refine AllReady.cons (by (simp only [List.getElem?_toArray, List.getElem?_cons_succ, List.getElem?_cons_zero]) <;> rfl) (fun K hK => ?_) (AllReady.cons (by (simp only [List.getElem?_toArray, List.getElem?_cons_succ, List.getElem?_cons_zero]) <;> rfl) (fun K hK => ?_) AllReady.nil)
    · go_simp
      refine hK _ _ ?_
      refine wpAny_ready (rs := [5]) (by kernel_rfl) (by simp) ?_
      refine AllReady.cons (by (simp only [List.getElem?_toArray, List.getElem?_cons_succ, List.getElem?_cons_zero]) <;> rfl) (fun K hK => ?_) AllReady.nil
      go_simp
      (go_at_call 56; refine (HH.out _ bw).mono ?_; rintro e w1 ⟨rfl, hb1⟩; have hB1 : Below w.heap.size w w1 := (by refine Below.trans ?_ (hb1.mono (by first | exact Nat.le_refl _ | omega | (simp; done) | (simp; omega))); exact bw); go_simp; exact ⟨rfl, do_bad HB.out hB1⟩)
    · go_simp
      (go_at_call 56; refine (HH.out _ bw).mono ?_; rintro e w1 ⟨rfl, hb1⟩; have hB1 : Below w.heap.size w w1 := (by refine Below.trans ?_ (hb1.mono (by first | exact Nat.le_refl _ | omega | (simp; done) | (simp; omega))); exact bw); go_simp; exact ⟨rfl, do_bad HB.out hB1⟩)
  | true =>
    rw [if_pos rfl]
    have HH : Hid (∀ W, Below w.heap.size w W → Calls Tryz.prog 56 #[v, .int .i64 1] W fun e w' => e = .returned (.int .i64 (numF s1)) ∧ Below W.heap.size W w') := Lib.hid (fun W hb => house_yes v 1 s1 W (hA1 W hb) hc1)
    obtain ⟨X, hX⟩ : ∃ X, numF s1 = X := ⟨_, rfl⟩
    rw [hX] at HH hc1 ⊢
    have hx : 1 ≤ X ∧ X ≤ 4 := by unfold in14 at hc1; simpa using hc1
    obtain ⟨j, rfl⟩ : ∃ j : Nat, X = (j : Int) + 1 := ⟨(X - 1).toNat, by omega⟩
    have hN : ∀ W vr, RowsAt W vr s.rels → EnvOk W → Calls Tryz.prog 63 #[vr, .int .i64 ((j : Int) + 1)] W fun e w' => ∃ v', e = .returned v' ∧ RowsL w' W.heap.size v' (end31 s.rels ((j : Int) + 1) 4) ∧ Below W.heap.size W w' := fun W vr h1 h3 => netEnd_any vr _ 4 j W h1 hst.rel hst.len (by omega) h3.err
    have hg : ∀ i, i < (end31 s.rels ((j : Int) + 1) 4).length → GoodP ((end31 s.rels ((j : Int) + 1) 4).getD i []) := fun i hi => end_good hst.len (by omega) (by omega) (by rw [end_len hst.len] at hi; exact hi)
    have hl := end_len hst.len ((j : Int) + 1)
    obtain ⟨L, hL⟩ : ∃ L, end31 s.rels ((j : Int) + 1) 4 = L := ⟨_, rfl⟩
    rw [hL] at hN hg hl ⊢
    have hjl := join_le (wtL_short hg 4) 32
    rw [wtL_len (by omega)] at hjl
    have e4 : L.map ptextF = wtL L 4 := by unfold wtL; rw [List.take_of_length_le (by omega)]
    rw [e4]
    have ha := fun W => add_is (Lib.join (wtL L 4) [32]) [10] (by simp; omega) W
    rw [show (⟨[(10 : UInt8)].toArray⟩ : ByteArray) = ⟨#[10]⟩ from rfl] at ha
    obtain ⟨T1, hT1⟩ : ∃ T : ByteArray, (⟨(Lib.join (wtL L 4) [32]).toArray⟩ : ByteArray) = T := ⟨_, rfl⟩
    obtain ⟨T2, hT2⟩ : ∃ T : ByteArray, T = (⟨(Lib.join (wtL L 4) [32] ++ [10]).toArray⟩ : ByteArray) := ⟨_, rfl⟩
    have hJ : ∀ W u, StrsAt W u (wtL L 4) → Calls Tryz.prog 65 #[u, stV [32]] W fun e w' => e = .returned (.string T1) ∧ Below W.heap.size W w' := fun W u hu => by
      have := join_any u (wtL L 4) [32] W hu (by omega) (by rw [wtL_len (by omega)]; omega)
      unfold stV at this ⊢
      rw [hT1] at this
      exact this
    unfold stV at hJ
    rw [show (⟨[(32 : UInt8)].toArray⟩ : ByteArray) = ⟨#[32]⟩ from rfl] at hJ
    rw [hT1, ← hT2] at ha
    obtain ⟨O, hO⟩ : ∃ O, Lib.join (wtL L 4) [32] ++ [10] = O := ⟨_, rfl⟩
    rw [hO] at hT2 ⊢
    have HT2 := Lib.hid hT2
    have HJ := Lib.hid hJ
    have HN := Lib.hid hN
    have HG := Lib.hid hg
    have HL := Lib.hid hl
    clear hc1 hs1 hA1 hB hS E hX hx hN hg hl hL hjl e4 hT1 hT2 hJ hst hO
    go_enter Tryz.func34, Tryz.ntmps34
    go_wp2_with fail
    go_region_held3 (fun W => W.cell? ⟨k, 0, none⟩ = some (.slice ra rn rc)) ((simp [go_sem, *])) (first
      | (go_at_call 56; (with_reducible refine (HH.out _ bw).mono ?_); rintro e w1 ⟨rfl, hb1⟩; have hB1 : Below w.heap.size w w1 := (by refine Below.trans ?_ (hb1.mono (by first | exact Nat.le_refl _ | omega | (simp; done) | (simp; omega))); exact bw); have z1 := hB1.size; have d0 := (hB1.cell (p := ⟨k, 0, none⟩) hks).trans c0; clear hb1)
      | (go_at_call 63; (with_reducible refine (HN.out _ _ (HRR.out.below bw) (HE.out.next bw)).mono ?_); rintro e w2 ⟨vn, rfl, hrl, hb2⟩; have hB2 : Below w.heap.size w w2 := (by refine Below.trans ?_ (hb2.mono (by first | exact Nat.le_refl _ | omega | (simp; done) | (simp; omega))); exact bw); have z2 := hB2.size; have d0 := (hB2.cell (p := ⟨k, 0, none⟩) hks).trans c0; have HRL := Lib.hid hrl; obtain ⟨na, nc, hvn, _, _⟩ := hrl.form; subst hvn; rw [HL.out]; clear hb2 hrl))
    all_goals
      go_wp2_with fail
      go_loopg [5, 16] 4 (fun g u i wr => ∃ q : Nat, i = .int .i64 q ∧ q + g = 4 ∧ Hid (StrNew wr w2.heap.size u (wtL L q)) ∧ Hid (Below w2.heap.size w2 wr))
      case atStart => exact ⟨0, rfl, by omega, Lib.hid (by unfold wtL; rw [List.take_zero]; exact World.ownsRow_nil _ _ _ _), Lib.hid (Below.refl _ _)⟩
      case round =>
        obtain ⟨q, rfl, hq, hSt, hBw⟩ := hrel
        obtain ⟨sa, sc, rfl, hsc, hsm⟩ := hSt.out.form
        have hlq := wtL_len (L := L) (j := q) (by have := HL.out; omega)
        have HS2 : Hid (StrNew wr w2.heap.size (.slice sa q sc) (wtL L q)) := Lib.hid (by have := hSt.out; rw [hlq] at this; exact this)
        have HLQ := Lib.hid hlq
        rw [hlq] at hsc ⊢
        clear hlq hSt
        by_cases hg : gk = 0
        · subst hg
          obtain rfl : q = 4 := by omega
          go_wp2_with fail
          refine (HJ.out _ _ HS2.out.strs).mono ?_
          rintro e w5 ⟨rfl, hb5⟩
          have hB5 : Hid (Below w.heap.size w w5) := Lib.hid (hB2.trans ((hBw.out.trans (hb5.mono hBw.out.size)).mono z2))
          clear hb5
          go_wp2_with fail
          go_ret
          exact do_good HB.out hB5.out HT2.out
        · have hq4 : q < 4 := by omega
          obtain ⟨gg, gc, u, e, _, _, x1, x2, x3⟩ := (HRL.out.below hBw.out).get HL.out q hq4
          simp only [Value.slice.injEq] at e
          obtain ⟨rfl, _, rfl⟩ := e
          have hP : ∀ W, Below wr.heap.size wr W → EnvOk W → Calls Tryz.prog 64 #[u] W (DecPost (ptextF (L.getD q [])) W) := fun W hb EW => implPathText_any u _ W (x3.ints.below hb) (HG.out q (by rw [HL.out]; exact hq4)) EW.err
          have hs := wtL_succ (L := L) (j := q) (by have := HL.out; omega)
          obtain ⟨t, ht⟩ : ∃ t, ptextF (L.getD q []) = t := ⟨_, rfl⟩
          rw [ht] at hP hs
          have HP := Lib.hid hP
          have HSS := Lib.hid hs
          have HQ := Lib.hid hq
          have hqI : (q : Int) < 4 := by omega
          have Zr := Lib.hid hBw.out.size
          have Er := Lib.hid (HE.out.next (hB2.trans (hBw.out.mono z2)))
          clear hP hs ht hq x2 x3
          go_wp2_with fail
          refine (HP.out _ bw (Er.out.next bw)).mono ?_
          rintro e w5 ⟨rfl, hb5⟩
          have HB5 : Hid (Below w2.heap.size w2 w5) := Lib.hid (hBw.out.trans (hb5.mono Zr.out))
          have HS5 : Hid (StrNew w5 w2.heap.size (.slice sa q sc) (wtL L q)) := Lib.hid (HS2.out.below hb5)
          clear hb5
          go_wp2_with (at_builtin; go_loud (refine wpList_append_str rfl (.tmp 20) (.tmp 23) rfl w2.heap.size _ t (wtL L q) q HLQ.out rfl HS5.out HB5.out.size _ rfl rfl (by omega) ?_); intro ad cc w6 hO6 hb6 hs6; have O6 := Lib.hid hO6; have B6 := Lib.hid (HB5.out.trans hb6); clear hO6 hb6 hs6)
          go_roundg (gk - 1)
          case measure => omega
          case rel => exact ⟨q + 1, by go_num, by have := HQ.out; omega, Lib.hid (by rw [HSS.out]; exact O6.out), B6⟩
end Go.Proofs.YtnecdeaikmhanaaGreatDoor
namespace Go.Proofs.YtnecdeaikmhanaaGreatDoor
open Go.RowKit
set_option linter.unusedVariables false
set_option maxRecDepth 100000
theorem assert_bad (W : World) (v : Value) (xT : TypeId) : (Instr.typeAssert (.iface 54 v) xT 54 true).run Tryz.prog W = .ok (.tuple #[v, .bool true]) W := by kernel_rfl
set_option maxHeartbeats 2000000 in
theorem catch_bad (p : Addr) (x : Value) (w : World) (hc : w.cell? p = some x) (hp : p.block < w.heap.size) (hx : ∃ T, x = .string T) (hz : w.frozen? p = false) :
    CallsD Tryz.prog 29 #[.pointer (some p)] (.panicking badP) w fun e u' w' =>
      e = .returned (.tuple #[]) ∧ u' = .panicking [{ v := badV, recovered := true }] ∧ w' = (w.alloc (.cells #[] 54)).setCell p (stV sWhat) := by
  obtain ⟨T, rfl⟩ := hx
  unfold badP badV
  refine callsD_of_wpS Tryz.func29 rfl fun c₀ cs hu => ?_
  apply wpS_seq
  apply wpS_region
  simp [wpOpsS, go_sem, recoverD, hu, Tryz.ntmps29, Exit.thenS]
  refine wpS_of_wp ?_
  simp [Array.replicate]
  have hta := assert_bad
  have hpn : ¬ p.block = w.heap.size := by omega
  have hz2 : (w.alloc (.cells #[] 54)).frozen? p = false := ((Below.alloc (Below.refl w.heap.size w) (Nat.le_refl _) _).frozen hp).trans hz
  go_wp2_with fail
  all_goals simp [bodyPostS, results, Tryz.results29, stV, sWhat]
theorem catch_idle (p : Addr) (w : World) :
    CallsD Tryz.prog 29 #[.pointer (some p)] .returning w fun e u' w' => e = .returned (.tuple #[]) ∧ u' = .returning ∧ w' = w := by
  refine callsD_of_wpS Tryz.func29 rfl fun c₀ cs hu => ?_
  apply wpS_seq
  apply wpS_region
  simp [wpOpsS, go_sem, recoverD, hu, Tryz.ntmps29, Exit.thenS]
  refine wpS_of_wp ?_
  simp [Array.replicate]
  go_wp2_with fail
  all_goals
    cases c₀
    simp_all [bodyPostS, results, Tryz.results29]
theorem cutR_len (c : UInt8) : ∀ (s p : Bs), p ∈ cutR c s → p.length ≤ s.length
  | [], p, hp => by simp [cutR] at hp; subst hp; simp
  | b :: l, p, hp => by
    have ih := cutR_len c l
    unfold cutR at hp
    split at hp
    · rcases List.mem_cons.1 hp with rfl | h
      · simp
      · have := ih p h; simp; omega
    · split at hp
      · rcases List.mem_cons.1 hp with rfl | h
        · simp
        · simp at h
      · rename_i h t he
        rw [he] at ih
        rcases List.mem_cons.1 hp with rfl | h'
        · have := ih h (by simp); simp; omega
        · have := ih p (by simp [h']); simp; omega
theorem cut_len (c : UInt8) (s : Bs) (k : Nat) : ((cutC c s).getD k []).length ≤ s.length := by
  rw [cutC_R]
  by_cases h : k < (cutR c s).length
  · rw [List.getD_eq_getElem?_getD, List.getElem?_eq_getElem h]
    exact cutR_len c s _ (List.getElem_mem _)
  · rw [List.getD_eq_getElem?_getD, List.getElem?_eq_none (by omega)]; simp
theorem split_any (c : UInt8) (l : Bs) (hl : l.length ≤ 1000000) (w : World) (E : EnvOk w) :
    Calls Tryz.prog 19 #[stV l, stV [c]] w fun e w' => ∃ a cap, e = .returned (.slice a (cutC c l).length cap) ∧ StrNew w' w.heap.size (.slice a (cutC c l).length cap) (cutC c l) ∧ Below w.heap.size w w' := by
  obtain ⟨m, hm⟩ := E.max
  refine (Go.Proofs.Tryz.strings_Split ⟨l.toArray⟩ ⟨#[c]⟩ m w (by simp [ByteArray.size]; omega) hm (by simp [ByteArray.size])).mono ?_
  rintro e w' ⟨rfl, rfl⟩
  obtain ⟨n, hn⟩ : ∃ n, Lib.countB ⟨l.toArray⟩ ⟨#[c]⟩ = n := ⟨_, rfl⟩
  rw [hn]
  have hlen := Lib.splitB_all ⟨#[c]⟩ (by simp [ByteArray.size]) 0 n ⟨l.toArray⟩ hn
  have hdat := Lib.splitB_data ⟨#[c]⟩ 0 n ⟨l.toArray⟩
  have hsp : Lib.splitK [c] 0 n l = cutC c l := by
    rw [← split_C, Lib.split, ← hn]
  simp only [] at hdat
  rw [hsp] at hdat
  have hcl : (cutC c l).length = n + 1 := by rw [← hdat, List.length_map, hlen]
  have hcells : (Lib.splitB ⟨#[c]⟩ 0 n ⟨l.toArray⟩).map Value.string = (cutC c l).map stV := by
    rw [← hdat, List.map_map]
    refine List.map_congr_left fun x _ => ?_
    simp [stV]
  have hnl : n + 1 ≤ 9223372036854775807 := by
    have := Lib.countB_le ⟨#[c]⟩ (by simp [ByteArray.size]) l.length ⟨l.toArray⟩ (by simp [ByteArray.size])
    rw [hn] at this
    simp [ByteArray.size] at this
    omega
  rw [hcells, hcl]
  refine ⟨_, _, rfl, ⟨by simp, .inr ⟨w.heap.size, n + 1, ((cutC c l).map stV).toArray, by rw [hcl], Nat.le_refl _, heap_alloc_new _ _, by omega, by unfold maxLen; omega, by simp [hcl], by rw [List.toList_toArray, List.take_of_length_le (by simp)]⟩⟩, Below.alloc (Below.refl _ _) (Nat.le_refl _) _⟩
def mapR (v : Value) : Option (DataW Value × List MemPlace) := some (.held v, [])
abbrev fnV (f : Nat) : Value := .func (.func f) #[] #[]
theorem strK : Maps.Keyed Tryz.prog 9 := Maps.string_keyed Tryz.underlying9
theorem key_st (key : Bs) (hk : key.length ≤ 1000000) : keyOf Tryz.prog 9 (stV key) = some (.string key) := by
  simp [keyOf, Tryz.underlying9, mapKey, ByteArray.size, maxLen]
  omega
theorem map_put {W : World} {b n : Nat} {D : DataW Value} (h : W.ownsMap Tryz.prog 9 mapR b n D) (hn : n < 100) (key : Bs) (hk : key.length ≤ 1000000) (f : Nat) :
    ∃ W', (Instr.mapUpdate 58 (.map (some b)) (stV key) (fnV f)).run Tryz.prog W = .ok () W' ∧ W'.ownsMap Tryz.prog 9 mapR b (n + 1) (D.put (.string key) (.held (fnV f))) ∧ W.grownBy W' (some b) :=
  h.update strK Tryz.underlying58 (by unfold maxLen; omega) (key_st key hk) rfl
def mapD : DataW Value := ((((((((DataW.map []).put (.string sSells) (.held (fnV 30))).put (.string sPeers) (.held (fnV 31))).put (.string sParts) (.held (fnV 32))).put (.string sHome) (.held (fnV 33))).put (.string sWays) (.held (fnV 34))).put (.string sSend) (.held (fnV 35))).put (.string sFree) (.held (fnV 36)))
def PutR (W : World) (b : Nat) (key : Bs) (f : Nat) (W' : World) : Prop := (Instr.mapUpdate 58 (.map (some b)) (stV key) (fnV f)).run Tryz.prog W = .ok () W'
theorem grown_below {W W' : World} {b B : Nat} (g : W.grownBy W' (some b)) (hB : B ≤ b) (hl : B ≤ W.heap.size) : Below B W W' :=
  ⟨g.os, g.tape, g.output, g.size, fun i hi => g.block i (by omega) (fun e => by cases e; omega)⟩
theorem map_seven (W : World) (b : Nat) (h : W.ownsMap Tryz.prog 9 mapR b 0 (.map [])) : ∃ m1 m2 m3 m4 m5 m6 m7,
    PutR W b sSells 30 m1 ∧ PutR m1 b sPeers 31 m2 ∧ PutR m2 b sParts 32 m3 ∧ PutR m3 b sHome 33 m4 ∧ PutR m4 b sWays 34 m5 ∧ PutR m5 b sSend 35 m6 ∧ PutR m6 b sFree 36 m7 ∧
    m7.ownsMap Tryz.prog 9 mapR b 7 mapD ∧ ∀ B, B ≤ b → Below B W m7 := by
  obtain ⟨m1, r1, o1, g1⟩ := map_put h (by omega) sSells (by decide) 30
  obtain ⟨m2, r2, o2, g2⟩ := map_put o1 (by omega) sPeers (by decide) 31
  obtain ⟨m3, r3, o3, g3⟩ := map_put o2 (by omega) sParts (by decide) 32
  obtain ⟨m4, r4, o4, g4⟩ := map_put o3 (by omega) sHome (by decide) 33
  obtain ⟨m5, r5, o5, g5⟩ := map_put o4 (by omega) sWays (by decide) 34
  obtain ⟨m6, r6, o6, g6⟩ := map_put o5 (by omega) sSend (by decide) 35
  obtain ⟨m7, r7, o7, g7⟩ := map_put o6 (by omega) sFree (by decide) 36
  refine ⟨m1, m2, m3, m4, m5, m6, m7, r1, r2, r3, r4, r5, r6, r7, o7, fun B hB => ?_⟩
  have l0 := h.lt
  have l1 := o1.lt
  have l2 := o2.lt
  have l3 := o3.lt
  have l4 := o4.lt
  have l5 := o5.lt
  have l6 := o6.lt
  exact (((((((grown_below g1 hB (by omega)).trans (grown_below g2 hB (by omega))).trans (grown_below g3 hB (by omega))).trans (grown_below g4 hB (by omega))).trans (grown_below g5 hB (by omega))).trans (grown_below g6 hB (by omega))).trans (grown_below g7 hB (by omega)))
theorem mapD_eq : mapD = .map [(.string sFree, .held (fnV 36)), (.string sHome, .held (fnV 33)), (.string sParts, .held (fnV 32)), (.string sPeers, .held (fnV 31)), (.string sSells, .held (fnV 30)), (.string sSend, .held (fnV 35)), (.string sWays, .held (fnV 34))] := by
  kernel_rfl
theorem zero_do (W : World) : (zeroValue 56).run Tryz.prog W = .ok .nilFunc W := by kernel_rfl
theorem look_any {W : World} {b : Nat} (h : W.ownsMap Tryz.prog 9 mapR b 7 mapD) (key : Bs) (hk : key.length ≤ 1000000) :
    ∃ v, (Instr.lookup 58 (.map (some b)) (stV key) true).run Tryz.prog W = .ok (.tuple #[v, .bool (Maps.has mapD (.string key))]) W ∧ DataW.held v = mapD.atKey (.string key) (.held .nilFunc) := by
  obtain ⟨v, ps, h1, h2⟩ := h.look_ok strK Tryz.underlying58 (zero_do W) (zd := .held .nilFunc) (zp := []) rfl (key_st key hk)
  refine ⟨v, h1, ?_⟩
  unfold mapR at h2
  simp only [Option.some.injEq, Prod.mk.injEq] at h2
  exact h2.1
theorem has_key (key : Bs) : Maps.has mapD (.string key) = (sFree == key || (sHome == key || (sParts == key || (sPeers == key || (sSells == key || (sSend == key || sWays == key)))))) := by
  rw [mapD_eq, Maps.has_eq]
  simp [Lit.sameKey]
end Go.Proofs.YtnecdeaikmhanaaGreatDoor
namespace Go.Proofs.YtnecdeaikmhanaaGreatDoor
open Go.RowKit
set_option linter.unusedVariables false
set_option maxRecDepth 100000
theorem relSet_lens {R : List (List Int)} (hn : R.length = 4) (hr : ∀ i, i < 4 → (R.getD i []).length = 4) (i j : Nat) (hi : i < 4) (p : Int) : (relSet R i j p).length = 4 ∧ ∀ k, k < 4 → ((relSet R i j p).getD k []).length = 4 := relSet_len hr hn hi
theorem BoardAt.cross {w : World} {lo hi k : Nat} {R : List (List Int)} {H : List Ent} (h : BoardAt w lo hi k R H) {i j : Nat} (hi' : i < 4) (hj : j < 4) (hij : i ≠ j) :
    ∃ g cap b1 c1 b2 c2, w.cell? ⟨k, 0, none⟩ = some (.slice (some ⟨g, 0, none⟩) 4 cap) ∧ w.cell? ⟨g, i, none⟩ = some (.slice (some ⟨b1, 0, none⟩) 4 c1) ∧ w.cell? ⟨g, j, none⟩ = some (.slice (some ⟨b2, 0, none⟩) 4 c2) ∧
      k ≠ b1 ∧ k ≠ b2 ∧ g ≠ b1 ∧ g ≠ b2 ∧ b1 ≠ b2 ∧ (∃ y, w.cell? ⟨b1, j, none⟩ = some (.int .i64 y)) ∧ w.frozen? ⟨b1, j, none⟩ = false ∧ (∃ y, w.cell? ⟨b2, i, none⟩ = some (.int .i64 y)) ∧ w.frozen? ⟨b2, i, none⟩ = false ∧
      ∀ p q : Int, BoardAt ((w.setCell ⟨b1, j, none⟩ (.int .i64 p)).setCell ⟨b2, i, none⟩ (.int .i64 q)) lo hi k (relSet (relSet R i j p) j i q) H ∧ Within lo hi w ((w.setCell ⟨b1, j, none⟩ (.int .i64 p)).setCell ⟨b2, i, none⟩ (.int .i64 q)) := by
  obtain ⟨v, hv, hM⟩ := h.rels
  obtain ⟨u, hu, hH⟩ := h.homes
  obtain ⟨cur, mk, hblk⟩ := h.blk
  obtain ⟨g, cap, b1, c1, b2, c2, rfl, g1, g2, g3, g4, g5, g6, g7, g8, g9, g10, g11, g12, g13, g14, g15, ⟨x1, g16⟩, ⟨x2, g17⟩, g18⟩ := hM.two h.len h.row hi' hj hij
  have k1 : k ≠ b1 := fun e => by rw [← e, hblk] at g16; simp at g16
  have k2 : k ≠ b2 := fun e => by rw [← e, hblk] at g17; simp at g17
  refine ⟨g, cap, b1, c1, b2, c2, hv, g3, g4, k1, k2, g10, g11, g9, g12, g13, g14, g15, fun p q => ?_⟩
  have hW : Within lo hi w ((w.setCell ⟨b1, j, none⟩ (.int .i64 p)).setCell ⟨b2, i, none⟩ (.int .i64 q)) := Within.setCell (Within.setCell (Within.refl _ _ _) g5 g6 _) g7 g8 _
  obtain ⟨l1, r1⟩ := relSet_lens h.len h.row i j hi' p
  obtain ⟨l2, r2⟩ := relSet_lens l1 r1 j i hj q
  have hk : ∀ o, ((w.setCell ⟨b1, j, none⟩ (.int .i64 p)).setCell ⟨b2, i, none⟩ (.int .i64 q)).cell? ⟨k, o, none⟩ = w.cell? ⟨k, o, none⟩ := fun o => by
    rw [World.cell?_setCell_other _ _ _ _ (by first | (simp; done) | (simp; first | exact fun e => absurd e k2 | exact fun e => absurd e.symm k2)), World.cell?_setCell_other _ _ _ _ (by first | (simp; done) | (simp; first | exact fun e => absurd e k1 | exact fun e => absurd e.symm k1))]
  refine ⟨⟨h.kIn, by have := h.hiIn; simp [World.setCell] at this ⊢; exact this, h.lo9, l2, r2, ⟨cur, mk, ?_⟩, ⟨_, (hk 0).trans hv, g18 p q⟩, by simp [h.f0], ⟨u, (hk 1).trans hu, hH.within hW⟩, by simp [h.f1]⟩, hW⟩
  rw [Below.heap_setCell _ _ _ _ (by first | exact k2 | exact Ne.symm k2), Below.heap_setCell _ _ _ _ (by first | exact k1 | exact Ne.symm k1)]
  exact hblk
set_option maxHeartbeats 4000000 in
theorem relate_any (lo hi k : Nat) (s : LSt) (v : Value) (ws : List Bs) (r : Int) (w : World) (hB : BoardAt w lo hi k s.rels s.homes) (hS : StrsAt w v ws) (h0 : 0 ≤ r) (h3 : r ≤ 3) :
    Calls Tryz.prog 54 #[.pointer (some ⟨k, 0, none⟩), v, .int .i64 r] w (DoPost lo hi k (relLine s ws r) w) := by
  have HB := Lib.hid hB
  have HS := Lib.hid hS
  have e1 : wordF ws 1 = ws.getD 1 [] := rfl
  have e2 : wordF ws 2 = ws.getD 2 [] := rfl
  unfold relLine
  rw [e1, e2]
  clear e1 e2
  obtain ⟨s1, hs1⟩ : ∃ x, ws.getD 1 [] = x := ⟨_, rfl⟩
  obtain ⟨s2, hs2⟩ : ∃ x, ws.getD 2 [] = x := ⟨_, rfl⟩
  rw [hs1, hs2]
  have hA1 : ∀ W, Below w.heap.size w W → Calls Tryz.prog 37 #[v, .int .i64 1] W fun e w' => e = .returned (stV s1) ∧ W = w' := fun W hb => by rw [← hs1]; exact at_1 v ws W (HS.out.below hb)
  have hA2 : ∀ W, Below w.heap.size w W → Calls Tryz.prog 37 #[v, .int .i64 2] W fun e w' => e = .returned (stV s2) ∧ W = w' := fun W hb => by rw [← hs2]; exact at_2 v ws W (HS.out.below hb)
  have HA1 := Lib.hid hA1
  have HA2 := Lib.hid hA2
  clear hB hS hs1 hs2 hA1 hA2
  cases hc1 : in14 (numF s1) with
  | false =>
    rw [if_neg (by simp)]
    have HH := Lib.hid (house_no v 1 s1 w (HA1.out w (Below.refl _ _)) hc1)
    clear hc1
    go_enter Tryz.func54, Tryz.ntmps54
    go_wp2_with fail
    refine HH.out.mono ?_
    rintro e w1 ⟨rfl, hb1⟩
    have HB1 := Lib.hid hb1
    clear hb1
    go_wp2_with fail
    exact ⟨rfl, do_bad HB.out HB1.out⟩
  | true =>
    have HH := Lib.hid (house_yes v 1 s1 w (HA1.out w (Below.refl _ _)) hc1)
    cases hc2 : in14 (numF s2) with
    | false =>
      rw [if_neg (by simp)]
      have HH2 : Hid (∀ W, Below w.heap.size w W → Calls Tryz.prog 56 #[v, .int .i64 2] W fun e w' => e = .panicked badP ∧ Below W.heap.size W w') := Lib.hid (fun W hb => house_no v 2 s2 W (HA2.out W hb) hc2)
      clear hc1 hc2
      go_enter Tryz.func54, Tryz.ntmps54
      go_wp2_with fail
      refine HH.out.mono ?_
      rintro e w1 ⟨rfl, hb1⟩
      have HB1 := Lib.hid hb1
      clear hb1
      go_wp2_with fail
      refine (HH2.out _ HB1.out).mono ?_
      rintro e w2 ⟨rfl, hb2⟩
      have HB2 : Hid (Below w.heap.size w w2) := Lib.hid (HB1.out.trans (hb2.mono HB1.out.size))
      clear hb2
      go_wp2_with fail
      exact ⟨rfl, do_bad HB.out HB2.out⟩
    | true =>
      have HH2 : Hid (∀ W, Below w.heap.size w W → Calls Tryz.prog 56 #[v, .int .i64 2] W fun e w' => e = .returned (.int .i64 (numF s2)) ∧ Below W.heap.size W w') := Lib.hid (fun W hb => house_yes v 2 s2 W (HA2.out W hb) hc2)
      obtain ⟨X, hX⟩ : ∃ X, numF s1 = X := ⟨_, rfl⟩
      obtain ⟨Y, hY⟩ : ∃ Y, numF s2 = Y := ⟨_, rfl⟩
      rw [hX] at HH hc1 ⊢
      rw [hY] at HH2 hc2 ⊢
      have hx : 1 ≤ X ∧ X ≤ 4 := by unfold in14 at hc1; simpa using hc1
      have hy : 1 ≤ Y ∧ Y ≤ 4 := by unfold in14 at hc2; simpa using hc2
      clear hX hY hc1 hc2
      by_cases hxy : X = Y
      · rw [if_neg (by simp [hxy])]
        have hq : (X != Y) = false := by rw [bne_eq_false_iff_eq]; exact hxy
        clear hxy hx hy
        go_enter Tryz.func54, Tryz.ntmps54
        go_wp2_with fail
        refine HH.out.mono ?_
        rintro e w1 ⟨rfl, hb1⟩
        have HB1 := Lib.hid hb1
        clear hb1
        go_wp2_with fail
        refine (HH2.out _ HB1.out).mono ?_
        rintro e w2 ⟨rfl, hb2⟩
        have HB2 : Hid (Below w.heap.size w w2) := Lib.hid (HB1.out.trans (hb2.mono HB1.out.size))
        clear hb2
        go_wp2_with fail
        refine (need_no _).mono ?_
        rintro e w' ⟨rfl, rfl⟩
        go_wp2_with fail
        exact ⟨rfl, do_bad HB.out HB2.out⟩
      · rw [if_pos ⟨rfl, rfl, hxy⟩]
        have hq : (X != Y) = true := by rw [bne_iff_ne]; exact hxy
        obtain ⟨i, rfl⟩ : ∃ i : Nat, X = (i : Int) + 1 := ⟨(X - 1).toNat, by omega⟩
        obtain ⟨j, rfl⟩ : ∃ j : Nat, Y = (j : Int) + 1 := ⟨(Y - 1).toNat, by omega⟩
        have hi4 : i < 4 := by omega
        have hj4 : j < 4 := by omega
        have hij : i ≠ j := by omega
        unfold relF
        have si : (i : Int) + 1 - 1 = (i : Int) := by omega
        have sj : (j : Int) + 1 - 1 = (j : Int) := by omega
        rw [si, sj]
        simp only [Int.toNat_natCast]
        have wi : IntKind.i64.wrap (i : Int) = (i : Int) := IntWalk.i64_in _ (by omega)
        have wj : IntKind.i64.wrap (j : Int) = (j : Int) := IntWalk.i64_in _ (by omega)
        have i0 : (0 : Int) ≤ (i : Int) := by omega
        have j0 : (0 : Int) ≤ (j : Int) := by omega
        have i4 : (i : Int) < 4 := by omega
        have j4 : (j : Int) < 4 := by omega
        have HIJ := Lib.hid (And.intro hi4 (And.intro hj4 hij))
        clear hxy hx hy hi4 hj4 hij
        have HM := fun W => mirror_any r W
        obtain ⟨q, hqq⟩ : ∃ q, backF r = q := ⟨_, rfl⟩
        rw [hqq] at HM ⊢
        have HM := Lib.hid HM
        clear hqq h0 h3
        go_enter Tryz.func54, Tryz.ntmps54
        go_wp2_with fail
        refine HH.out.mono ?_
        rintro e w1 ⟨rfl, hb1⟩
        have HB1 := Lib.hid hb1
        clear hb1
        go_wp2_with fail
        refine (HH2.out _ HB1.out).mono ?_
        rintro e w2 ⟨rfl, hb2⟩
        have HB2 : Hid (Below w.heap.size w w2) := Lib.hid (HB1.out.trans (hb2.mono HB1.out.size))
        clear hb2
        go_wp2_with fail
        refine (need_yes _).mono ?_
        rintro e w' ⟨rfl, rfl⟩
        have HBB := Lib.hid (HB.out.below HB2.out)
        obtain ⟨g, cap, b1, c1, b2, c2, x1, x2, x3, n1, n2, n3, n4, n5, ⟨y1, x4⟩, x5, ⟨y2, x6⟩, x7, hset⟩ := HBB.out.cross HIJ.out.1 HIJ.out.2.1 HIJ.out.2.2
        have m1 := Ne.symm n1
        have m2 := Ne.symm n2
        have m3 := Ne.symm n3
        have m4 := Ne.symm n4
        have m5 := Ne.symm n5
        have HSET := Lib.hid hset
        clear hset
        go_wp2_with fail
        go_region_held3 (fun W => W.cell? ⟨k, 0, none⟩ = some (.slice (some ⟨g, 0, none⟩) 4 cap) ∧ W.cell? ⟨g, i, none⟩ = some (.slice (some ⟨b1, 0, none⟩) 4 c1) ∧ W.cell? ⟨g, j, none⟩ = some (.slice (some ⟨b2, 0, none⟩) 4 c2)) ((simp [go_sem, *])) ((go_at_call 89; refine (HM.out _).mono ?_; rintro e w' ⟨rfl, rfl⟩))
        all_goals
          go_wp2_with fail
          go_ret
          have h := HSET.out r q
          exact ⟨.inl rfl, h.1.below bw, Within.trans (Within.of_below HB2.out) (h.2.trans (Within.of_below bw))⟩
theorem sells_any (lo hi k : Nat) (s : LSt) (v : Value) (ws : List Bs) (w : World) (hB : BoardAt w lo hi k s.rels s.homes) (hS : StrsAt w v ws) :
    Calls Tryz.prog 30 #[.pointer (some ⟨k, 0, none⟩), v] w (DoPost lo hi k (relLine s ws 1) w) := by
  have HR := Lib.hid (relate_any lo hi k s v ws 1 w hB hS (by decide) (by decide))
  obtain ⟨x, hx⟩ : ∃ x, relLine s ws 1 = x := ⟨_, rfl⟩
  rw [hx] at HR ⊢
  clear hB hS hx
  go_enter Tryz.func30, Tryz.ntmps30
  go_wp2_with fail
  refine HR.out.mono ?_
  rintro e w1 ⟨he, hb, hw⟩
  rcases he with rfl | ⟨rfl, hx⟩
  · have HP : Hid (DoPost lo hi k x w (.returned (stV x.2)) w1) := Lib.hid ⟨.inl rfl, hb, hw⟩
    clear hb hw
    go_wp2_with fail
    go_ret
    exact HP.out
  · have HP : Hid (DoPost lo hi k x w (.panicked badP) w1) := Lib.hid ⟨.inr ⟨rfl, hx⟩, hb, hw⟩
    clear hb hw hx
    go_wp2_with fail
    exact ⟨rfl, HP.out⟩
theorem peers_any (lo hi k : Nat) (s : LSt) (v : Value) (ws : List Bs) (w : World) (hB : BoardAt w lo hi k s.rels s.homes) (hS : StrsAt w v ws) :
    Calls Tryz.prog 31 #[.pointer (some ⟨k, 0, none⟩), v] w (DoPost lo hi k (relLine s ws 2) w) := by
  have HR := Lib.hid (relate_any lo hi k s v ws 2 w hB hS (by decide) (by decide))
  obtain ⟨x, hx⟩ : ∃ x, relLine s ws 2 = x := ⟨_, rfl⟩
  rw [hx] at HR ⊢
  clear hB hS hx
  go_enter Tryz.func31, Tryz.ntmps31
  go_wp2_with fail
  refine HR.out.mono ?_
  rintro e w1 ⟨he, hb, hw⟩
  rcases he with rfl | ⟨rfl, hx⟩
  · have HP : Hid (DoPost lo hi k x w (.returned (stV x.2)) w1) := Lib.hid ⟨.inl rfl, hb, hw⟩
    clear hb hw
    go_wp2_with fail
    go_ret
    exact HP.out
  · have HP : Hid (DoPost lo hi k x w (.panicked badP) w1) := Lib.hid ⟨.inr ⟨rfl, hx⟩, hb, hw⟩
    clear hb hw hx
    go_wp2_with fail
    exact ⟨rfl, HP.out⟩
theorem parts_any (lo hi k : Nat) (s : LSt) (v : Value) (ws : List Bs) (w : World) (hB : BoardAt w lo hi k s.rels s.homes) (hS : StrsAt w v ws) :
    Calls Tryz.prog 32 #[.pointer (some ⟨k, 0, none⟩), v] w (DoPost lo hi k (relLine s ws 0) w) := by
  have HR := Lib.hid (relate_any lo hi k s v ws 0 w hB hS (by decide) (by decide))
  obtain ⟨x, hx⟩ : ∃ x, relLine s ws 0 = x := ⟨_, rfl⟩
  rw [hx] at HR ⊢
  clear hB hS hx
  go_enter Tryz.func32, Tryz.ntmps32
  go_wp2_with fail
  refine HR.out.mono ?_
  rintro e w1 ⟨he, hb, hw⟩
  rcases he with rfl | ⟨rfl, hx⟩
  · have HP : Hid (DoPost lo hi k x w (.returned (stV x.2)) w1) := Lib.hid ⟨.inl rfl, hb, hw⟩
    clear hb hw
    go_wp2_with fail
    go_ret
    exact HP.out
  · have HP : Hid (DoPost lo hi k x w (.panicked badP) w1) := Lib.hid ⟨.inr ⟨rfl, hx⟩, hb, hw⟩
    clear hb hw hx
    go_wp2_with fail
    exact ⟨rfl, HP.out⟩
end Go.Proofs.YtnecdeaikmhanaaGreatDoor
namespace Go.Proofs.YtnecdeaikmhanaaGreatDoor
open Go.RowKit
set_option linter.unusedVariables false
set_option maxRecDepth 100000
def ExecPost (lo hi k : Nat) (x : LSt × Bs) (w : World) (e : Ending) (w' : World) : Prop := e = .returned (stV x.2) ∧ BoardAt w' lo hi k x.1.rels x.1.homes ∧ Within lo hi w w'
theorem mapD_below {W W' : World} {b n : Nat} {D : DataW Value} (h : W.ownsMap Tryz.prog 9 mapR b n D) (hb : Below W.heap.size W W') : W'.ownsMap Tryz.prog 9 mapR b n D :=
  h.kept (row := none) ⟨hb.os, hb.tape, hb.output, hb.size, fun i hi _ => hb.block i hi⟩ (by simp)
theorem setCell_ne {w : World} {p q : Addr} {T : ByteArray} {k : IntKind} {n : Int} (hc : w.cell? p = some (.string T)) (hq : w.cell? q = some (.int k n)) (u : Value) : (w.setCell p u).cell? q = some (.int k n) := by
  rw [World.cell?_setCell_other _ _ _ _ (fun e => by rw [e, hq] at hc; cases hc)]
  exact hq
theorem EntsAt.setStr {w : World} {v : Value} {l : List Ent} {p : Addr} {T : ByteArray} (h : EntsAt w v l) (hc : w.cell? p = some (.string T)) (u : Value) : EntsAt (w.setCell p u) v l := by
  obtain ⟨a, cap, rfl, h1, h2, h3⟩ := h
  refine ⟨a, cap, rfl, h1, h2, ?_⟩
  rcases h3 with h3 | ⟨b, off, rfl, hb, hcl⟩
  · exact .inl h3
  · refine .inr ⟨b, off, rfl, by simpa [World.setCell] using hb, fun i hi => ?_⟩
    obtain ⟨e1, e2, e3⟩ := hcl i hi
    exact ⟨setCell_ne hc e1 u, setCell_ne hc e2 u, setCell_ne hc e3 u⟩
theorem BoardAt.setStr {w : World} {lo hi k : Nat} {R : List (List Int)} {H : List Ent} {p : Addr} {T : ByteArray} (h : BoardAt w lo hi k R H) (hp : hi ≤ p.block) (hc : w.cell? p = some (.string T)) (u : Value) : BoardAt (w.setCell p u) lo hi k R H := by
  obtain ⟨cur, mk, hblk⟩ := h.blk
  obtain ⟨v, hv, hM⟩ := h.rels
  obtain ⟨x, hx, hH, hH2⟩ := h.homes
  have hk := h.kIn
  have hne : p.block ≠ k := by omega
  have hcell : ∀ o, (w.setCell p u).cell? ⟨k, o, none⟩ = w.cell? ⟨k, o, none⟩ := fun o => World.cell?_setCell_other _ _ _ _ (fun e => hne (by rw [e]))
  refine ⟨hk, by have := h.hiIn; simp [World.setCell] at this ⊢; exact this, h.lo9, h.len, h.row, ⟨cur, mk, ?_⟩, ⟨v, (hcell 0).trans hv, hM.other (fun g cu T hg hT _ hgh => ?_)⟩, by simp [h.f0], ⟨x, (hcell 1).trans hx, hH.setStr hc u, hH2⟩, by simp [h.f1]⟩
  · rw [Below.heap_setCell _ _ _ _ (by omega)]; exact hblk
  · rw [Below.heap_setCell _ _ _ _ (by omega)]
theorem Within.setNew {lo hi : Nat} {w w' : World} (h : Within lo hi w w') {p : Addr} (hp : w.heap.size ≤ p.block) (u : Value) : Within lo hi w (w'.setCell p u) :=
  ⟨h.os, h.tape, h.output, by simpa [World.setCell] using h.size, fun b hb hk => by rw [Below.heap_setCell _ _ _ _ (by omega)]; exact h.block b hb hk⟩
set_option maxHeartbeats 8000000 in
theorem exec_do (lo hi k f : Nat) (s : LSt) (l : Bs) (X : LSt × Bs) (w : World) (hB : BoardAt w lo hi k s.rels s.homes) (E : EnvOk w) (hl : l.length ≤ 500)
    (hk : ∀ W b, W.ownsMap Tryz.prog 9 mapR b 7 mapD → (Instr.lookup 58 (.map (some b)) (stV ((cutC 32 l).getD 0 [])) true).run Tryz.prog W = .ok (.tuple #[fnV f, .bool true]) W)
    (hcf : ∀ args W, (callFunc f args).run Tryz.prog W = .ok (.enter f args) W)
    (HF : ∀ v W, BoardAt W lo hi k s.rels s.homes → StrsAt W v (cutC 32 l) → EnvOk W → Calls Tryz.prog f #[.pointer (some ⟨k, 0, none⟩), v] W (DoPost lo hi k X W)) :
    Calls Tryz.prog 20 #[.pointer (some ⟨k, 0, none⟩), stV l] w (ExecPost lo hi k X w) := by
  have hmf : ∀ (fn : Fn) (first cap : Array Value) (w : World), (Instr.makeFunc fn first cap).run Tryz.prog w = .ok (.func fn first cap) w := fun _ _ _ _ => rfl
  obtain ⟨W0, hW0⟩ : ∃ W, (w.alloc (.cells #[.string ⟨#[]⟩] 9)).alloc (.map #[] 0) = W := ⟨_, rfl⟩
  have hown : W0.ownsMap Tryz.prog 9 mapR (w.heap.size + 1) 0 (.map []) := by
    have := World.ownsMap_made (w.alloc (.cells #[.string ⟨#[]⟩] 9)) Tryz.prog 9 mapR
    rw [hW0] at this
    simpa using this
  obtain ⟨m1, m2, m3, m4, m5, m6, m7, r1, r2, r3, r4, r5, r6, r7, o7, hb7⟩ := map_seven W0 _ hown
  rw [← hW0] at r1
  have hbc : Below (w.heap.size + 1) W0 m7 := hb7 _ (Nat.le_refl _)
  have hcW : W0.cell? ⟨w.heap.size, 0, none⟩ = some (.string ⟨#[]⟩) ∧ W0.frozen? ⟨w.heap.size, 0, none⟩ = false := by
    rw [← hW0]; constructor <;> simp
  have hb70 : Below w.heap.size w m7 := by
    refine Below.trans ?_ (hb7 w.heap.size (by omega))
    rw [← hW0]; exact bw
  have hsz : w.heap.size + 1 < m7.heap.size := o7.lt
  simp only [PutR, stV, fnV, sSells, sPeers, sParts, sHome, sWays, sSend, sFree] at r1 r2 r3 r4 r5 r6 r7
  have E7 : EnvOk m7 := E.next hb70
  have hSP := split_any 32 l (by omega) m7 E7
  have hlook := fun W h => hk W (w.heap.size + 1) h
  have hc7 : m7.cell? ⟨w.heap.size, 0, none⟩ = some (.string ⟨#[]⟩) := (hbc.cell (p := ⟨w.heap.size, 0, none⟩) (by show w.heap.size < w.heap.size + 1; omega)).trans hcW.1
  have hf7 : m7.frozen? ⟨w.heap.size, 0, none⟩ = false := (hbc.frozen (p := ⟨w.heap.size, 0, none⟩) (by show w.heap.size < w.heap.size + 1; omega)).trans hcW.2
  have HSP := Lib.hid hSP
  have HLK := Lib.hid hlook
  have HF2 := Lib.hid HF
  have HB := Lib.hid hB
  have HE7 := Lib.hid E7
  have HO7 := Lib.hid o7
  have HB7 := Lib.hid hb70
  have HC7 := Lib.hid hc7
  have HF7 := Lib.hid hf7
  have hhi := hB.hiIn
  clear hSP hlook HF hB E E7 o7 hb70 hb7 hbc hcW hown hk hc7 hf7 hW0 W0 hl
  go_enter_defers Tryz.func20, Tryz.ntmps20
  have hmm : ∀ (t : TypeId) (W : World), (Instr.makeMap t none).run Tryz.prog W = .ok (.map (some W.heap.size)) (W.alloc (.map #[] 0)) := fun _ _ => rfl
  go_wp2_with fail
  refine HSP.out.mono ?_
  rintro e w2 ⟨va, vc, rfl, hS, hb2⟩
  have HS := Lib.hid hS.strs
  have HB2 := Lib.hid hb2
  have hL2 := HLK.out w2 (mapD_below HO7.out hb2)
  have hA0 := at_0 _ _ w2 hS.strs
  have HA0 := Lib.hid hA0
  obtain ⟨n2, hn2⟩ : ∃ n, (cutC 32 l).length = n := ⟨_, rfl⟩
  rw [hn2] at HS HA0
  obtain ⟨k0, hk0⟩ : ∃ x, (cutC 32 l).getD 0 [] = x := ⟨_, rfl⟩
  rw [hk0] at HA0 hL2
  rw [hn2]
  clear hS hb2 hA0 hn2 hk0 r1 r2 r3 r4 r5 r6 r7
  go_wp2_with fail
  refine HA0.out.mono ?_
  rintro e w' ⟨rfl, rfl⟩
  go_wp2_with fail
  refine (need_yes _).mono ?_
  rintro e w' ⟨rfl, rfl⟩
  go_wp2_with fail
  have BW : Below w.heap.size w w2 := HB7.out.trans (HB2.out.mono HB7.out.size)
  refine (HF2.out _ w2 (HB.out.below BW) HS.out (HE7.out.next HB2.out)).mono ?_
  rintro e w3 ⟨he, hB3, hW3⟩
  have c2 : w2.cell? ⟨w.heap.size, 0, none⟩ = some (.string ⟨#[]⟩) := (HB2.out.cell (p := ⟨w.heap.size, 0, none⟩) (by show w.heap.size < m7.heap.size; omega)).trans HC7.out
  have c3 : w3.cell? ⟨w.heap.size, 0, none⟩ = some (.string ⟨#[]⟩) := (hW3.cell (p := ⟨w.heap.size, 0, none⟩) (by have := HB2.out.size; show w.heap.size < w2.heap.size; omega) (.inr hhi)).trans c2
  have f3 : w3.frozen? ⟨w.heap.size, 0, none⟩ = false := by
    refine (World.frozen?_of_block (hW3.block w.heap.size (by have := HB2.out.size; omega) (.inr hhi))).trans ?_
    exact (HB2.out.frozen (p := ⟨w.heap.size, 0, none⟩) (by show w.heap.size < m7.heap.size; omega)).trans HF7.out
  have hW : Within lo hi w w3 := (Within.of_below BW).trans hW3
  have z3 : w.heap.size < w3.heap.size := by have := HB2.out.size; have := hW3.size; omega
  rcases he with rfl | ⟨rfl, hx⟩
  · have C3 := Lib.hid c3
    have HB3 := Lib.hid hB3
    have HW := Lib.hid hW
    clear hB3 hW3 hW BW c2
    go_wp2_with fail
    refine leaves_cons (f := 29) (args := #[.pointer (some ⟨w.heap.size, 0, none⟩)]) (by simp) (by simp [go_sem]) ?_
    refine (catch_idle ⟨w.heap.size, 0, none⟩ _).mono ?_
    rintro e u' w'' ⟨rfl, rfl, rfl⟩
    have c4 := World.cell?_setCell_same _ _ (stV X.2) C3.out
    simp [Leaves, settle, results, Tryz.results20, go_sem, c4]
    exact ⟨rfl, HB3.out.setStr hhi C3.out _, HW.out.setNew (Nat.le_refl _) _⟩
  · have C3 := Lib.hid c3
    have HB3 := Lib.hid hB3
    have HW := Lib.hid hW
    have HX := Lib.hid hx
    clear hB3 hW3 hW BW c2 hx
    go_wp2_with fail
    refine leaves_cons (f := 29) (args := #[.pointer (some ⟨w.heap.size, 0, none⟩)]) (by simp) (by simp [go_sem]) ?_
    refine (catch_bad ⟨w.heap.size, 0, none⟩ _ w3 C3.out z3 ⟨_, rfl⟩ f3).mono ?_
    rintro e u' w'' ⟨rfl, rfl, rfl⟩
    have BA : Below w3.heap.size w3 (w3.alloc (.cells #[] 54)) := Below.alloc (Below.refl _ _) (Nat.le_refl _) _
    have C5 : (w3.alloc (.cells #[] 54)).cell? ⟨w.heap.size, 0, none⟩ = some (.string ⟨#[]⟩) := (BA.cell (p := ⟨w.heap.size, 0, none⟩) z3).trans C3.out
    have c4 := World.cell?_setCell_same _ _ (stV sWhat) C5
    simp [Leaves, settle, results, Tryz.results20, go_sem, c4]
    exact ⟨by rw [HX.out], (HB3.out.below BA).setStr hhi C5 _, (HW.out.trans (Within.of_below BA)).setNew (Nat.le_refl _) _⟩
set_option maxHeartbeats 8000000 in
theorem exec_none (lo hi k : Nat) (s : LSt) (l : Bs) (w : World) (hB : BoardAt w lo hi k s.rels s.homes) (E : EnvOk w) (hl : l.length ≤ 500)
    (hk : ∀ W b, W.ownsMap Tryz.prog 9 mapR b 7 mapD → (Instr.lookup 58 (.map (some b)) (stV ((cutC 32 l).getD 0 [])) true).run Tryz.prog W = .ok (.tuple #[.nilFunc, .bool false]) W) :
    Calls Tryz.prog 20 #[.pointer (some ⟨k, 0, none⟩), stV l] w (ExecPost lo hi k (s, sWhat) w) := by
  have hmf : ∀ (fn : Fn) (first cap : Array Value) (w : World), (Instr.makeFunc fn first cap).run Tryz.prog w = .ok (.func fn first cap) w := fun _ _ _ _ => rfl
  obtain ⟨W0, hW0⟩ : ∃ W, (w.alloc (.cells #[.string ⟨#[]⟩] 9)).alloc (.map #[] 0) = W := ⟨_, rfl⟩
  have hown : W0.ownsMap Tryz.prog 9 mapR (w.heap.size + 1) 0 (.map []) := by
    have := World.ownsMap_made (w.alloc (.cells #[.string ⟨#[]⟩] 9)) Tryz.prog 9 mapR
    rw [hW0] at this
    simpa using this
  obtain ⟨m1, m2, m3, m4, m5, m6, m7, r1, r2, r3, r4, r5, r6, r7, o7, hb7⟩ := map_seven W0 _ hown
  rw [← hW0] at r1
  have hbc : Below (w.heap.size + 1) W0 m7 := hb7 _ (Nat.le_refl _)
  have hcW : W0.cell? ⟨w.heap.size, 0, none⟩ = some (.string ⟨#[]⟩) ∧ W0.frozen? ⟨w.heap.size, 0, none⟩ = false := by
    rw [← hW0]; constructor <;> simp
  have hb70 : Below w.heap.size w m7 := by
    refine Below.trans ?_ (hb7 w.heap.size (by omega))
    rw [← hW0]; exact bw
  have hsz : w.heap.size + 1 < m7.heap.size := o7.lt
  simp only [PutR, stV, fnV, sSells, sPeers, sParts, sHome, sWays, sSend, sFree] at r1 r2 r3 r4 r5 r6 r7
  have E7 : EnvOk m7 := E.next hb70
  have hSP := split_any 32 l (by omega) m7 E7
  have hlook := fun W h => hk W (w.heap.size + 1) h
  have hc7 : m7.cell? ⟨w.heap.size, 0, none⟩ = some (.string ⟨#[]⟩) := (hbc.cell (p := ⟨w.heap.size, 0, none⟩) (by show w.heap.size < w.heap.size + 1; omega)).trans hcW.1
  have hf7 : m7.frozen? ⟨w.heap.size, 0, none⟩ = false := (hbc.frozen (p := ⟨w.heap.size, 0, none⟩) (by show w.heap.size < w.heap.size + 1; omega)).trans hcW.2
  have HSP := Lib.hid hSP
  have HLK := Lib.hid hlook
  have HB := Lib.hid hB
  have HE7 := Lib.hid E7
  have HO7 := Lib.hid o7
  have HB7 := Lib.hid hb70
  have HC7 := Lib.hid hc7
  have HF7 := Lib.hid hf7
  have hhi := hB.hiIn
  clear hSP hlook hB E E7 o7 hb70 hb7 hbc hcW hown hk hc7 hf7 hW0 W0 hl
  go_enter_defers Tryz.func20, Tryz.ntmps20
  have hmm : ∀ (t : TypeId) (W : World), (Instr.makeMap t none).run Tryz.prog W = .ok (.map (some W.heap.size)) (W.alloc (.map #[] 0)) := fun _ _ => rfl
  go_wp2_with fail
  refine HSP.out.mono ?_
  rintro e w2 ⟨va, vc, rfl, hS, hb2⟩
  have HS := Lib.hid hS.strs
  have HB2 := Lib.hid hb2
  have hL2 := HLK.out w2 (mapD_below HO7.out hb2)
  have hA0 := at_0 _ _ w2 hS.strs
  have HA0 := Lib.hid hA0
  obtain ⟨n2, hn2⟩ : ∃ n, (cutC 32 l).length = n := ⟨_, rfl⟩
  rw [hn2] at HS HA0
  obtain ⟨k0, hk0⟩ : ∃ x, (cutC 32 l).getD 0 [] = x := ⟨_, rfl⟩
  rw [hk0] at HA0 hL2
  rw [hn2]
  clear hS hb2 hA0 hn2 hk0 r1 r2 r3 r4 r5 r6 r7
  go_wp2_with fail
  refine HA0.out.mono ?_
  rintro e w' ⟨rfl, rfl⟩
  go_wp2_with fail
  refine (need_no _).mono ?_
  rintro e w' ⟨rfl, rfl⟩
  have BW : Below w.heap.size w w2 := HB7.out.trans (HB2.out.mono HB7.out.size)
  have c3 : w2.cell? ⟨w.heap.size, 0, none⟩ = some (.string ⟨#[]⟩) := (HB2.out.cell (p := ⟨w.heap.size, 0, none⟩) (by show w.heap.size < m7.heap.size; omega)).trans HC7.out
  have f3 : w2.frozen? ⟨w.heap.size, 0, none⟩ = false := (HB2.out.frozen (p := ⟨w.heap.size, 0, none⟩) (by show w.heap.size < m7.heap.size; omega)).trans HF7.out
  have z3 : w.heap.size < w2.heap.size := by have := HB2.out.size; omega
  have C3 := Lib.hid c3
  have HB3 := Lib.hid (HB.out.below BW)
  have HW : Hid (Within lo hi w w2) := Lib.hid (Within.of_below BW)
  clear BW
  go_wp2_with fail
  refine leaves_cons (f := 29) (args := #[.pointer (some ⟨w.heap.size, 0, none⟩)]) (by simp) (by simp [go_sem]) ?_
  refine (catch_bad ⟨w.heap.size, 0, none⟩ _ w2 C3.out z3 ⟨_, rfl⟩ f3).mono ?_
  rintro e u' w'' ⟨rfl, rfl, rfl⟩
  have BA : Below w2.heap.size w2 (w2.alloc (.cells #[] 54)) := Below.alloc (Below.refl _ _) (Nat.le_refl _) _
  have C5 : (w2.alloc (.cells #[] 54)).cell? ⟨w.heap.size, 0, none⟩ = some (.string ⟨#[]⟩) := (BA.cell (p := ⟨w.heap.size, 0, none⟩) z3).trans C3.out
  have c4 := World.cell?_setCell_same _ _ (stV sWhat) C5
  simp [Leaves, settle, results, Tryz.results20, go_sem, c4]
  exact ⟨rfl, (HB3.out.below BA).setStr hhi C5 _, (HW.out.trans (Within.of_below BA)).setNew (Nat.le_refl _) _⟩
theorem key_first {W : World} {b : Nat} (key : Bs) (hk : key.length ≤ 1000000) (h : W.ownsMap Tryz.prog 9 mapR b 7 mapD) {v : Value} {x : Bool} (h1 : mapD.atKey (.string key) (.held .nilFunc) = .held v) (h2 : Maps.has mapD (.string key) = x) :
    (Instr.lookup 58 (.map (some b)) (stV key) true).run Tryz.prog W = .ok (.tuple #[v, .bool x]) W := by
  obtain ⟨u, e1, e2⟩ := look_any h key hk
  rw [h1] at e2
  cases e2
  rw [h2] at e1
  exact e1
theorem exec_any (lo hi k : Nat) (s : LSt) (l : Bs) (w : World) (hB : BoardAt w lo hi k s.rels s.homes) (E : EnvOk w) (hst : StOk s) (hl : l.length ≤ 500) :
    Calls Tryz.prog 20 #[.pointer (some ⟨k, 0, none⟩), stV l] w (ExecPost lo hi k (execF s l) w) := by
  have h1 := cut_len 32 l 0
  have h2 := cut_len 32 l 1
  have e0 : wordF (cutC 32 l) 0 = (cutC 32 l).getD 0 [] := rfl
  obtain ⟨K, hK⟩ : ∃ K, (cutC 32 l).getD 0 [] = K := ⟨_, rfl⟩
  have hKl : K.length ≤ 1000000 := by rw [← hK]; omega
  unfold execF
  simp only
  rw [e0, hK]
  by_cases g1 : K = sSells
  · rw [if_pos g1]
    subst g1
    exact exec_do lo hi k 30 s l _ w hB E hl (fun W b hm => by rw [hK]; exact key_first _ hKl hm (by rw [mapD_eq]; rfl) (by rw [mapD_eq]; rfl)) (fun _ _ => by rfl) (fun v W a b c => sells_any lo hi k s v _ W a b)
  rw [if_neg g1]
  by_cases g2 : K = sPeers
  · rw [if_pos g2]
    subst g2
    exact exec_do lo hi k 31 s l _ w hB E hl (fun W b hm => by rw [hK]; exact key_first _ hKl hm (by rw [mapD_eq]; rfl) (by rw [mapD_eq]; rfl)) (fun _ _ => by rfl) (fun v W a b c => peers_any lo hi k s v _ W a b)
  rw [if_neg g2]
  by_cases g3 : K = sParts
  · rw [if_pos g3]
    subst g3
    exact exec_do lo hi k 32 s l _ w hB E hl (fun W b hm => by rw [hK]; exact key_first _ hKl hm (by rw [mapD_eq]; rfl) (by rw [mapD_eq]; rfl)) (fun _ _ => by rfl) (fun v W a b c => parts_any lo hi k s v _ W a b)
  rw [if_neg g3]
  by_cases g4 : K = sHome
  · rw [if_pos g4]
    subst g4
    exact exec_do lo hi k 33 s l _ w hB E hl (fun W b hm => by rw [hK]; exact key_first _ hKl hm (by rw [mapD_eq]; rfl) (by rw [mapD_eq]; rfl)) (fun _ _ => by rfl) (fun v W a b c => home_any lo hi k s v _ W a b c hst (by omega))
  rw [if_neg g4]
  by_cases g5 : K = sWays
  · rw [if_pos g5]
    subst g5
    exact exec_do lo hi k 34 s l _ w hB E hl (fun W b hm => by rw [hK]; exact key_first _ hKl hm (by rw [mapD_eq]; rfl) (by rw [mapD_eq]; rfl)) (fun _ _ => by rfl) (fun v W a b c => ways_any lo hi k s v _ W a b c hst)
  rw [if_neg g5]
  by_cases g6 : K = sSend
  · rw [if_pos g6]
    subst g6
    exact exec_do lo hi k 35 s l _ w hB E hl (fun W b hm => by rw [hK]; exact key_first _ hKl hm (by rw [mapD_eq]; rfl) (by rw [mapD_eq]; rfl)) (fun _ _ => by rfl) (fun v W a b c => send_any lo hi k s v _ W a b c hst)
  rw [if_neg g6]
  by_cases g7 : K = sFree
  · rw [if_pos g7]
    subst g7
    exact exec_do lo hi k 36 s l _ w hB E hl (fun W b hm => by rw [hK]; exact key_first _ hKl hm (by rw [mapD_eq]; rfl) (by rw [mapD_eq]; rfl)) (fun _ _ => by rfl) (fun v W a b c => free_any lo hi k s v W a c)
  rw [if_neg g7]
  have n1 : (sFree == K) = false := beq_eq_false_iff_ne.2 (fun e => g7 e.symm)
  have n2 : (sHome == K) = false := beq_eq_false_iff_ne.2 (fun e => g4 e.symm)
  have n3 : (sParts == K) = false := beq_eq_false_iff_ne.2 (fun e => g3 e.symm)
  have n4 : (sPeers == K) = false := beq_eq_false_iff_ne.2 (fun e => g2 e.symm)
  have n5 : (sSells == K) = false := beq_eq_false_iff_ne.2 (fun e => g1 e.symm)
  have n6 : (sSend == K) = false := beq_eq_false_iff_ne.2 (fun e => g6 e.symm)
  have n7 : (sWays == K) = false := beq_eq_false_iff_ne.2 (fun e => g5 e.symm)
  refine exec_none lo hi k s l w hB E hl (fun W b hm => by
    rw [hK]
    exact key_first _ hKl hm (by rw [mapD_eq]; simp [DataW.atKey, Lit.sameKey, n1, n2, n3, n4, n5, n6, n7]) (by rw [has_key, n1, n2, n3, n4, n5, n6, n7]; rfl))
end Go.Proofs.YtnecdeaikmhanaaGreatDoor
namespace Go.Proofs.YtnecdeaikmhanaaGreatDoor
open Go.RowKit
set_option linter.unusedVariables false
set_option maxRecDepth 100000
theorem ways_len {s : LSt} {x : Int} (hst : StOk s) (h1 : 1 ≤ x) (h4 : x ≤ 4) : (Lib.join ((end31 s.rels x 4).map ptextF) [32]).length ≤ 124 := by
  have hl := end_len hst.len x
  have hg : ∀ i, i < (end31 s.rels x 4).length → GoodP ((end31 s.rels x 4).getD i []) := fun i hi => end_good hst.len (by omega) (by omega) (by rw [hl] at hi; exact hi)
  have := join_le (wtL_short hg 4) 32
  rw [wtL_len (by omega)] at this
  unfold wtL at this
  rw [List.take_of_length_le (by omega)] at this
  exact this
theorem out_len {s : LSt} (hst : StOk s) (l : Bs) : (execF s l).2.length ≤ 200 := by
  have hw : sWhat.length ≤ 200 := by decide
  unfold execF
  simp only
  have hrel : ∀ r, (relLine s (cutC 32 l) r).2.length ≤ 200 := fun r => by
    unfold relLine; split <;> simp [sWhat]
  split
  · exact hrel _
  split
  · exact hrel _
  split
  · exact hrel _
  split
  · unfold homeLine; split
    · simp [sWhat]
    · split <;> simp [sWhat]
  split
  · unfold waysLine
    simp only
    split
    · rename_i h
      unfold in14 at h
      simp at h
      have := ways_len hst h.1 h.2
      rw [List.length_append]
      simp at this ⊢
      omega
    · exact hw
  split
  · unfold sendLine
    simp only
    split
    · rename_i h
      obtain ⟨h1, h2⟩ := h
      unfold in14 at h1
      simp at h1
      have := ptext_short (way_good hst.hom hst.len (by omega) (by omega) h1.1 (by omega) h2)
      rw [List.length_append]
      split <;> simp [sHomeEnd, sLost] <;> omega
    · exact hw
  split
  · unfold freeLine
    simp only
    split
    · rename_i h
      have := ptext_short (order_good h)
      simp
      omega
    · simp [sNo]
  · exact hw
theorem go_len : ∀ (ls : List Bs) (s : LSt) (o : Bs), StOk s → (goF2 (s, o) ls).2.length ≤ o.length + 200 * ls.length
  | [], s, o, _ => by simp [goF2]
  | l :: t, s, o, h => by
    have := go_len t (execF s l).1 (o ++ (execF s l).2) (exec_ok h l)
    have h2 := out_len h l
    have e : goF2 (s, o) (l :: t) = goF2 ((execF s l).1, o ++ (execF s l).2) t := rfl
    rw [e]
    simp only [List.length_append, List.length_cons] at this ⊢
    omega
theorem run_len (ls : List Bs) : (runF ls).2.length ≤ 200 * ls.length := by
  have := go_len ls st0 [] st0_ok
  rw [List.length_nil, Nat.zero_add] at this
  exact this
theorem MatB.low {w : World} {lo lo' hi : Nat} {v : Value} {ll : List (List Int)} (h : MatB w lo hi v ll) (hl : lo' ≤ lo) : MatB w lo' hi v ll := by
  obtain ⟨vs, h1, h2, h3, h4⟩ := h
  exact ⟨vs, h1, owns_lift h2 hl, fun i hi => (h3 i hi).lift hl, h4⟩
section
variable {W : World}
theorem step_append_mat {ops : Array Oper} {o : Oper} {a : Act} {K : Act → World → Prop} {Q : Exit → Act → World → Prop} {E : Prop} (hgd : o.guard = none) (s x : Operand)
    (ho : o.op = .call { callee := .builtin .append, args := #[s, x], argTypes := #[33, 33] })
    (B : Nat) (v u : Value) (ll : List (List Int)) (l : List Int) (N hi C : Nat) (hN : ll.length = N) (hs : a.eval s = v) (hO : MatB W B hi v ll) (hB : B ≤ W.heap.size) (g : Nat) (hx : a.eval x = .slice (some ⟨g, 0, none⟩) 1 1) (hgW : g = W.heap.size) (hu : OwnInts W C u l) (hC : hi ≤ C) (hBC : B ≤ C) (hu1 : ∃ ad n c, u = .slice ad n c) (hlen : N ≤ 1000000) (W2 : World) (hW2 : W2 = W.alloc (.cells #[u] 37))
    (h : ∀ ad c w', MatB w' B w'.heap.size (.slice ad (N + 1) c) (ll ++ [l]) → Below B W w' → w'.heap.size ≥ W.heap.size → K (a.put o.dst (.slice ad (N + 1) c)) w') :
    if Region.wanted o (yielded ops a.tmps) = true then Oper.wp Tryz.prog o a W2 K Q else E := by
  subst hW2
  obtain ⟨i2, hi2, hy0, hy1, hy2⟩ := info_parts info_r2
  subst hN
  subst hgW
  obtain ⟨vs, h1, h2, h3, h4, h5, h6⟩ := hO
  have hA := Below.alloc (Below.refl W.heap.size W) (Nat.le_refl _) (.cells #[u] 37)
  refine step_append_src hgd s x 33 ho B 37 i2 (.slice none 0 0) 24 Tryz.underlying33 hi2 hy0 hy1 hy2 rfl v ll.length vs hs (owns_belowR h2 hA) (.slice (some ⟨W.heap.size, 0, none⟩) 1 1) 1 (fun _ => u) hx (lit_any W u 37) (fun j hj => by obtain ⟨ad, n, c, rfl⟩ := hu1; rfl) (by unfold maxLen; omega) (by omega) (by simp; omega) ?_
  intro v' w' hown hgrow
  have hR := MatB.push h1 rfl (owns_belowR h2 hA) (fun i hi => (h3 i hi).below hA) ((hu.lift hBC).below hA) h6 (fun i b c hi hb hc => by have := h5 i b hi hb; have := (World.ownsRow.lt hu c hc).1; omega) hgrow hown
  obtain ⟨ad, c, rfl, _, _⟩ := hR.form
  rw [List.length_append] at hR ⊢
  exact h ad c w' hR (Below.grown (Below.alloc (Below.refl _ _) hB _) hgrow (by simp; omega) (fun g hg => (World.ownsRow.lt h2 g hg).1)) (by have := hgrow.size; simp at this; omega)
end
def MadeAt (w W : World) (k : Nat) (v : Value) (j : Nat) : Prop := W.heap[k]? = some (.cells #[v, .slice none 0 0] 36 (0, 0)) ∧ MatB W (k + 1) W.heap.size v (List.replicate j [0, 0, 0, 0]) ∧ Below k w W
theorem made_cells {w W : World} {k j : Nat} {v : Value} (h : MadeAt w W k v j) : W.cell? ⟨k, 0, none⟩ = some v ∧ W.frozen? ⟨k, 0, none⟩ = false ∧ k < W.heap.size ∧ ∃ a c, v = .slice a j c := by
  obtain ⟨h1, h2, h3⟩ := h
  obtain ⟨a, c, e, _⟩ := h2.form
  refine ⟨by simp [World.cell?, h1], by simp [World.frozen?, h1], heap_lt h1, a, c, ?_⟩
  rw [e, List.length_replicate]
theorem make_four (W : World) : (Instr.makeSlice 37 (.int .i64 4) (.int .i64 4)).run Tryz.prog W = .ok (.slice (some ⟨W.heap.size, 0, none⟩) 4 4) (W.alloc (.cells #[.int .i64 0, .int .i64 0, .int .i64 0, .int .i64 0] 3)) := by kernel_rfl
theorem four_new (W : World) (lo : Nat) (h : lo ≤ W.heap.size) : OwnInts (W.alloc (.cells #[.int .i64 0, .int .i64 0, .int .i64 0, .int .i64 0] 3)) lo (.slice (some ⟨W.heap.size, 0, none⟩) 4 4) [0, 0, 0, 0] :=
  ⟨rfl, .inr ⟨W.heap.size, 4, _, rfl, h, heap_alloc_new _ _, by simp, by simp [maxLen], rfl, rfl⟩⟩
theorem made_step {w wr W w3 : World} {k j : Nat} {v v3 : Value} (h : MadeAt w wr k v j) (hW : Below (k + 1) wr W) (hM3 : MatB w3 (k + 1) w3.heap.size v3 (List.replicate j [0, 0, 0, 0] ++ [[0, 0, 0, 0]])) (hb3 : Below (k + 1) W w3) :
    w3.cell? ⟨k, 0, none⟩ = some v ∧ w3.frozen? ⟨k, 0, none⟩ = false ∧ MadeAt w (w3.setCell ⟨k, 0, none⟩ v3) k v3 (j + 1) := by
  obtain ⟨h1, h2, h3⟩ := h
  have hB := hW.trans hb3
  have h4 : w3.heap[k]? = some (.cells #[v, .slice none 0 0] 36 (0, 0)) := (hB.block k (by omega)).trans h1
  refine ⟨by simp [World.cell?, h4], by simp [World.frozen?, h4], ?_, ?_, ?_⟩
  · have := setCell_block (u := v3) (i := 0) h4
    simpa using this
  · have e : (w3.setCell ⟨k, 0, none⟩ v3).heap.size = w3.heap.size := by simp [World.setCell]
    rw [e, show List.replicate (j + 1) [(0 : Int), 0, 0, 0] = List.replicate j [0, 0, 0, 0] ++ [[0, 0, 0, 0]] from List.replicate_succ' ..]
    exact hM3.other (fun g cur T _ _ hg _ => Below.heap_setCell _ _ _ _ (by show g ≠ k; omega))
  · exact Below.setCell (h3.trans (hB.mono (by omega))) (Nat.le_refl _) _
theorem made_board {w W : World} {k : Nat} {v : Value} (h : MadeAt w W k v 4) (hk : 9 ≤ k) : BoardAt W k W.heap.size k st0.rels st0.homes := by
  obtain ⟨h1, h2, h3⟩ := h
  refine ⟨⟨Nat.le_refl _, heap_lt h1⟩, Nat.le_refl _, hk, rfl, by decide, ⟨_, _, h1⟩, ⟨v, by simp [World.cell?, h1], h2.low (by omega)⟩, by simp [World.frozen?, h1], ⟨.slice none 0 0, by simp [World.cell?, h1], (HomNew.nil W 0).ents, fun a n c e => by cases e⟩, by simp [World.frozen?, h1]⟩
theorem cutR_count (c : UInt8) : ∀ s : Bs, (cutR c s).length ≤ s.length + 1
  | [] => by simp [cutR]
  | b :: l => by
    have ih := cutR_count c l
    unfold cutR
    split
    · simp; omega
    · split
      · simp
      · rename_i he
        rw [he] at ih
        simp at ih ⊢
        omega
theorem cut_count (c : UInt8) (s : Bs) : (cutC c s).length ≤ s.length + 1 := by rw [cutC_R]; exact cutR_count c s
theorem take_getD {L : List Bs} {j : Nat} (h : j < L.length) : L.take (j + 1) = L.take j ++ [L.getD j []] := by
  rw [List.take_add_one, List.getElem?_eq_getElem h, List.getD_eq_getElem?_getD, List.getElem?_eq_getElem h]; rfl
set_option maxHeartbeats 8000000 in
theorem implLinesRun_any (l : Bs) (w : World) (E : EnvOk w) :
    Calls Tryz.prog 13 #[stV l] w fun e w' => e = .returned (stV (linesF l)) ∧ Below w.heap.size w w' := by
  obtain ⟨n, hn⟩ : ∃ n, l.length = n := ⟨_, rfl⟩
  have hsz : (⟨l.toArray⟩ : ByteArray).size = n := by rw [← hn]; simp [ByteArray.size]
  by_cases hlong : 500 < n
  · have hres : linesF l = sLong := by unfold linesF; rw [if_pos (by omega)]
    rw [hres]
    have hd : decide ((n : Int) > 500) = true := decide_eq_true (by omega)
    have hd' : (500 : Int) < (n : Int) := by omega
    obtain ⟨T, hT⟩ : ∃ T : ByteArray, (⟨l.toArray⟩ : ByteArray) = T := ⟨_, rfl⟩
    unfold stV
    rw [hT] at hsz ⊢
    clear hlong hres E hn
    go_enter Tryz.func13, Tryz.ntmps13
    go_wp2_with fail
    go_ret
    exact ⟨rfl, Below.refl _ _⟩
  · have hres : linesF l = (runF (cutC 10 l).dropLast).2 ++ decF (runF (cutC 10 l).dropLast).1.homes.length ++ [10] := by unfold linesF; rw [if_neg (by omega)]
    rw [hres]
    have hd : decide ((n : Int) > 500) = false := decide_eq_false (by omega)
    have hSP := fun W EW => split_any 10 l (by omega) W EW
    have HSP := Lib.hid hSP
    have HE := Lib.hid E
    have HL := Lib.hid hn
    have hnd : ¬ (500 : Int) < (n : Int) := by omega
    obtain ⟨T, hT⟩ : ∃ T : ByteArray, (⟨l.toArray⟩ : ByteArray) = T := ⟨_, rfl⟩
    unfold stV at HSP ⊢
    rw [hT] at hsz HSP ⊢
    clear hlong hres E hn hSP
    go_enter Tryz.func13, Tryz.ntmps13
    go_wp2_with fail
    go_loopg [13] 4 (fun gk s13 wr => ∃ (j : Nat) (v : Value), s13 = .int .i64 (j : Int) ∧ j + gk = 4 ∧ Hid (MadeAt w wr w.heap.size v j))
    case atStart =>
      refine ⟨0, .slice none 0 0, rfl, rfl, Lib.hid ⟨heap_alloc_new _ _, MatB.nil _ _ _, ?_⟩⟩
      exact bw
    case round =>
      obtain ⟨j, v, rfl, hj, M⟩ := hrel
      obtain ⟨m0, m1, m2, a, c, rfl⟩ := made_cells M.out
      by_cases hj4 : j = 4
      · subst hj4
        have E9 := HE.out.size
        have hWr := M.out.2.2
        have HBD := Lib.hid (made_board M.out E9)
        have HWR := Lib.hid hWr
        have HEr := Lib.hid (HE.out.next hWr)
        have hSPr := HSP.out wr HEr.out
        have HSR := Lib.hid hSPr
        clear M m0 m1 hWr hSPr hj E9
        go_wp2_with fail
        refine HSR.out.mono ?_
        rintro e w2 ⟨sa, sc, rfl, hS, hb2⟩
        obtain ⟨L, hLL⟩ : ∃ L, cutC 10 l = L := ⟨_, rfl⟩
        have hcnt := cut_count 10 l
        have hpl := cut_len 10 l
        have hne := cutC_ne 10 l
        rw [hLL] at hS hcnt hpl hne ⊢
        obtain ⟨N, hN⟩ : ∃ N, L.length = N + 1 := ⟨L.length - 1, by have := List.length_pos_iff.2 hne; omega⟩
        rw [hN] at hS hcnt ⊢
        have hNn : N ≤ 500 := by have := HL.out; omega
        have hSA : StrsAt w2 (.slice sa (N + 1) sc) L := hS.strs
        obtain ⟨b, off, rfl, hb, _⟩ := hSA.get 0 (by omega)
        have hbh : wr.heap.size ≤ b := (World.ownsRow.lt hS b rfl).1
        have HSA := Lib.hid hSA
        have HNL := Lib.hid hN
        have HPL := Lib.hid hpl
        have HB2 := Lib.hid hb2
        have HLL := Lib.hid hLL
        have hBD2 := HBD.out.below hb2
        have HBD2 := Lib.hid hBD2
        have E2 := Lib.hid (HEr.out.next hb2)
        have ew1 : IntKind.i64.wrap ((N : Int) + 1 - 1) = (N : Int) := by rw [show (N : Int) + 1 - 1 = (N : Int) by omega]; exact IntWalk.i64_in _ (by omega)
        have hscN : N + 1 ≤ sc := by obtain ⟨_, _, e, h1, _⟩ := hSA.form; simp only [Value.slice.injEq] at e; obtain ⟨_, h2, rfl⟩ := e; omega
        have HW2 : Hid (Below w.heap.size w w2) := Lib.hid (HWR.out.trans (hb2.mono HWR.out.size))
        obtain ⟨hi, hhi⟩ : ∃ x, wr.heap.size = x := ⟨_, rfl⟩
        rw [hhi] at HBD2 hbh
        clear hS hb2 hSA hN hpl hLL hcnt hne hBD2 HB2 HBD HWR HEr HSR hhi
        go_wp2_with fail
        go_loopg [5, 34] N (fun gk s5 s34 wr => ∃ j : Nat, s34 = .int .i64 (j : Int) ∧ j + gk = N ∧ s5 = .string ⟨(runF (L.take j)).2.toArray⟩ ∧ Hid (BoardAt wr w.heap.size hi w.heap.size (runF (L.take j)).1.rels (runF (L.take j)).1.homes) ∧ Hid (Within w.heap.size hi w2 wr))
        case atStart => exact ⟨0, rfl, by omega, rfl, HBD2, Lib.hid (Within.refl _ _ _)⟩
        case round =>
          clear HBD2
          obtain ⟨j, rfl, hj, rfl, HBV, HWV⟩ := hrel
          have hRL := run_len (L.take j)
          have hSO := run_ok (L.take j)
          rw [List.length_take, HNL.out] at hRL
          by_cases hjN : j < N
          · have hjI : (j : Int) < (N : Int) := by omega
            have hsucc := take_getD (L := L) (j := j) (by rw [HNL.out]; omega)
            obtain ⟨ln, hln⟩ : ∃ x, L.getD j [] = x := ⟨_, rfl⟩
            have hnext := runF_snoc (L.take j) ln
            rw [hln] at hsucc
            rw [← hsucc] at hnext
            obtain ⟨b', off', e, _, hcl⟩ := HSA.out.get j (by omega)
            simp only [Option.some.injEq, Addr.mk.injEq, and_true] at e
            obtain ⟨rfl, rfl⟩ := e
            rw [hln] at hcl
            have hcv : wr.cell? ⟨b, off + j, none⟩ = some (stV ln) := (HWV.out.cell (p := ⟨b, off + j, none⟩) hb (.inr hbh)).trans hcl
            have hll : ln.length ≤ 500 := by rw [← hln]; exact Nat.le_trans (HPL.out j) (by rw [HL.out]; omega)
            obtain ⟨S, hS⟩ : ∃ S, runF (L.take j) = S := ⟨_, rfl⟩
            rw [hS] at HBV hRL hSO hnext ⊢
            obtain ⟨s, o⟩ := S
            have hex := exec_any w.heap.size hi w.heap.size s ln wr HBV.out (E2.out.within HWV.out (by have := HE.out.size; omega)) hSO hll
            have hol := out_len hSO ln
            unfold lineStep at hnext
            simp only at hnext hRL ⊢
            obtain ⟨X, hX⟩ : ∃ X, execF s ln = X := ⟨_, rfl⟩
            rw [hX] at hex hol hnext
            have hadd := add_is o X.2 (by omega)
            have HEX := Lib.hid hex
            have HNX := Lib.hid hnext
            have HJ := Lib.hid hj
            have hj0 : (0 : Int) ≤ (j : Int) := by omega
            clear hsucc hln hcl hS hex hol hnext hj hRL hSO hll hX
            go_wp2_with fail
            refine HEX.out.mono ?_
            rintro e w4 ⟨rfl, hB4, hW4⟩
            have HB4 := Lib.hid hB4
            have HW4 : Hid (Within w.heap.size hi w2 w4) := Lib.hid (HWV.out.trans hW4)
            clear hB4 hW4
            go_wp2_with fail
            go_roundg (N - (j + 1))
            case measure => have := HJ.out; omega
            case rel => exact ⟨j + 1, by go_num, by omega, by rw [HNX.out], by rw [HNX.out]; exact HB4, HW4⟩
          · obtain rfl : j = N := by omega
            have hdl : L.take j = L.dropLast := by rw [List.dropLast_eq_take, HNL.out]; simp
            rw [hdl] at HBV hRL hSO ⊢
            obtain ⟨S, hS⟩ : ∃ S, runF L.dropLast = S := ⟨_, rfl⟩
            have HS := Lib.hid hS
            rw [hS] at HBV hRL hSO ⊢
            obtain ⟨s, o⟩ := S
            simp only at HBV hRL hSO ⊢
            obtain ⟨vr, vh, c0, c1, _, hHo, _, ⟨ha, hn2, hc, rfl⟩⟩ := HBV.out.load
            obtain ⟨_, _, e, _, _⟩ := hHo.form
            simp only [Value.slice.injEq] at e
            obtain ⟨_, e2, _⟩ := e
            have h4 := (homesOk_all hSO.hom).2.1
            have hit := fun W => itoa_small s.homes.length (by omega) W
            have HE2 := Lib.hid e2
            rw [← e2] at hit
            obtain ⟨D, hD⟩ : ∃ D, decF hn2 = D := ⟨_, rfl⟩
            have hDl : D.length ≤ 20 := by
              have : hn2 = 0 ∨ hn2 = 1 ∨ hn2 = 2 ∨ hn2 = 3 ∨ hn2 = 4 := by omega
              rw [← hD]
              rcases this with rfl | rfl | rfl | rfl | rfl <;> decide +kernel
            have HDD := Lib.hid hD
            rw [hD] at hit
            have ha1 := add_is o D (by omega)
            have ha2 := add_is (o ++ D) [10] (by simp; omega)
            have HIT := Lib.hid hit
            clear hit hD hDl h4 e2 hHo hRL hSO hS hdl hj
            go_wp2_with fail
            refine (HIT.out _).mono ?_
            rintro e w' ⟨rfl, rfl⟩
            go_wp2_with fail
            go_ret
            exact ⟨by rw [HLL.out, HS.out, ← HE2.out, HDD.out, List.append_assoc]; rfl, HW2.out.trans (HWV.out.below (Nat.le_refl _) HW2.out.size)⟩
      · have hjd : (j : Int) < 4 := by omega
        have hjn : j < 4 := by omega
        have hjl := Lib.hid hj
        have hmk := make_four
        clear hj hj4
        go_wp2_with fail
        have m3 : ¬ w.heap.size = wr.heap.size := by omega
        have m4 : ¬ w.heap.size = wr.heap.size + 1 := by omega
        go_region_law (go_loud (refine step_append_mat (W := (wr.alloc (.cells #[.int .i64 0, .int .i64 0, .int .i64 0, .int .i64 0] 3)).drew) rfl (.tmp 19) (.tmp 21) rfl (w.heap.size + 1) (.slice a j c) (.slice (some ⟨wr.heap.size, 0, none⟩) 4 4) (List.replicate j [0, 0, 0, 0]) [0, 0, 0, 0] j wr.heap.size wr.heap.size (by simp) (by simp [Act.eval]) (M.out.2.1.below bw) (by simp; omega) _ (by simp [Act.eval]; rfl) (by simp) (four_new wr _ (Nat.le_refl _)) (Nat.le_refl _) (by omega) ⟨_, _, _, rfl⟩ (by omega) _ rfl ?_); intro ad3 c3 w3 hM3 hb3 hs3; obtain ⟨y0, y1, y2⟩ := made_step M.out bw hM3 hb3; have Y := Lib.hid y2; clear hM3 hb3 y2)
        all_goals
          go_wp2_with fail
          go_roundg (4 - (j + 1))
          case measure => have := hjl.out; omega
          case rel => exact ⟨j + 1, _, by go_num, by omega, Y⟩
end Go.Proofs.YtnecdeaikmhanaaGreatDoor
