/- A part of the proof; packed by a program of mine out of my texts. -/
import Derived.Test.YtnecdeaikmhanaaGreatDoorPE0
import Derived.Test.YtnecdeaikmhanaaGreatDoorPE1
import Derived.Test.YtnecdeaikmhanaaGreatDoorPE2
import Derived.Test.YtnecdeaikmhanaaGreatDoorPE3
import Derived.Test.YtnecdeaikmhanaaGreatDoorPE4
import Derived.Test.YtnecdeaikmhanaaGreatDoorPE5
namespace Go.Proofs.YtnecdeaikmhanaaGreatDoor
open Go.RowKit
set_option linter.unusedVariables false
set_option maxRecDepth 100000 in
set_option maxHeartbeats 8000000 in
theorem specRelsOk_any (v : Value) (rs : List (List Int)) (w : World) (hv : RowsAt w v rs) :
    Calls Tryz.prog 113 #[v] w fun e w' => e = .returned (.bool (relsOkF rs)) ∧ Below w.heap.size w w' := by
  obtain ⟨a, cap, rfl, hc, hm⟩ := hv.form
  obtain ⟨n, hn⟩ : ∃ n, rs.length = n := ⟨_, rfl⟩
  rw [hn] at hc hv ⊢
  obtain ⟨B, hB⟩ : ∃ B, relsOkF rs = B := ⟨_, rfl⟩
  rw [hB]
  have HB := Lib.hid hB
  have HN := Lib.hid hn
  have H := Lib.hid hv
  clear hB hn hv
  go_enter Tryz.func113, Tryz.ntmps113
  go_wp2_with fail
  go_loopg [3] n (fun g s wr => ∃ i : Nat, s = .int .i64 i ∧ i + g = n ∧ Hid (Below w.heap.size w wr) ∧ Hid (∀ j, j < i → (rs.getD j []).length = n ∧ ∀ k, k < n → relOkF rs n j k = true))
  case atStart => exact ⟨0, rfl, by omega, Lib.hid (Below.refl _ _), Lib.hid fun j hj => by omega⟩
  case round =>
    obtain ⟨i, rfl, hi, hbe, hno⟩ := hrel
    by_cases hg : gk = 0
    · subst hg
      obtain rfl : i = n := by omega
      have e := HB.out
      rw [relsOk_good HN.out hno.out] at e
      have hin : ∀ w, Calls Tryz.prog 41 #[.int .i64 (i : Int), .int .i64 1, .int .i64 5] w fun e w' => e = .returned (.bool B) ∧ w' = w := fun w => by
        have := in_any (i : Int) 1 5 w
        rw [show (decide ((1 : Int) ≤ (i : Int)) && decide ((i : Int) ≤ 5)) = B by rw [← e]; congr 1 <;> (apply decide_eq_decide.2; omega)] at this
        exact this
      have HIN := Lib.hid hin
      clear hin e
      go_wp2_with fail
      refine (HIN.out _).mono ?_
      rintro e w1 ⟨rfl, rfl⟩
      go_wp2_with fail
      go_ret
      exact ⟨rfl, hbe.out⟩
    · have hin : i < n := by omega
      have hiI : (i : Int) < (n : Int) := by omega
      have i0 : (0 : Int) ≤ (i : Int) := by omega
      have hgk : 1 ≤ gk := by omega
      have HI := Lib.hid hi
      obtain ⟨b, off, u, rfl, hb, hx, hu⟩ := (H.out.below hbe.out).get i hin
      obtain ⟨ai, ci, e, hci, hcm⟩ := hu.form
      subst e
      obtain ⟨ni, hni⟩ : ∃ ni, (rs.getD i []).length = ni := ⟨_, rfl⟩
      rw [hni] at hx hci hu
      have HNI := Lib.hid hni
      clear hi hni hg
      by_cases hnn : ni = n
      · subst hnn
        have HU := Lib.hid hu
        clear hu
        obtain ⟨w0, hw0⟩ : ∃ W, W = wr := ⟨_, rfl⟩
        subst hw0
        obtain ⟨G, hG⟩ : ∃ G, G = gk := ⟨_, rfl⟩
        go_wp2_with fail
        go_loopg [4] ni (fun g s wr => ∃ k : Nat, s = .int .i64 k ∧ k + g = ni ∧ Hid (Below w0.heap.size w0 wr) ∧ Hid (∀ j, j < k → relOkF rs ni i j = true))
        case atStart => exact ⟨0, rfl, by omega, Lib.hid (Below.refl _ _), Lib.hid fun j hj => by omega⟩
        case round =>
          obtain ⟨k, rfl, hk, hbe2, hno2⟩ := hrel
          by_cases hg : gk = 0
          · subst hg
            obtain rfl : k = ni := by omega
            go_wp2_with fail
            go_roundg (G - 1)
            case measure => omega
            case rel =>
              refine ⟨i + 1, by go_num, by have := HI.out; omega, Lib.hid (hbe.out.trans (hbe2.out.mono hbe.out.size)), Lib.hid fun j hj => ?_⟩
              by_cases hji : j = i
              · subst hji; exact ⟨HNI.out, hno2.out⟩
              · exact hno.out j (by omega)
          · have hkn : k < ni := by omega
            have hkI : (k : Int) < (ni : Int) := by omega
            have k0 : (0 : Int) ≤ (k : Int) := by omega
            have hgk2 : 1 ≤ gk := by omega
            have HK := Lib.hid hk
            obtain ⟨_, _, u2, e, _, hx2, hu2⟩ := (H.out.below (hbe.out.trans (hbe2.out.mono hbe.out.size))).get k hkn
            simp only [Option.some.injEq, Addr.mk.injEq] at e
            obtain ⟨rfl, rfl, _⟩ := e
            obtain ⟨_, _, u3, e, hb3, hx1, hu1⟩ := (H.out.below (hbe.out.trans (hbe2.out.mono hbe.out.size))).get i hin
            simp only [Option.some.injEq, Addr.mk.injEq] at e
            obtain ⟨rfl, rfl, _⟩ := e
            obtain rfl : u3 = .slice ai ni ci := by
              have := (hbe2.out.cell (p := ⟨b, off + i, none⟩) hb).trans hx
              rw [hx1] at this
              exact Option.some.inj this
            obtain ⟨ak, ck, e, hck, hckm⟩ := hu2.form
            subst e
            obtain ⟨nk, hnk⟩ : ∃ nk, (rs.getD k []).length = nk := ⟨_, rfl⟩
            rw [hnk] at hx2 hck hu2
            by_cases hnn : nk = ni
            · subst hnn
              obtain ⟨b1, off1, rfl, hb1, hz1⟩ := hu1.get k hkn
              obtain ⟨b2, off2, rfl, hb2, hz2⟩ := hu2.get i hin
              have hR : relOkF rs nk i k = ((decide (0 ≤ relAt rs i k) && decide (relAt rs i k ≤ 3)) && decide (relAt rs k i = backF (relAt rs i k)) && (decide (i ≠ k) || decide (relAt rs i k = 0))) := by unfold relOkF; rw [hnk]; simp
              replace hz1 : wr.cell? ⟨b1, off1 + k, none⟩ = some (.int .i64 (relAt rs i k)) := hz1
              replace hz2 : wr.cell? ⟨b2, off2 + i, none⟩ = some (.int .i64 (relAt rs k i)) := hz2
              obtain ⟨x, hxx⟩ : ∃ x, relAt rs i k = x := ⟨_, rfl⟩
              obtain ⟨y, hyy⟩ : ∃ y, relAt rs k i = y := ⟨_, rfl⟩
              rw [hxx, hyy] at hR
              rw [hxx] at hz1
              rw [hyy] at hz2
              obtain ⟨d, hd⟩ : ∃ d, (decide (0 ≤ x) && decide (x ≤ 3)) = d := ⟨_, rfl⟩
              have hin2 : ∀ W, Calls Tryz.prog 41 #[.int .i64 x, .int .i64 0, .int .i64 3] W fun e w' => e = .returned (.bool d) ∧ w' = W := fun W => by rw [← hd]; exact in_any x 0 3 W
              have HIN := Lib.hid hin2
              obtain ⟨q, hq⟩ : ∃ q, ((i : Int) == (k : Int)) = q := ⟨_, rfl⟩
              have hq2 : q = decide (i = k) := by rw [← hq]; by_cases e : i = k <;> simp [e] ; omega
              rw [hd] at hR
              have HR := Lib.hid hR
              have HQ2 := Lib.hid hq2
              have HD := Lib.hid hd
              have hbd : d = true → 0 ≤ x ∧ x ≤ 3 := fun e => by rw [e] at hd; simpa using hd
              have HBD := Lib.hid hbd
              have hne0 : ((nk : Int) != (nk : Int)) = false := by simp
              clear hR hq2 hin2 hd hbd hnk hu1 hu2 hxx hyy hg hk
              cases d
              · have e := HB.out
                rw [relsOk_bad2 HN.out hin hkn (by rw [HR.out]; rfl)] at e
                subst e
                go_wp2_with fail
                refine wp_region_noPanic ?_
                refine wp_region_held_drew (S := (fun w' => w'.cell? ⟨b, off + k, none⟩ = some (.slice (some ⟨b2, off2, none⟩) nk ck) ∧ w'.cell? ⟨b, off + i, none⟩ = some (.slice (some ⟨b1, off1, none⟩) nk ci) ∧ w'.cell? ⟨b1, off1 + k, none⟩ = some (.int .i64 x) ∧ w'.cell? ⟨b2, off2 + i, none⟩ = some (.int .i64 y))) (by kernel_rfl) (by simp [go_sem, *]) (fun hHeld => ?_)
                refine tkT (i := 0) (h := ?_)
                (try simp only [Act.put, pB, pC, pD])
                refine tkT (i := 1) (h := ?_)
                (try simp only [Act.put, pB, pC, pD])
                refine tkT (i := 2) (h := ?_)
                (try simp only [Act.put, pB, pC, pD])
                refine tkT (i := 3) (h := ?_)
                (try simp only [Act.put, pB, pC, pD])
                refine tkT (i := 4) (h := ?_)
                (try simp only [Act.put, pB, pC, pD])
                refine tkT (i := 5) (h := ?_)
                (try simp only [Act.put, pB, pC, pD])
                refine tkT (i := 6) (h := ?_)
                (try simp only [Act.put, pB, pC, pD])
                refine tkT (i := 7) (h := ?_)
                (try simp only [Act.put, pB, pC, pD])
                refine tkT (i := 8) (h := ?_)
                (try simp only [Act.put, pB, pC, pD])
                refine tkT (i := 9) (h := ?_)
                (try simp only [Act.put, pB, pC, pD])
                refine tkT (i := 10) (h := ?_)
                (try simp only [Act.put, pB, pC, pD])
                refine tkT (i := 11) (h := ?_)
                (try simp only [Act.put, pB, pC, pD])
                refine tkT (i := 12) (h := ?_)
                (try simp only [Act.put, pB, pC, pD])
                refine tkT (i := 13) (h := ?_)
                (try simp only [Act.put, pB, pC, pD])
                refine tkT (i := 14) (h := ?_)
                (try simp only [Act.put, pB, pC, pD])
                refine tkT (i := 15) (h := ?_)
                (try simp only [Act.put, pB, pC, pD])
                refine wpAnyH_ready (rs := [16]) (by kernel_rfl) (by simp) ?_
                refine AllReadyH.cons (by (simp only [List.getElem?_toArray, List.getElem?_cons_succ, List.getElem?_cons_zero]) <;> rfl) (fun K hK => ?_) AllReadyH.nil
                go_simp
                (go_at_call 41; refine (HIN.out _).mono ?_; rintro r w1 ⟨rfl, rfl⟩)
                refine hK.out _ _ (by simp [go_sem, *]) (fun hHeld => ?_)
                (try simp only [Act.put, pB, pC, pD])
                refine tkT (i := 17) (h := ?_)
                (try simp only [Act.put, pB, pC, pD])
                refine tkT (i := 18) (h := ?_)
                (try simp only [Act.put, pB, pC, pD])
                refine tkT (i := 19) (h := ?_)
                (try simp only [Act.put, pB, pC, pD])
                refine tkS (i := 20) (h := ?_)
                (try simp only [Act.put, pB, pC, pD])
                refine tkS (i := 21) (h := ?_)
                (try simp only [Act.put, pB, pC, pD])
                refine tkS (i := 22) (h := ?_)
                (try simp only [Act.put, pB, pC, pD])
                refine tkS (i := 23) (h := ?_)
                (try simp only [Act.put, pB, pC, pD])
                refine tkS (i := 24) (h := ?_)
                (try simp only [Act.put, pB, pC, pD])
                refine tkS (i := 25) (h := ?_)
                (try simp only [Act.put, pB, pC, pD])
                refine tkS (i := 26) (h := ?_)
                (try simp only [Act.put, pB, pC, pD])
                refine tkS (i := 27) (h := ?_)
                (try simp only [Act.put, pB, pC, pD])
                refine tkS (i := 28) (h := ?_)
                (try simp only [Act.put, pB, pC, pD])
                refine tkS (i := 29) (h := ?_)
                (try simp only [Act.put, pB, pC, pD])
                refine tkS (i := 30) (h := ?_)
                (try simp only [Act.put, pB, pC, pD])
                refine tkS (i := 31) (h := ?_)
                (try simp only [Act.put, pB, pC, pD])
                refine tkS (i := 32) (h := ?_)
                (try simp only [Act.put, pB, pC, pD])
                refine tkS (i := 33) (h := ?_)
                (try simp only [Act.put, pB, pC, pD])
                refine tkS (i := 34) (h := ?_)
                (try simp only [Act.put, pB, pC, pD])
                refine tkS (i := 35) (h := ?_)
                (try simp only [Act.put, pB, pC, pD])
                refine tkT (i := 36) (h := ?_)
                (try simp only [Act.put, pB, pC, pD])
                refine tkT (i := 37) (h := ?_)
                (try simp only [Act.put, pB, pC, pD])
                refine tkS (i := 38) (h := ?_)
                (try simp only [Act.put, pB, pC, pD])
                refine tkS (i := 39) (h := ?_)
                (try simp only [Act.put, pB, pC, pD])
                refine tkS (i := 40) (h := ?_)
                (try simp only [Act.put, pB, pC, pD])
                refine tkS (i := 41) (h := ?_)
                (try simp only [Act.put, pB, pC, pD])
                refine tkS (i := 42) (h := ?_)
                (try simp only [Act.put, pB, pC, pD])
                refine tkS (i := 43) (h := ?_)
                (try simp only [Act.put, pB, pC, pD])
                refine tkS (i := 44) (h := ?_)
                (try simp only [Act.put, pB, pC, pD])
                refine tkS (i := 45) (h := ?_)
                (try simp only [Act.put, pB, pC, pD])
                refine tkS (i := 46) (h := ?_)
                (try simp only [Act.put, pB, pC, pD])
                refine tkS (i := 47) (h := ?_)
                (try simp only [Act.put, pB, pC, pD])
                refine tkS (i := 48) (h := ?_)
                (try simp only [Act.put, pB, pC, pD])
                refine tkS (i := 49) (h := ?_)
                (try simp only [Act.put, pB, pC, pD])
                refine tkS (i := 50) (h := ?_)
                (try simp only [Act.put, pB, pC, pD])
                refine tkT (i := 51) (h := ?_)
                (try simp only [Act.put, pB, pC, pD])
                refine wpAnyH_done (by kernel_rfl) ?_ _
                refine NoPanic.normal ?_
                go_wp2_with fail
                go_ret
                have hbb : Below w.heap.size w wr := hbe.out.trans (hbe2.out.mono hbe.out.size)
                exact ⟨rfl, by exact bw⟩
              · obtain ⟨x0, x3⟩ := HBD.out rfl
                have HBK := Lib.hid (fun W => l12Back_is x x0 x3 W)
                obtain ⟨z, hz⟩ : ∃ z, backF x = z := ⟨_, rfl⟩
                rw [hz] at HBK HR
                by_cases hyz : y = z
                · subst hyz
                  have hyb : (y != y) = false := by simp
                  by_cases hik : i = k
                  · have hqt := HQ2.out
                    rw [decide_eq_true hik] at hqt
                    subst hqt
                    have HIK := Lib.hid hik
                    clear hik
                    by_cases hx00 : x = 0
                    · have hxb : (x != 0) = false := by simp [hx00]
                      have HXI := Lib.hid hx00
                      clear hx00
                      go_wp2_with fail
                      refine wp_region_noPanic ?_
                      refine wp_region_held_drew (S := (fun w' => w'.cell? ⟨b, off + k, none⟩ = some (.slice (some ⟨b2, off2, none⟩) nk ck) ∧ w'.cell? ⟨b, off + i, none⟩ = some (.slice (some ⟨b1, off1, none⟩) nk ci) ∧ w'.cell? ⟨b1, off1 + k, none⟩ = some (.int .i64 x) ∧ w'.cell? ⟨b2, off2 + i, none⟩ = some (.int .i64 y))) (by kernel_rfl) (by simp [go_sem, *]) (fun hHeld => ?_)
                      refine tkT (i := 0) (h := ?_)
                      (try simp only [Act.put, pB, pC, pD])
                      refine tkT (i := 1) (h := ?_)
                      (try simp only [Act.put, pB, pC, pD])
                      refine tkT (i := 2) (h := ?_)
                      (try simp only [Act.put, pB, pC, pD])
                      refine tkT (i := 3) (h := ?_)
                      (try simp only [Act.put, pB, pC, pD])
                      refine tkT (i := 4) (h := ?_)
                      (try simp only [Act.put, pB, pC, pD])
                      refine tkT (i := 5) (h := ?_)
                      (try simp only [Act.put, pB, pC, pD])
                      refine tkT (i := 6) (h := ?_)
                      (try simp only [Act.put, pB, pC, pD])
                      refine tkT (i := 7) (h := ?_)
                      (try simp only [Act.put, pB, pC, pD])
                      refine tkT (i := 8) (h := ?_)
                      (try simp only [Act.put, pB, pC, pD])
                      refine tkT (i := 9) (h := ?_)
                      (try simp only [Act.put, pB, pC, pD])
                      refine tkT (i := 10) (h := ?_)
                      (try simp only [Act.put, pB, pC, pD])
                      refine tkT (i := 11) (h := ?_)
                      (try simp only [Act.put, pB, pC, pD])
                      refine tkT (i := 12) (h := ?_)
                      (try simp only [Act.put, pB, pC, pD])
                      refine tkT (i := 13) (h := ?_)
                      (try simp only [Act.put, pB, pC, pD])
                      refine tkT (i := 14) (h := ?_)
                      (try simp only [Act.put, pB, pC, pD])
                      refine tkT (i := 15) (h := ?_)
                      (try simp only [Act.put, pB, pC, pD])
                      refine wpAnyH_ready (rs := [16]) (by kernel_rfl) (by simp) ?_
                      refine AllReadyH.cons (by (simp only [List.getElem?_toArray, List.getElem?_cons_succ, List.getElem?_cons_zero]) <;> rfl) (fun K hK => ?_) AllReadyH.nil
                      go_simp
                      (go_at_call 41; refine (HIN.out _).mono ?_; rintro r w1 ⟨rfl, rfl⟩)
                      refine hK.out _ _ (by simp [go_sem, *]) (fun hHeld => ?_)
                      (try simp only [Act.put, pB, pC, pD])
                      refine tkT (i := 17) (h := ?_)
                      (try simp only [Act.put, pB, pC, pD])
                      refine tkT (i := 18) (h := ?_)
                      (try simp only [Act.put, pB, pC, pD])
                      refine tkT (i := 19) (h := ?_)
                      (try simp only [Act.put, pB, pC, pD])
                      refine tkT (i := 20) (h := ?_)
                      (try simp only [Act.put, pB, pC, pD])
                      refine tkT (i := 21) (h := ?_)
                      (try simp only [Act.put, pB, pC, pD])
                      refine tkT (i := 22) (h := ?_)
                      (try simp only [Act.put, pB, pC, pD])
                      refine tkT (i := 23) (h := ?_)
                      (try simp only [Act.put, pB, pC, pD])
                      refine tkT (i := 24) (h := ?_)
                      (try simp only [Act.put, pB, pC, pD])
                      refine tkT (i := 25) (h := ?_)
                      (try simp only [Act.put, pB, pC, pD])
                      refine tkT (i := 26) (h := ?_)
                      (try simp only [Act.put, pB, pC, pD])
                      refine tkT (i := 27) (h := ?_)
                      (try simp only [Act.put, pB, pC, pD])
                      refine tkT (i := 28) (h := ?_)
                      (try simp only [Act.put, pB, pC, pD])
                      refine tkT (i := 29) (h := ?_)
                      (try simp only [Act.put, pB, pC, pD])
                      refine tkT (i := 30) (h := ?_)
                      (try simp only [Act.put, pB, pC, pD])
                      refine tkT (i := 31) (h := ?_)
                      (try simp only [Act.put, pB, pC, pD])
                      refine tkT (i := 32) (h := ?_)
                      (try simp only [Act.put, pB, pC, pD])
                      refine tkT (i := 33) (h := ?_)
                      (try simp only [Act.put, pB, pC, pD])
                      refine wpAnyH_ready (rs := [34]) (by kernel_rfl) (by simp) ?_
                      refine AllReadyH.cons (by (simp only [List.getElem?_toArray, List.getElem?_cons_succ, List.getElem?_cons_zero]) <;> rfl) (fun K hK => ?_) AllReadyH.nil
                      go_simp
                      (go_at_call 73; refine (HBK.out _).mono ?_; rintro r w1 ⟨rfl, hb1'⟩; have hB1 : Below wr.heap.size wr w1 := (by refine Below.trans ?_ (hb1'.mono (by first | exact Nat.le_refl _ | omega | (simp; done) | (simp; omega))); exact bw); have y0 := (hB1.cell (p := ⟨b, off + k, none⟩) hb3).trans hx2; have y1 := (hB1.cell (p := ⟨b, off + i, none⟩) hb3).trans hx1; have y2 := (hB1.cell (p := ⟨b1, off1 + k, none⟩) hb1).trans hz1; have y3 := (hB1.cell (p := ⟨b2, off2 + i, none⟩) hb2).trans hz2; clear hb1')
                      refine hK.out _ _ (by simp [go_sem, *]) (fun hHeld => ?_)
                      (try simp only [Act.put, pB, pC, pD])
                      refine tkT (i := 35) (h := ?_)
                      (try simp only [Act.put, pB, pC, pD])
                      refine tkT (i := 36) (h := ?_)
                      (try simp only [Act.put, pB, pC, pD])
                      refine tkT (i := 37) (h := ?_)
                      (try simp only [Act.put, pB, pC, pD])
                      refine tkT (i := 38) (h := ?_)
                      (try simp only [Act.put, pB, pC, pD])
                      refine tkT (i := 39) (h := ?_)
                      (try simp only [Act.put, pB, pC, pD])
                      refine tkT (i := 40) (h := ?_)
                      (try simp only [Act.put, pB, pC, pD])
                      refine tkT (i := 41) (h := ?_)
                      (try simp only [Act.put, pB, pC, pD])
                      refine tkT (i := 42) (h := ?_)
                      (try simp only [Act.put, pB, pC, pD])
                      refine tkT (i := 43) (h := ?_)
                      (try simp only [Act.put, pB, pC, pD])
                      refine tkT (i := 44) (h := ?_)
                      (try simp only [Act.put, pB, pC, pD])
                      refine tkT (i := 45) (h := ?_)
                      (try simp only [Act.put, pB, pC, pD])
                      refine tkT (i := 46) (h := ?_)
                      (try simp only [Act.put, pB, pC, pD])
                      refine tkT (i := 47) (h := ?_)
                      (try simp only [Act.put, pB, pC, pD])
                      refine tkT (i := 48) (h := ?_)
                      (try simp only [Act.put, pB, pC, pD])
                      refine tkT (i := 49) (h := ?_)
                      (try simp only [Act.put, pB, pC, pD])
                      refine tkT (i := 50) (h := ?_)
                      (try simp only [Act.put, pB, pC, pD])
                      refine tkT (i := 51) (h := ?_)
                      (try simp only [Act.put, pB, pC, pD])
                      refine wpAnyH_done (by kernel_rfl) ?_ _
                      refine NoPanic.normal ?_
                      go_wp2_with fail
                      go_roundg (gk - 1)
                      case measure => omega
                      case rel =>
                        refine ⟨k + 1, by go_num, by have := HK.out; omega, Lib.hid (hbe2.out.trans (hB1.mono hbe2.out.size)), Lib.hid fun j hj => ?_⟩
                        by_cases hjk : j = k
                        · subst hjk; rw [HR.out, HXI.out]; simp
                        · exact hno2.out j (by omega)
                    · have hxb : (x != 0) = true := by simp [hx00]
                      have e := HB.out
                      rw [relsOk_bad2 HN.out hin hkn (by rw [HR.out]; simp [HIK.out, hx00])] at e
                      subst e
                      go_wp2_with fail
                      refine wp_region_noPanic ?_
                      refine wp_region_held_drew (S := (fun w' => w'.cell? ⟨b, off + k, none⟩ = some (.slice (some ⟨b2, off2, none⟩) nk ck) ∧ w'.cell? ⟨b, off + i, none⟩ = some (.slice (some ⟨b1, off1, none⟩) nk ci) ∧ w'.cell? ⟨b1, off1 + k, none⟩ = some (.int .i64 x) ∧ w'.cell? ⟨b2, off2 + i, none⟩ = some (.int .i64 y))) (by kernel_rfl) (by simp [go_sem, *]) (fun hHeld => ?_)
                      refine tkT (i := 0) (h := ?_)
                      (try simp only [Act.put, pB, pC, pD])
                      refine tkT (i := 1) (h := ?_)
                      (try simp only [Act.put, pB, pC, pD])
                      refine tkT (i := 2) (h := ?_)
                      (try simp only [Act.put, pB, pC, pD])
                      refine tkT (i := 3) (h := ?_)
                      (try simp only [Act.put, pB, pC, pD])
                      refine tkT (i := 4) (h := ?_)
                      (try simp only [Act.put, pB, pC, pD])
                      refine tkT (i := 5) (h := ?_)
                      (try simp only [Act.put, pB, pC, pD])
                      refine tkT (i := 6) (h := ?_)
                      (try simp only [Act.put, pB, pC, pD])
                      refine tkT (i := 7) (h := ?_)
                      (try simp only [Act.put, pB, pC, pD])
                      refine tkT (i := 8) (h := ?_)
                      (try simp only [Act.put, pB, pC, pD])
                      refine tkT (i := 9) (h := ?_)
                      (try simp only [Act.put, pB, pC, pD])
                      refine tkT (i := 10) (h := ?_)
                      (try simp only [Act.put, pB, pC, pD])
                      refine tkT (i := 11) (h := ?_)
                      (try simp only [Act.put, pB, pC, pD])
                      refine tkT (i := 12) (h := ?_)
                      (try simp only [Act.put, pB, pC, pD])
                      refine tkT (i := 13) (h := ?_)
                      (try simp only [Act.put, pB, pC, pD])
                      refine tkT (i := 14) (h := ?_)
                      (try simp only [Act.put, pB, pC, pD])
                      refine tkT (i := 15) (h := ?_)
                      (try simp only [Act.put, pB, pC, pD])
                      refine wpAnyH_ready (rs := [16]) (by kernel_rfl) (by simp) ?_
                      refine AllReadyH.cons (by (simp only [List.getElem?_toArray, List.getElem?_cons_succ, List.getElem?_cons_zero]) <;> rfl) (fun K hK => ?_) AllReadyH.nil
                      go_simp
                      (go_at_call 41; refine (HIN.out _).mono ?_; rintro r w1 ⟨rfl, rfl⟩)
                      refine hK.out _ _ (by simp [go_sem, *]) (fun hHeld => ?_)
                      (try simp only [Act.put, pB, pC, pD])
                      refine tkT (i := 17) (h := ?_)
                      (try simp only [Act.put, pB, pC, pD])
                      refine tkT (i := 18) (h := ?_)
                      (try simp only [Act.put, pB, pC, pD])
                      refine tkT (i := 19) (h := ?_)
                      (try simp only [Act.put, pB, pC, pD])
                      refine tkT (i := 20) (h := ?_)
                      (try simp only [Act.put, pB, pC, pD])
                      refine tkT (i := 21) (h := ?_)
                      (try simp only [Act.put, pB, pC, pD])
                      refine tkT (i := 22) (h := ?_)
                      (try simp only [Act.put, pB, pC, pD])
                      refine tkT (i := 23) (h := ?_)
                      (try simp only [Act.put, pB, pC, pD])
                      refine tkT (i := 24) (h := ?_)
                      (try simp only [Act.put, pB, pC, pD])
                      refine tkT (i := 25) (h := ?_)
                      (try simp only [Act.put, pB, pC, pD])
                      refine tkT (i := 26) (h := ?_)
                      (try simp only [Act.put, pB, pC, pD])
                      refine tkT (i := 27) (h := ?_)
                      (try simp only [Act.put, pB, pC, pD])
                      refine tkT (i := 28) (h := ?_)
                      (try simp only [Act.put, pB, pC, pD])
                      refine tkT (i := 29) (h := ?_)
                      (try simp only [Act.put, pB, pC, pD])
                      refine tkT (i := 30) (h := ?_)
                      (try simp only [Act.put, pB, pC, pD])
                      refine tkT (i := 31) (h := ?_)
                      (try simp only [Act.put, pB, pC, pD])
                      refine tkT (i := 32) (h := ?_)
                      (try simp only [Act.put, pB, pC, pD])
                      refine tkT (i := 33) (h := ?_)
                      (try simp only [Act.put, pB, pC, pD])
                      refine wpAnyH_ready (rs := [34]) (by kernel_rfl) (by simp) ?_
                      refine AllReadyH.cons (by (simp only [List.getElem?_toArray, List.getElem?_cons_succ, List.getElem?_cons_zero]) <;> rfl) (fun K hK => ?_) AllReadyH.nil
                      go_simp
                      (go_at_call 73; refine (HBK.out _).mono ?_; rintro r w1 ⟨rfl, hb1'⟩; have hB1 : Below wr.heap.size wr w1 := (by refine Below.trans ?_ (hb1'.mono (by first | exact Nat.le_refl _ | omega | (simp; done) | (simp; omega))); exact bw); have y0 := (hB1.cell (p := ⟨b, off + k, none⟩) hb3).trans hx2; have y1 := (hB1.cell (p := ⟨b, off + i, none⟩) hb3).trans hx1; have y2 := (hB1.cell (p := ⟨b1, off1 + k, none⟩) hb1).trans hz1; have y3 := (hB1.cell (p := ⟨b2, off2 + i, none⟩) hb2).trans hz2; clear hb1')
                      refine hK.out _ _ (by simp [go_sem, *]) (fun hHeld => ?_)
                      (try simp only [Act.put, pB, pC, pD])
                      refine tkT (i := 35) (h := ?_)
                      (try simp only [Act.put, pB, pC, pD])
                      refine tkT (i := 36) (h := ?_)
                      (try simp only [Act.put, pB, pC, pD])
                      refine tkT (i := 37) (h := ?_)
                      (try simp only [Act.put, pB, pC, pD])
                      refine tkT (i := 38) (h := ?_)
                      (try simp only [Act.put, pB, pC, pD])
                      refine tkT (i := 39) (h := ?_)
                      (try simp only [Act.put, pB, pC, pD])
                      refine tkT (i := 40) (h := ?_)
                      (try simp only [Act.put, pB, pC, pD])
                      refine tkT (i := 41) (h := ?_)
                      (try simp only [Act.put, pB, pC, pD])
                      refine tkT (i := 42) (h := ?_)
                      (try simp only [Act.put, pB, pC, pD])
                      refine tkT (i := 43) (h := ?_)
                      (try simp only [Act.put, pB, pC, pD])
                      refine tkT (i := 44) (h := ?_)
                      (try simp only [Act.put, pB, pC, pD])
                      refine tkT (i := 45) (h := ?_)
                      (try simp only [Act.put, pB, pC, pD])
                      refine tkT (i := 46) (h := ?_)
                      (try simp only [Act.put, pB, pC, pD])
                      refine tkT (i := 47) (h := ?_)
                      (try simp only [Act.put, pB, pC, pD])
                      refine tkT (i := 48) (h := ?_)
                      (try simp only [Act.put, pB, pC, pD])
                      refine tkT (i := 49) (h := ?_)
                      (try simp only [Act.put, pB, pC, pD])
                      refine tkT (i := 50) (h := ?_)
                      (try simp only [Act.put, pB, pC, pD])
                      refine tkT (i := 51) (h := ?_)
                      (try simp only [Act.put, pB, pC, pD])
                      refine wpAnyH_done (by kernel_rfl) ?_ _
                      refine NoPanic.normal ?_
                      go_wp2_with fail
                      go_ret
                      exact ⟨rfl, hbe.out.trans (hbe2.out.trans (hB1.mono hbe2.out.size) |>.mono hbe.out.size)⟩
                  · have hqt := HQ2.out
                    rw [decide_eq_false hik] at hqt
                    subst hqt
                    have HIK := Lib.hid hik
                    clear hik
                    go_wp2_with fail
                    refine wp_region_noPanic ?_
                    refine wp_region_held_drew (S := (fun w' => w'.cell? ⟨b, off + k, none⟩ = some (.slice (some ⟨b2, off2, none⟩) nk ck) ∧ w'.cell? ⟨b, off + i, none⟩ = some (.slice (some ⟨b1, off1, none⟩) nk ci) ∧ w'.cell? ⟨b1, off1 + k, none⟩ = some (.int .i64 x) ∧ w'.cell? ⟨b2, off2 + i, none⟩ = some (.int .i64 y))) (by kernel_rfl) (by simp [go_sem, *]) (fun hHeld => ?_)
                    refine tkT (i := 0) (h := ?_)
                    (try simp only [Act.put, pB, pC, pD])
                    refine tkT (i := 1) (h := ?_)
                    (try simp only [Act.put, pB, pC, pD])
                    refine tkT (i := 2) (h := ?_)
                    (try simp only [Act.put, pB, pC, pD])
                    refine tkT (i := 3) (h := ?_)
                    (try simp only [Act.put, pB, pC, pD])
                    refine tkT (i := 4) (h := ?_)
                    (try simp only [Act.put, pB, pC, pD])
                    refine tkT (i := 5) (h := ?_)
                    (try simp only [Act.put, pB, pC, pD])
                    refine tkT (i := 6) (h := ?_)
                    (try simp only [Act.put, pB, pC, pD])
                    refine tkT (i := 7) (h := ?_)
                    (try simp only [Act.put, pB, pC, pD])
                    refine tkT (i := 8) (h := ?_)
                    (try simp only [Act.put, pB, pC, pD])
                    refine tkT (i := 9) (h := ?_)
                    (try simp only [Act.put, pB, pC, pD])
                    refine tkT (i := 10) (h := ?_)
                    (try simp only [Act.put, pB, pC, pD])
                    refine tkT (i := 11) (h := ?_)
                    (try simp only [Act.put, pB, pC, pD])
                    refine tkT (i := 12) (h := ?_)
                    (try simp only [Act.put, pB, pC, pD])
                    refine tkT (i := 13) (h := ?_)
                    (try simp only [Act.put, pB, pC, pD])
                    refine tkT (i := 14) (h := ?_)
                    (try simp only [Act.put, pB, pC, pD])
                    refine tkT (i := 15) (h := ?_)
                    (try simp only [Act.put, pB, pC, pD])
                    refine wpAnyH_ready (rs := [16]) (by kernel_rfl) (by simp) ?_
                    refine AllReadyH.cons (by (simp only [List.getElem?_toArray, List.getElem?_cons_succ, List.getElem?_cons_zero]) <;> rfl) (fun K hK => ?_) AllReadyH.nil
                    go_simp
                    (go_at_call 41; refine (HIN.out _).mono ?_; rintro r w1 ⟨rfl, rfl⟩)
                    refine hK.out _ _ (by simp [go_sem, *]) (fun hHeld => ?_)
                    (try simp only [Act.put, pB, pC, pD])
                    refine tkT (i := 17) (h := ?_)
                    (try simp only [Act.put, pB, pC, pD])
                    refine tkT (i := 18) (h := ?_)
                    (try simp only [Act.put, pB, pC, pD])
                    refine tkT (i := 19) (h := ?_)
                    (try simp only [Act.put, pB, pC, pD])
                    refine tkT (i := 20) (h := ?_)
                    (try simp only [Act.put, pB, pC, pD])
                    refine tkT (i := 21) (h := ?_)
                    (try simp only [Act.put, pB, pC, pD])
                    refine tkT (i := 22) (h := ?_)
                    (try simp only [Act.put, pB, pC, pD])
                    refine tkT (i := 23) (h := ?_)
                    (try simp only [Act.put, pB, pC, pD])
                    refine tkT (i := 24) (h := ?_)
                    (try simp only [Act.put, pB, pC, pD])
                    refine tkT (i := 25) (h := ?_)
                    (try simp only [Act.put, pB, pC, pD])
                    refine tkT (i := 26) (h := ?_)
                    (try simp only [Act.put, pB, pC, pD])
                    refine tkT (i := 27) (h := ?_)
                    (try simp only [Act.put, pB, pC, pD])
                    refine tkT (i := 28) (h := ?_)
                    (try simp only [Act.put, pB, pC, pD])
                    refine tkT (i := 29) (h := ?_)
                    (try simp only [Act.put, pB, pC, pD])
                    refine tkT (i := 30) (h := ?_)
                    (try simp only [Act.put, pB, pC, pD])
                    refine tkT (i := 31) (h := ?_)
                    (try simp only [Act.put, pB, pC, pD])
                    refine tkT (i := 32) (h := ?_)
                    (try simp only [Act.put, pB, pC, pD])
                    refine tkT (i := 33) (h := ?_)
                    (try simp only [Act.put, pB, pC, pD])
                    refine wpAnyH_ready (rs := [34]) (by kernel_rfl) (by simp) ?_
                    refine AllReadyH.cons (by (simp only [List.getElem?_toArray, List.getElem?_cons_succ, List.getElem?_cons_zero]) <;> rfl) (fun K hK => ?_) AllReadyH.nil
                    go_simp
                    (go_at_call 73; refine (HBK.out _).mono ?_; rintro r w1 ⟨rfl, hb1'⟩; have hB1 : Below wr.heap.size wr w1 := (by refine Below.trans ?_ (hb1'.mono (by first | exact Nat.le_refl _ | omega | (simp; done) | (simp; omega))); exact bw); have y0 := (hB1.cell (p := ⟨b, off + k, none⟩) hb3).trans hx2; have y1 := (hB1.cell (p := ⟨b, off + i, none⟩) hb3).trans hx1; have y2 := (hB1.cell (p := ⟨b1, off1 + k, none⟩) hb1).trans hz1; have y3 := (hB1.cell (p := ⟨b2, off2 + i, none⟩) hb2).trans hz2; clear hb1')
                    refine hK.out _ _ (by simp [go_sem, *]) (fun hHeld => ?_)
                    (try simp only [Act.put, pB, pC, pD])
                    refine tkT (i := 35) (h := ?_)
                    (try simp only [Act.put, pB, pC, pD])
                    refine tkT (i := 36) (h := ?_)
                    (try simp only [Act.put, pB, pC, pD])
                    refine tkT (i := 37) (h := ?_)
                    (try simp only [Act.put, pB, pC, pD])
                    refine tkT (i := 38) (h := ?_)
                    (try simp only [Act.put, pB, pC, pD])
                    refine tkT (i := 39) (h := ?_)
                    (try simp only [Act.put, pB, pC, pD])
                    refine tkT (i := 40) (h := ?_)
                    (try simp only [Act.put, pB, pC, pD])
                    refine tkT (i := 41) (h := ?_)
                    (try simp only [Act.put, pB, pC, pD])
                    refine tkS (i := 42) (h := ?_)
                    (try simp only [Act.put, pB, pC, pD])
                    refine tkS (i := 43) (h := ?_)
                    (try simp only [Act.put, pB, pC, pD])
                    refine tkS (i := 44) (h := ?_)
                    (try simp only [Act.put, pB, pC, pD])
                    refine tkS (i := 45) (h := ?_)
                    (try simp only [Act.put, pB, pC, pD])
                    refine tkS (i := 46) (h := ?_)
                    (try simp only [Act.put, pB, pC, pD])
                    refine tkS (i := 47) (h := ?_)
                    (try simp only [Act.put, pB, pC, pD])
                    refine tkS (i := 48) (h := ?_)
                    (try simp only [Act.put, pB, pC, pD])
                    refine tkS (i := 49) (h := ?_)
                    (try simp only [Act.put, pB, pC, pD])
                    refine tkT (i := 50) (h := ?_)
                    (try simp only [Act.put, pB, pC, pD])
                    refine tkT (i := 51) (h := ?_)
                    (try simp only [Act.put, pB, pC, pD])
                    refine wpAnyH_done (by kernel_rfl) ?_ _
                    refine NoPanic.normal ?_
                    go_wp2_with fail
                    go_roundg (gk - 1)
                    case measure => omega
                    case rel =>
                      refine ⟨k + 1, by go_num, by have := HK.out; omega, Lib.hid (hbe2.out.trans (hB1.mono hbe2.out.size)), Lib.hid fun j hj => ?_⟩
                      by_cases hjk : j = k
                      · subst hjk; rw [HR.out]; simp [HIK.out]
                      · exact hno2.out j (by omega)
                · have hyb : (y != z) = true := by simp [hyz]
                  have e := HB.out
                  rw [relsOk_bad2 HN.out hin hkn (by rw [HR.out]; simp [hyz])] at e
                  subst e
                  go_wp2_with fail
                  refine wp_region_noPanic ?_
                  refine wp_region_held_drew (S := (fun w' => w'.cell? ⟨b, off + k, none⟩ = some (.slice (some ⟨b2, off2, none⟩) nk ck) ∧ w'.cell? ⟨b, off + i, none⟩ = some (.slice (some ⟨b1, off1, none⟩) nk ci) ∧ w'.cell? ⟨b1, off1 + k, none⟩ = some (.int .i64 x) ∧ w'.cell? ⟨b2, off2 + i, none⟩ = some (.int .i64 y))) (by kernel_rfl) (by simp [go_sem, *]) (fun hHeld => ?_)
                  refine tkT (i := 0) (h := ?_)
                  (try simp only [Act.put, pB, pC, pD])
                  refine tkT (i := 1) (h := ?_)
                  (try simp only [Act.put, pB, pC, pD])
                  refine tkT (i := 2) (h := ?_)
                  (try simp only [Act.put, pB, pC, pD])
                  refine tkT (i := 3) (h := ?_)
                  (try simp only [Act.put, pB, pC, pD])
                  refine tkT (i := 4) (h := ?_)
                  (try simp only [Act.put, pB, pC, pD])
                  refine tkT (i := 5) (h := ?_)
                  (try simp only [Act.put, pB, pC, pD])
                  refine tkT (i := 6) (h := ?_)
                  (try simp only [Act.put, pB, pC, pD])
                  refine tkT (i := 7) (h := ?_)
                  (try simp only [Act.put, pB, pC, pD])
                  refine tkT (i := 8) (h := ?_)
                  (try simp only [Act.put, pB, pC, pD])
                  refine tkT (i := 9) (h := ?_)
                  (try simp only [Act.put, pB, pC, pD])
                  refine tkT (i := 10) (h := ?_)
                  (try simp only [Act.put, pB, pC, pD])
                  refine tkT (i := 11) (h := ?_)
                  (try simp only [Act.put, pB, pC, pD])
                  refine tkT (i := 12) (h := ?_)
                  (try simp only [Act.put, pB, pC, pD])
                  refine tkT (i := 13) (h := ?_)
                  (try simp only [Act.put, pB, pC, pD])
                  refine tkT (i := 14) (h := ?_)
                  (try simp only [Act.put, pB, pC, pD])
                  refine tkT (i := 15) (h := ?_)
                  (try simp only [Act.put, pB, pC, pD])
                  refine wpAnyH_ready (rs := [16]) (by kernel_rfl) (by simp) ?_
                  refine AllReadyH.cons (by (simp only [List.getElem?_toArray, List.getElem?_cons_succ, List.getElem?_cons_zero]) <;> rfl) (fun K hK => ?_) AllReadyH.nil
                  go_simp
                  (go_at_call 41; refine (HIN.out _).mono ?_; rintro r w1 ⟨rfl, rfl⟩)
                  refine hK.out _ _ (by simp [go_sem, *]) (fun hHeld => ?_)
                  (try simp only [Act.put, pB, pC, pD])
                  refine tkT (i := 17) (h := ?_)
                  (try simp only [Act.put, pB, pC, pD])
                  refine tkT (i := 18) (h := ?_)
                  (try simp only [Act.put, pB, pC, pD])
                  refine tkT (i := 19) (h := ?_)
                  (try simp only [Act.put, pB, pC, pD])
                  refine tkT (i := 20) (h := ?_)
                  (try simp only [Act.put, pB, pC, pD])
                  refine tkT (i := 21) (h := ?_)
                  (try simp only [Act.put, pB, pC, pD])
                  refine tkT (i := 22) (h := ?_)
                  (try simp only [Act.put, pB, pC, pD])
                  refine tkT (i := 23) (h := ?_)
                  (try simp only [Act.put, pB, pC, pD])
                  refine tkT (i := 24) (h := ?_)
                  (try simp only [Act.put, pB, pC, pD])
                  refine tkT (i := 25) (h := ?_)
                  (try simp only [Act.put, pB, pC, pD])
                  refine tkT (i := 26) (h := ?_)
                  (try simp only [Act.put, pB, pC, pD])
                  refine tkT (i := 27) (h := ?_)
                  (try simp only [Act.put, pB, pC, pD])
                  refine tkT (i := 28) (h := ?_)
                  (try simp only [Act.put, pB, pC, pD])
                  refine tkT (i := 29) (h := ?_)
                  (try simp only [Act.put, pB, pC, pD])
                  refine tkT (i := 30) (h := ?_)
                  (try simp only [Act.put, pB, pC, pD])
                  refine tkT (i := 31) (h := ?_)
                  (try simp only [Act.put, pB, pC, pD])
                  refine tkT (i := 32) (h := ?_)
                  (try simp only [Act.put, pB, pC, pD])
                  refine tkT (i := 33) (h := ?_)
                  (try simp only [Act.put, pB, pC, pD])
                  refine wpAnyH_ready (rs := [34]) (by kernel_rfl) (by simp) ?_
                  refine AllReadyH.cons (by (simp only [List.getElem?_toArray, List.getElem?_cons_succ, List.getElem?_cons_zero]) <;> rfl) (fun K hK => ?_) AllReadyH.nil
                  go_simp
                  (go_at_call 73; refine (HBK.out _).mono ?_; rintro r w1 ⟨rfl, hb1'⟩; have hB1 : Below wr.heap.size wr w1 := (by refine Below.trans ?_ (hb1'.mono (by first | exact Nat.le_refl _ | omega | (simp; done) | (simp; omega))); exact bw); have y0 := (hB1.cell (p := ⟨b, off + k, none⟩) hb3).trans hx2; have y1 := (hB1.cell (p := ⟨b, off + i, none⟩) hb3).trans hx1; have y2 := (hB1.cell (p := ⟨b1, off1 + k, none⟩) hb1).trans hz1; have y3 := (hB1.cell (p := ⟨b2, off2 + i, none⟩) hb2).trans hz2; clear hb1')
                  refine hK.out _ _ (by simp [go_sem, *]) (fun hHeld => ?_)
                  (try simp only [Act.put, pB, pC, pD])
                  refine tkT (i := 35) (h := ?_)
                  (try simp only [Act.put, pB, pC, pD])
                  refine tkT (i := 36) (h := ?_)
                  (try simp only [Act.put, pB, pC, pD])
                  refine tkT (i := 37) (h := ?_)
                  (try simp only [Act.put, pB, pC, pD])
                  refine tkS (i := 38) (h := ?_)
                  (try simp only [Act.put, pB, pC, pD])
                  refine tkS (i := 39) (h := ?_)
                  (try simp only [Act.put, pB, pC, pD])
                  refine tkS (i := 40) (h := ?_)
                  (try simp only [Act.put, pB, pC, pD])
                  refine tkS (i := 41) (h := ?_)
                  (try simp only [Act.put, pB, pC, pD])
                  refine tkS (i := 42) (h := ?_)
                  (try simp only [Act.put, pB, pC, pD])
                  refine tkS (i := 43) (h := ?_)
                  (try simp only [Act.put, pB, pC, pD])
                  refine tkS (i := 44) (h := ?_)
                  (try simp only [Act.put, pB, pC, pD])
                  refine tkS (i := 45) (h := ?_)
                  (try simp only [Act.put, pB, pC, pD])
                  refine tkS (i := 46) (h := ?_)
                  (try simp only [Act.put, pB, pC, pD])
                  refine tkS (i := 47) (h := ?_)
                  (try simp only [Act.put, pB, pC, pD])
                  refine tkS (i := 48) (h := ?_)
                  (try simp only [Act.put, pB, pC, pD])
                  refine tkS (i := 49) (h := ?_)
                  (try simp only [Act.put, pB, pC, pD])
                  refine tkS (i := 50) (h := ?_)
                  (try simp only [Act.put, pB, pC, pD])
                  refine tkT (i := 51) (h := ?_)
                  (try simp only [Act.put, pB, pC, pD])
                  refine wpAnyH_done (by kernel_rfl) ?_ _
                  refine NoPanic.normal ?_
                  go_wp2_with fail
                  go_ret
                  exact ⟨rfl, hbe.out.trans (hbe2.out.trans (hB1.mono hbe2.out.size) |>.mono hbe.out.size)⟩
            · have e := HB.out
              rw [relsOk_bad2 HN.out hin hkn (by unfold relOkF; rw [hnk]; simp [hnn])] at e
              subst e
              have hne : ((nk : Int) != (ni : Int)) = true := by simp; omega
              go_wp2_with fail
              refine wp_region_noPanic ?_
              refine wp_region_held_drew (S := (fun w' => w'.cell? ⟨b, off + k, none⟩ = some (.slice ak nk ck))) (by kernel_rfl) (by simp [go_sem, *]) (fun hHeld => ?_)
              refine tkT (i := 0) (h := ?_)
              (try simp only [Act.put, pB, pC, pD])
              refine tkT (i := 1) (h := ?_)
              (try simp only [Act.put, pB, pC, pD])
              refine tkT (i := 2) (h := ?_)
              (try simp only [Act.put, pB, pC, pD])
              refine tkT (i := 3) (h := ?_)
              (try simp only [Act.put, pB, pC, pD])
              refine tkT (i := 4) (h := ?_)
              (try simp only [Act.put, pB, pC, pD])
              refine tkT (i := 5) (h := ?_)
              (try simp only [Act.put, pB, pC, pD])
              refine tkT (i := 6) (h := ?_)
              (try simp only [Act.put, pB, pC, pD])
              refine tkT (i := 7) (h := ?_)
              (try simp only [Act.put, pB, pC, pD])
              refine tkT (i := 8) (h := ?_)
              (try simp only [Act.put, pB, pC, pD])
              refine tkS (i := 9) (h := ?_)
              (try simp only [Act.put, pB, pC, pD])
              refine tkS (i := 10) (h := ?_)
              (try simp only [Act.put, pB, pC, pD])
              refine tkS (i := 11) (h := ?_)
              (try simp only [Act.put, pB, pC, pD])
              refine tkS (i := 12) (h := ?_)
              (try simp only [Act.put, pB, pC, pD])
              refine tkS (i := 13) (h := ?_)
              (try simp only [Act.put, pB, pC, pD])
              refine tkS (i := 14) (h := ?_)
              (try simp only [Act.put, pB, pC, pD])
              refine tkS (i := 15) (h := ?_)
              (try simp only [Act.put, pB, pC, pD])
              refine tkS (i := 16) (h := ?_)
              (try simp only [Act.put, pB, pC, pD])
              refine tkS (i := 17) (h := ?_)
              (try simp only [Act.put, pB, pC, pD])
              refine tkT (i := 18) (h := ?_)
              (try simp only [Act.put, pB, pC, pD])
              refine tkT (i := 19) (h := ?_)
              (try simp only [Act.put, pB, pC, pD])
              refine tkS (i := 20) (h := ?_)
              (try simp only [Act.put, pB, pC, pD])
              refine tkS (i := 21) (h := ?_)
              (try simp only [Act.put, pB, pC, pD])
              refine tkS (i := 22) (h := ?_)
              (try simp only [Act.put, pB, pC, pD])
              refine tkS (i := 23) (h := ?_)
              (try simp only [Act.put, pB, pC, pD])
              refine tkS (i := 24) (h := ?_)
              (try simp only [Act.put, pB, pC, pD])
              refine tkS (i := 25) (h := ?_)
              (try simp only [Act.put, pB, pC, pD])
              refine tkS (i := 26) (h := ?_)
              (try simp only [Act.put, pB, pC, pD])
              refine tkS (i := 27) (h := ?_)
              (try simp only [Act.put, pB, pC, pD])
              refine tkS (i := 28) (h := ?_)
              (try simp only [Act.put, pB, pC, pD])
              refine tkS (i := 29) (h := ?_)
              (try simp only [Act.put, pB, pC, pD])
              refine tkS (i := 30) (h := ?_)
              (try simp only [Act.put, pB, pC, pD])
              refine tkS (i := 31) (h := ?_)
              (try simp only [Act.put, pB, pC, pD])
              refine tkS (i := 32) (h := ?_)
              (try simp only [Act.put, pB, pC, pD])
              refine tkS (i := 33) (h := ?_)
              (try simp only [Act.put, pB, pC, pD])
              refine tkS (i := 34) (h := ?_)
              (try simp only [Act.put, pB, pC, pD])
              refine tkS (i := 35) (h := ?_)
              (try simp only [Act.put, pB, pC, pD])
              refine tkT (i := 36) (h := ?_)
              (try simp only [Act.put, pB, pC, pD])
              refine tkT (i := 37) (h := ?_)
              (try simp only [Act.put, pB, pC, pD])
              refine tkS (i := 38) (h := ?_)
              (try simp only [Act.put, pB, pC, pD])
              refine tkS (i := 39) (h := ?_)
              (try simp only [Act.put, pB, pC, pD])
              refine tkS (i := 40) (h := ?_)
              (try simp only [Act.put, pB, pC, pD])
              refine tkS (i := 41) (h := ?_)
              (try simp only [Act.put, pB, pC, pD])
              refine tkS (i := 42) (h := ?_)
              (try simp only [Act.put, pB, pC, pD])
              refine tkS (i := 43) (h := ?_)
              (try simp only [Act.put, pB, pC, pD])
              refine tkS (i := 44) (h := ?_)
              (try simp only [Act.put, pB, pC, pD])
              refine tkS (i := 45) (h := ?_)
              (try simp only [Act.put, pB, pC, pD])
              refine tkS (i := 46) (h := ?_)
              (try simp only [Act.put, pB, pC, pD])
              refine tkS (i := 47) (h := ?_)
              (try simp only [Act.put, pB, pC, pD])
              refine tkS (i := 48) (h := ?_)
              (try simp only [Act.put, pB, pC, pD])
              refine tkS (i := 49) (h := ?_)
              (try simp only [Act.put, pB, pC, pD])
              refine tkS (i := 50) (h := ?_)
              (try simp only [Act.put, pB, pC, pD])
              refine tkT (i := 51) (h := ?_)
              (try simp only [Act.put, pB, pC, pD])
              refine wpAnyH_done (by kernel_rfl) ?_ _
              refine NoPanic.normal ?_
              go_wp2_with fail
              go_ret
              have hbb : Below w.heap.size w wr := hbe.out.trans (hbe2.out.mono hbe.out.size)
              exact ⟨rfl, by exact bw⟩
      · have e := HB.out
        rw [relsOk_bad1 HN.out hin (by rw [HNI.out]; exact hnn)] at e
        subst e
        have hne : ((ni : Int) != (n : Int)) = true := by simp; omega
        go_wp2_with fail
        go_ret
        exact ⟨rfl, hbe.out⟩
end Go.Proofs.YtnecdeaikmhanaaGreatDoor
namespace Go.Proofs.YtnecdeaikmhanaaGreatDoor
open Go.RowKit
set_option linter.unusedVariables false
def homOkF (n : Nat) (e : Ent) : Bool := rangeOkF e.1 e.2.1 && (decide (1 ≤ e.2.2) && decide (e.2.2 ≤ (n : Int)))
def homesOkF (rs : List (List Int)) (l : List Ent) : Bool := ((List.range l.length).all fun i => homOkF rs.length (l.getD i (0, 0, 0)) && (decide (i = 0) || decide (ordF (l.getD (i - 1) (0, 0, 0)) (l.getD i (0, 0, 0)) < 0))) && (relsOkF rs && decide (l.length ≤ 4))
theorem homesOk_bad {rs : List (List Int)} {l : List Ent} {n i : Nat} (hn : rs.length = n) (hi : i < l.length) (hb : homOkF n (l.getD i (0, 0, 0)) = false) : homesOkF rs l = false := by
  subst hn
  unfold homesOkF
  rw [Bool.and_eq_false_iff]; left
  rw [List.all_eq_false]
  exact ⟨i, List.mem_range.2 hi, by rw [hb]; simp⟩
theorem homesOk_ord {rs : List (List Int)} {l : List Ent} {i : Nat} (hi : i < l.length) (h0 : i ≠ 0) (hb : 0 ≤ ordF (l.getD (i - 1) (0, 0, 0)) (l.getD i (0, 0, 0))) : homesOkF rs l = false := by
  unfold homesOkF
  rw [Bool.and_eq_false_iff]; left
  rw [List.all_eq_false]
  refine ⟨i, List.mem_range.2 hi, ?_⟩
  rw [Bool.and_eq_true, not_and]
  intro _
  simp only [Bool.or_eq_true, decide_eq_true_eq, not_or]
  exact ⟨h0, by omega⟩
theorem homesOk_good {rs : List (List Int)} {l : List Ent} {n : Nat} (hn : rs.length = n) (ha : ∀ i, i < l.length → homOkF n (l.getD i (0, 0, 0)) = true ∧ (i ≠ 0 → ordF (l.getD (i - 1) (0, 0, 0)) (l.getD i (0, 0, 0)) < 0)) : homesOkF rs l = (relsOkF rs && decide (l.length ≤ 4)) := by
  subst hn
  unfold homesOkF
  have : ((List.range l.length).all fun i => homOkF rs.length (l.getD i (0, 0, 0)) && (decide (i = 0) || decide (ordF (l.getD (i - 1) (0, 0, 0)) (l.getD i (0, 0, 0)) < 0))) = true := by
    rw [List.all_eq_true]
    intro i hi
    obtain ⟨h1, h2⟩ := ha i (List.mem_range.1 hi)
    rw [h1, Bool.true_and, Bool.or_eq_true, decide_eq_true_eq, decide_eq_true_eq]
    by_cases h0 : i = 0
    · exact .inl h0
    · exact .inr (h2 h0)
  rw [this, Bool.true_and]
theorem homesOk_range {rs : List (List Int)} {l : List Ent} (h : homesOkF rs l = true) : ∀ i, i < l.length → rangeOkF (l.getD i (0, 0, 0)).1 (l.getD i (0, 0, 0)).2.1 = true := by
  unfold homesOkF at h
  rw [Bool.and_eq_true, List.all_eq_true] at h
  intro i hi
  have := h.1 i (List.mem_range.2 hi)
  unfold homOkF at this
  simp only [Bool.and_eq_true] at this
  exact this.1.1
set_option maxRecDepth 100000 in
set_option maxHeartbeats 8000000 in
theorem specHomesOk_any (v hv : Value) (rs : List (List Int)) (l : List Ent) (w : World) (hr : RowsAt w v rs) (hh : EntsAt w hv l) :
    Calls Tryz.prog 76 #[v, hv] w fun e w' => e = .returned (.bool (homesOkF rs l)) ∧ Below w.heap.size w w' := by
  obtain ⟨ra, rc, rfl, hrc, hrm⟩ := hr.form
  obtain ⟨a, cap, rfl, hc, hm⟩ := hh.form
  obtain ⟨n, hn⟩ : ∃ n, l.length = n := ⟨_, rfl⟩
  obtain ⟨N, hN⟩ : ∃ n, rs.length = n := ⟨_, rfl⟩
  rw [hn] at hc hh ⊢
  rw [hN] at hrc hr ⊢
  obtain ⟨B, hB⟩ : ∃ B, homesOkF rs l = B := ⟨_, rfl⟩
  rw [hB]
  have HRL := Lib.hid (fun W (hb : Below w.heap.size w W) => specRelsOk_any _ rs W (hr.below hb))
  have HB := Lib.hid hB
  have HN := Lib.hid hn
  have HNN := Lib.hid hN
  have H := Lib.hid hh
  clear hB hn hh hN hr
  go_enter Tryz.func76, Tryz.ntmps76
  go_wp2_with fail
  go_loopg [5] n (fun g i wr => ∃ k : Nat, i = .int .i64 k ∧ k + g = n ∧ Hid (Below w.heap.size w wr) ∧ Hid (∀ j, j < k → homOkF N (l.getD j (0, 0, 0)) = true ∧ (j ≠ 0 → ordF (l.getD (j - 1) (0, 0, 0)) (l.getD j (0, 0, 0)) < 0)))
  case atStart => exact ⟨0, rfl, by omega, Lib.hid (Below.refl _ _), Lib.hid fun j hj => by omega⟩
  case round =>
    obtain ⟨k, rfl, hk, hbe, hno⟩ := hrel
    by_cases hg : gk = 0
    · subst hg
      obtain rfl : k = n := by omega
      have e := HB.out
      rw [homesOk_good HNN.out (fun i hi => hno.out i (by rw [HN.out] at hi; exact hi)), HN.out] at e
      have HC := Lib.hid (HRL.out wr hbe.out)
      have hdn : decide ((k : Int) < (k : Int)) = false := by simp
      obtain ⟨q, hq⟩ : ∃ q, relsOkF rs = q := ⟨_, rfl⟩
      rw [hq] at e HC
      have HE := Lib.hid e
      clear e hq
      cases q
      · go_wp2_with fail
        refine HC.out.mono ?_
        rintro e w1 ⟨rfl, hb1⟩
        have hbb := hbe.out.trans (hb1.mono hbe.out.size)
        clear hb1
        go_wp2_with fail
        go_ret
        exact ⟨ret_b (by rw [← HE.out]; rfl), hbb⟩
      · go_wp2_with fail
        refine HC.out.mono ?_
        rintro e w1 ⟨rfl, hb1⟩
        have hbb := hbe.out.trans (hb1.mono hbe.out.size)
        clear hb1
        go_wp2_with fail
        go_ret
        exact ⟨ret_b (by rw [← HE.out, Bool.true_and]; exact decide_eq_decide.2 (by omega)), hbb⟩
    · have hkn : k < n := by omega
      have hkI : (k : Int) < (n : Int) := by omega
      have k0 : (0 : Int) ≤ (k : Int) := by omega
      have hgk : 1 ≤ gk := by omega
      obtain ⟨b, off, rfl, hb, c0, c1, c2⟩ := (H.out.below hbe.out).get k hkn
      obtain ⟨ent, hent⟩ : ∃ e, l.getD k (0, 0, 0) = e := ⟨_, rfl⟩
      rw [hent] at c0 c1 c2
      obtain ⟨f, bt, vi⟩ := ent
      simp only at c0 c1 c2
      obtain ⟨d, hd⟩ : ∃ d, rangeOkF f bt = d := ⟨_, rfl⟩
      obtain ⟨p, hp⟩ : ∃ p, (decide (1 ≤ vi) && decide (vi ≤ (N : Int))) = p := ⟨_, rfl⟩
      have he : ∀ W, Calls Tryz.prog 111 #[.agg #[.int .i64 f, .int .i64 bt]] W fun e w' => e = .returned (.bool d) ∧ Below W.heap.size W w' := fun W => by rw [← hd]; exact specRangeOk_any f bt W
      have hin : ∀ W, Calls Tryz.prog 41 #[.int .i64 vi, .int .i64 1, .int .i64 (N : Int)] W fun e w' => e = .returned (.bool p) ∧ w' = W := fun W => by rw [← hp]; exact in_any vi 1 N W
      have hF : homOkF N (l.getD k (0, 0, 0)) = (d && p) := by rw [hent, ← hd, ← hp]; rfl
      have HF := Lib.hid hF
      have HE := Lib.hid he
      have HIN := Lib.hid hin
      have HENT := Lib.hid hent
      have HK := Lib.hid hk
      have HBW := Lib.hid hb
      clear he hent hd hp hk hg hin hF hb
      cases d
      · have e := HB.out
        rw [homesOk_bad HNN.out (by rw [HN.out]; exact hkn : k < l.length) (by rw [HF.out]; rfl)] at e
        subst e
        go_wp2_with fail
        refine wp_region_noPanic ?_
        refine wp_region_held_drew (S := (fun w' => w'.cell? ⟨b, off + k * 3, none⟩ = some (.int .i64 f) ∧ w'.cell? ⟨b, off + k * 3 + 1, none⟩ = some (.int .i64 bt))) (by kernel_rfl) (by simp [go_sem, *]) (fun hHeld => ?_)
        refine tkT (i := 0) (h := ?_)
        (try simp only [Act.put, pB, pC, pD])
        refine tkT (i := 1) (h := ?_)
        (try simp only [Act.put, pB, pC, pD])
        refine tkT (i := 2) (h := ?_)
        (try simp only [Act.put, pB, pC, pD])
        refine tkT (i := 3) (h := ?_)
        (try simp only [Act.put, pB, pC, pD])
        refine tkT (i := 4) (h := ?_)
        (try simp only [Act.put, pB, pC, pD])
        refine wpAnyH_ready (rs := [5]) (by kernel_rfl) (by simp) ?_
        refine AllReadyH.cons (by (simp only [List.getElem?_toArray, List.getElem?_cons_succ, List.getElem?_cons_zero]) <;> rfl) (fun K hK => ?_) AllReadyH.nil
        go_simp
        (go_at_call 111; refine (HE.out _).mono ?_; rintro e w1 ⟨rfl, hb1⟩; have hB1 : Below wr.heap.size wr w1 := (by refine Below.trans ?_ (hb1.mono (by first | exact Nat.le_refl _ | omega | (simp; done) | (simp; omega))); exact bw); have y0 := (hB1.cell (p := ⟨b, off + k * 3, none⟩) HBW.out).trans c0; have y1 := (hB1.cell (p := ⟨b, off + k * 3 + 1, none⟩) HBW.out).trans c1; clear hb1)
        refine hK.out _ _ (by simp [go_sem, *]) (fun hHeld => ?_)
        (try simp only [Act.put, pB, pC, pD])
        refine tkT (i := 6) (h := ?_)
        (try simp only [Act.put, pB, pC, pD])
        refine tkT (i := 7) (h := ?_)
        (try simp only [Act.put, pB, pC, pD])
        refine tkS (i := 8) (h := ?_)
        (try simp only [Act.put, pB, pC, pD])
        refine tkS (i := 9) (h := ?_)
        (try simp only [Act.put, pB, pC, pD])
        refine tkS (i := 10) (h := ?_)
        (try simp only [Act.put, pB, pC, pD])
        refine tkS (i := 11) (h := ?_)
        (try simp only [Act.put, pB, pC, pD])
        refine tkS (i := 12) (h := ?_)
        (try simp only [Act.put, pB, pC, pD])
        refine tkS (i := 13) (h := ?_)
        (try simp only [Act.put, pB, pC, pD])
        refine tkS (i := 14) (h := ?_)
        (try simp only [Act.put, pB, pC, pD])
        refine tkS (i := 15) (h := ?_)
        (try simp only [Act.put, pB, pC, pD])
        refine tkS (i := 16) (h := ?_)
        (try simp only [Act.put, pB, pC, pD])
        refine tkT (i := 17) (h := ?_)
        (try simp only [Act.put, pB, pC, pD])
        refine tkT (i := 18) (h := ?_)
        (try simp only [Act.put, pB, pC, pD])
        refine tkS (i := 19) (h := ?_)
        (try simp only [Act.put, pB, pC, pD])
        refine tkS (i := 20) (h := ?_)
        (try simp only [Act.put, pB, pC, pD])
        refine tkS (i := 21) (h := ?_)
        (try simp only [Act.put, pB, pC, pD])
        refine tkS (i := 22) (h := ?_)
        (try simp only [Act.put, pB, pC, pD])
        refine tkS (i := 23) (h := ?_)
        (try simp only [Act.put, pB, pC, pD])
        refine tkS (i := 24) (h := ?_)
        (try simp only [Act.put, pB, pC, pD])
        refine tkS (i := 25) (h := ?_)
        (try simp only [Act.put, pB, pC, pD])
        refine tkS (i := 26) (h := ?_)
        (try simp only [Act.put, pB, pC, pD])
        refine tkS (i := 27) (h := ?_)
        (try simp only [Act.put, pB, pC, pD])
        refine tkS (i := 28) (h := ?_)
        (try simp only [Act.put, pB, pC, pD])
        refine tkS (i := 29) (h := ?_)
        (try simp only [Act.put, pB, pC, pD])
        refine tkS (i := 30) (h := ?_)
        (try simp only [Act.put, pB, pC, pD])
        refine tkS (i := 31) (h := ?_)
        (try simp only [Act.put, pB, pC, pD])
        refine tkS (i := 32) (h := ?_)
        (try simp only [Act.put, pB, pC, pD])
        refine tkS (i := 33) (h := ?_)
        (try simp only [Act.put, pB, pC, pD])
        refine tkS (i := 34) (h := ?_)
        (try simp only [Act.put, pB, pC, pD])
        refine tkS (i := 35) (h := ?_)
        (try simp only [Act.put, pB, pC, pD])
        refine tkT (i := 36) (h := ?_)
        (try simp only [Act.put, pB, pC, pD])
        refine wpAnyH_done (by kernel_rfl) ?_ _
        refine NoPanic.normal ?_
        go_wp2_with fail
        go_ret
        exact ⟨rfl, hbe.out.trans (hB1.mono hbe.out.size)⟩
      · cases p
        · have e := HB.out
          rw [homesOk_bad HNN.out (by rw [HN.out]; exact hkn : k < l.length) (by rw [HF.out]; rfl)] at e
          subst e
          go_wp2_with fail
          refine wp_region_noPanic ?_
          refine wp_region_held_drew (S := (fun w' => w'.cell? ⟨b, off + k * 3, none⟩ = some (.int .i64 f) ∧ w'.cell? ⟨b, off + k * 3 + 1, none⟩ = some (.int .i64 bt) ∧ w'.cell? ⟨b, off + k * 3 + 2, none⟩ = some (.int .i64 vi))) (by kernel_rfl) (by simp [go_sem, *]) (fun hHeld => ?_)
          refine tkT (i := 0) (h := ?_)
          (try simp only [Act.put, pB, pC, pD])
          refine tkT (i := 1) (h := ?_)
          (try simp only [Act.put, pB, pC, pD])
          refine tkT (i := 2) (h := ?_)
          (try simp only [Act.put, pB, pC, pD])
          refine tkT (i := 3) (h := ?_)
          (try simp only [Act.put, pB, pC, pD])
          refine tkT (i := 4) (h := ?_)
          (try simp only [Act.put, pB, pC, pD])
          refine wpAnyH_ready (rs := [5]) (by kernel_rfl) (by simp) ?_
          refine AllReadyH.cons (by (simp only [List.getElem?_toArray, List.getElem?_cons_succ, List.getElem?_cons_zero]) <;> rfl) (fun K hK => ?_) AllReadyH.nil
          go_simp
          (go_at_call 111; refine (HE.out _).mono ?_; rintro e w1 ⟨rfl, hb1⟩; have hB1 : Below wr.heap.size wr w1 := (by refine Below.trans ?_ (hb1.mono (by first | exact Nat.le_refl _ | omega | (simp; done) | (simp; omega))); exact bw); have y0 := (hB1.cell (p := ⟨b, off + k * 3, none⟩) HBW.out).trans c0; have y1 := (hB1.cell (p := ⟨b, off + k * 3 + 1, none⟩) HBW.out).trans c1; have y2 := (hB1.cell (p := ⟨b, off + k * 3 + 2, none⟩) HBW.out).trans c2; clear hb1)
          refine hK.out _ _ (by simp [go_sem, *]) (fun hHeld => ?_)
          (try simp only [Act.put, pB, pC, pD])
          refine tkT (i := 6) (h := ?_)
          (try simp only [Act.put, pB, pC, pD])
          refine tkT (i := 7) (h := ?_)
          (try simp only [Act.put, pB, pC, pD])
          refine tkT (i := 8) (h := ?_)
          (try simp only [Act.put, pB, pC, pD])
          refine tkT (i := 9) (h := ?_)
          (try simp only [Act.put, pB, pC, pD])
          refine tkT (i := 10) (h := ?_)
          (try simp only [Act.put, pB, pC, pD])
          refine tkT (i := 11) (h := ?_)
          (try simp only [Act.put, pB, pC, pD])
          refine tkT (i := 12) (h := ?_)
          (try simp only [Act.put, pB, pC, pD])
          refine tkT (i := 13) (h := ?_)
          (try simp only [Act.put, pB, pC, pD])
          refine tkT (i := 14) (h := ?_)
          (try simp only [Act.put, pB, pC, pD])
          refine wpAnyH_ready (rs := [15]) (by kernel_rfl) (by simp) ?_
          refine AllReadyH.cons (by (simp only [List.getElem?_toArray, List.getElem?_cons_succ, List.getElem?_cons_zero]) <;> rfl) (fun K hK => ?_) AllReadyH.nil
          go_simp
          (go_at_call 41; refine (HIN.out _).mono ?_; rintro r w1 ⟨rfl, rfl⟩)
          refine hK.out _ _ (by simp [go_sem, *]) (fun hHeld => ?_)
          (try simp only [Act.put, pB, pC, pD])
          refine tkT (i := 16) (h := ?_)
          (try simp only [Act.put, pB, pC, pD])
          refine tkT (i := 17) (h := ?_)
          (try simp only [Act.put, pB, pC, pD])
          refine tkT (i := 18) (h := ?_)
          (try simp only [Act.put, pB, pC, pD])
          refine tkS (i := 19) (h := ?_)
          (try simp only [Act.put, pB, pC, pD])
          refine tkS (i := 20) (h := ?_)
          (try simp only [Act.put, pB, pC, pD])
          refine tkS (i := 21) (h := ?_)
          (try simp only [Act.put, pB, pC, pD])
          refine tkS (i := 22) (h := ?_)
          (try simp only [Act.put, pB, pC, pD])
          refine tkS (i := 23) (h := ?_)
          (try simp only [Act.put, pB, pC, pD])
          refine tkS (i := 24) (h := ?_)
          (try simp only [Act.put, pB, pC, pD])
          refine tkS (i := 25) (h := ?_)
          (try simp only [Act.put, pB, pC, pD])
          refine tkS (i := 26) (h := ?_)
          (try simp only [Act.put, pB, pC, pD])
          refine tkS (i := 27) (h := ?_)
          (try simp only [Act.put, pB, pC, pD])
          refine tkS (i := 28) (h := ?_)
          (try simp only [Act.put, pB, pC, pD])
          refine tkS (i := 29) (h := ?_)
          (try simp only [Act.put, pB, pC, pD])
          refine tkS (i := 30) (h := ?_)
          (try simp only [Act.put, pB, pC, pD])
          refine tkS (i := 31) (h := ?_)
          (try simp only [Act.put, pB, pC, pD])
          refine tkS (i := 32) (h := ?_)
          (try simp only [Act.put, pB, pC, pD])
          refine tkS (i := 33) (h := ?_)
          (try simp only [Act.put, pB, pC, pD])
          refine tkS (i := 34) (h := ?_)
          (try simp only [Act.put, pB, pC, pD])
          refine tkS (i := 35) (h := ?_)
          (try simp only [Act.put, pB, pC, pD])
          refine tkT (i := 36) (h := ?_)
          (try simp only [Act.put, pB, pC, pD])
          refine wpAnyH_done (by kernel_rfl) ?_ _
          refine NoPanic.normal ?_
          go_wp2_with fail
          go_ret
          exact ⟨rfl, hbe.out.trans (hB1.mono hbe.out.size)⟩
        · by_cases hk0 : k = 0
          · subst hk0
            simp only [Nat.zero_mul, Nat.add_zero] at c0 c1 c2
            go_wp2_with fail
            refine wp_region_noPanic ?_
            refine wp_region_held_drew (S := (fun w' => w'.cell? ⟨b, off, none⟩ = some (.int .i64 f) ∧ w'.cell? ⟨b, off + 1, none⟩ = some (.int .i64 bt) ∧ w'.cell? ⟨b, off + 2, none⟩ = some (.int .i64 vi))) (by kernel_rfl) (by simp [go_sem, *]) (fun hHeld => ?_)
            refine tkT (i := 0) (h := ?_)
            (try simp only [Act.put, pB, pC, pD])
            refine tkT (i := 1) (h := ?_)
            (try simp only [Act.put, pB, pC, pD])
            refine tkT (i := 2) (h := ?_)
            (try simp only [Act.put, pB, pC, pD])
            refine tkT (i := 3) (h := ?_)
            (try simp only [Act.put, pB, pC, pD])
            refine tkT (i := 4) (h := ?_)
            (try simp only [Act.put, pB, pC, pD])
            refine wpAnyH_ready (rs := [5]) (by kernel_rfl) (by simp) ?_
            refine AllReadyH.cons (by (simp only [List.getElem?_toArray, List.getElem?_cons_succ, List.getElem?_cons_zero]) <;> rfl) (fun K hK => ?_) AllReadyH.nil
            go_simp
            (go_at_call 111; refine (HE.out _).mono ?_; rintro e w1 ⟨rfl, hb1⟩; have hB1 : Below wr.heap.size wr w1 := (by refine Below.trans ?_ (hb1.mono (by first | exact Nat.le_refl _ | omega | (simp; done) | (simp; omega))); exact bw); have y0 := (hB1.cell (p := ⟨b, off, none⟩) HBW.out).trans c0; have y1 := (hB1.cell (p := ⟨b, off + 1, none⟩) HBW.out).trans c1; have y2 := (hB1.cell (p := ⟨b, off + 2, none⟩) HBW.out).trans c2; clear hb1)
            refine hK.out _ _ (by simp [go_sem, *]) (fun hHeld => ?_)
            (try simp only [Act.put, pB, pC, pD])
            refine tkT (i := 6) (h := ?_)
            (try simp only [Act.put, pB, pC, pD])
            refine tkT (i := 7) (h := ?_)
            (try simp only [Act.put, pB, pC, pD])
            refine tkT (i := 8) (h := ?_)
            (try simp only [Act.put, pB, pC, pD])
            refine tkT (i := 9) (h := ?_)
            (try simp only [Act.put, pB, pC, pD])
            refine tkT (i := 10) (h := ?_)
            (try simp only [Act.put, pB, pC, pD])
            refine tkT (i := 11) (h := ?_)
            (try simp only [Act.put, pB, pC, pD])
            refine tkT (i := 12) (h := ?_)
            (try simp only [Act.put, pB, pC, pD])
            refine tkT (i := 13) (h := ?_)
            (try simp only [Act.put, pB, pC, pD])
            refine tkT (i := 14) (h := ?_)
            (try simp only [Act.put, pB, pC, pD])
            refine wpAnyH_ready (rs := [15]) (by kernel_rfl) (by simp) ?_
            refine AllReadyH.cons (by (simp only [List.getElem?_toArray, List.getElem?_cons_succ, List.getElem?_cons_zero]) <;> rfl) (fun K hK => ?_) AllReadyH.nil
            go_simp
            (go_at_call 41; refine (HIN.out _).mono ?_; rintro r w1 ⟨rfl, rfl⟩)
            refine hK.out _ _ (by simp [go_sem, *]) (fun hHeld => ?_)
            (try simp only [Act.put, pB, pC, pD])
            refine tkT (i := 16) (h := ?_)
            (try simp only [Act.put, pB, pC, pD])
            refine tkT (i := 17) (h := ?_)
            (try simp only [Act.put, pB, pC, pD])
            refine tkT (i := 18) (h := ?_)
            (try simp only [Act.put, pB, pC, pD])
            refine tkT (i := 19) (h := ?_)
            (try simp only [Act.put, pB, pC, pD])
            refine tkT (i := 20) (h := ?_)
            (try simp only [Act.put, pB, pC, pD])
            refine tkT (i := 21) (h := ?_)
            (try simp only [Act.put, pB, pC, pD])
            refine tkS (i := 22) (h := ?_)
            (try simp only [Act.put, pB, pC, pD])
            refine tkS (i := 23) (h := ?_)
            (try simp only [Act.put, pB, pC, pD])
            refine tkS (i := 24) (h := ?_)
            (try simp only [Act.put, pB, pC, pD])
            refine tkS (i := 25) (h := ?_)
            (try simp only [Act.put, pB, pC, pD])
            refine tkS (i := 26) (h := ?_)
            (try simp only [Act.put, pB, pC, pD])
            refine tkS (i := 27) (h := ?_)
            (try simp only [Act.put, pB, pC, pD])
            refine tkS (i := 28) (h := ?_)
            (try simp only [Act.put, pB, pC, pD])
            refine tkS (i := 29) (h := ?_)
            (try simp only [Act.put, pB, pC, pD])
            refine tkS (i := 30) (h := ?_)
            (try simp only [Act.put, pB, pC, pD])
            refine tkS (i := 31) (h := ?_)
            (try simp only [Act.put, pB, pC, pD])
            refine tkS (i := 32) (h := ?_)
            (try simp only [Act.put, pB, pC, pD])
            refine tkS (i := 33) (h := ?_)
            (try simp only [Act.put, pB, pC, pD])
            refine tkS (i := 34) (h := ?_)
            (try simp only [Act.put, pB, pC, pD])
            refine tkT (i := 35) (h := ?_)
            (try simp only [Act.put, pB, pC, pD])
            refine tkT (i := 36) (h := ?_)
            (try simp only [Act.put, pB, pC, pD])
            refine wpAnyH_done (by kernel_rfl) ?_ _
            refine NoPanic.normal ?_
            go_wp2_with fail
            go_roundg (gk - 1)
            case measure => omega
            case rel => exact ⟨1, by go_num, by have := HK.out; omega, Lib.hid (hbe.out.trans (hB1.mono hbe.out.size)), Lib.hid fun j hj => by
              obtain rfl : j = 0 := by omega
              exact ⟨HF.out, fun h => absurd rfl h⟩⟩
          · obtain ⟨j, hj⟩ : ∃ j, j = k - 1 := ⟨_, rfl⟩
            have hji : (k : Int) - 1 = (j : Int) := by omega
            have i3 : IntKind.i64.wrap (j : Int) = (j : Int) := IntWalk.i64_in _ (by omega)
            have j0 : (0 : Int) ≤ (j : Int) := by omega
            have hjI : (j : Int) < (n : Int) := by omega
            have hkp : (0 : Int) < (k : Int) := by omega
            have hkp2 : 0 < k := by omega
            have hkd : decide ((0 : Int) < (k : Int)) = true := decide_eq_true hkp
            obtain ⟨b', off', e, _, p0, p1, p2⟩ := (H.out.below hbe.out).get j (by omega)
            simp only [Option.some.injEq, Addr.mk.injEq] at e
            obtain ⟨rfl, rfl, _⟩ := e
            obtain ⟨pent, hpent⟩ : ∃ e, l.getD j (0, 0, 0) = e := ⟨_, rfl⟩
            rw [hpent] at p0 p1 p2
            obtain ⟨f', bt', vi'⟩ := pent
            simp only at p0 p1 p2
            obtain ⟨c, hcc⟩ : ∃ c, rcmpF f' bt' f bt = c := ⟨_, rfl⟩
            have hcm : ∀ W, Calls Tryz.prog 75 #[.agg #[.int .i64 f', .int .i64 bt'], .agg #[.int .i64 f, .int .i64 bt]] W fun e w' => e = .returned (.int .i64 c) ∧ Below W.heap.size W w' := fun W => by rw [← hcc]; exact l1Cmp_any f' bt' f bt W
            have hord : ordF (l.getD (k - 1) (0, 0, 0)) (l.getD k (0, 0, 0)) = c := by rw [HENT.out, ← hj, hpent]; exact hcc
            have HORD := Lib.hid hord
            have HCM := Lib.hid hcm
            have HK0 := Lib.hid hk0
            clear hcc hcm hord hpent hk0 hj p2
            by_cases hcn : c < 0
            · have hcd : decide (0 ≤ c) = false := decide_eq_false (by omega)
              go_wp2_with fail
              refine wp_region_noPanic ?_
              refine wp_region_held_drew (S := (fun w' => w'.cell? ⟨b, off + k * 3, none⟩ = some (.int .i64 f) ∧ w'.cell? ⟨b, off + k * 3 + 1, none⟩ = some (.int .i64 bt) ∧ w'.cell? ⟨b, off + k * 3 + 2, none⟩ = some (.int .i64 vi) ∧ w'.cell? ⟨b, off + j * 3, none⟩ = some (.int .i64 f') ∧ w'.cell? ⟨b, off + j * 3 + 1, none⟩ = some (.int .i64 bt'))) (by kernel_rfl) (by simp [go_sem, *]) (fun hHeld => ?_)
              refine tkT (i := 0) (h := ?_)
              (try simp only [Act.put, pB, pC, pD])
              refine tkT (i := 1) (h := ?_)
              (try simp only [Act.put, pB, pC, pD])
              refine tkT (i := 2) (h := ?_)
              (try simp only [Act.put, pB, pC, pD])
              refine tkT (i := 3) (h := ?_)
              (try simp only [Act.put, pB, pC, pD])
              refine tkT (i := 4) (h := ?_)
              (try simp only [Act.put, pB, pC, pD])
              refine wpAnyH_ready (rs := [5]) (by kernel_rfl) (by simp) ?_
              refine AllReadyH.cons (by (simp only [List.getElem?_toArray, List.getElem?_cons_succ, List.getElem?_cons_zero]) <;> rfl) (fun K hK => ?_) AllReadyH.nil
              go_simp
              (go_at_call 111; refine (HE.out _).mono ?_; rintro e w1 ⟨rfl, hb1⟩; have hB1 : Below wr.heap.size wr w1 := (by refine Below.trans ?_ (hb1.mono (by first | exact Nat.le_refl _ | omega | (simp; done) | (simp; omega))); exact bw); have y0 := (hB1.cell (p := ⟨b, off + k * 3, none⟩) HBW.out).trans c0; have y1 := (hB1.cell (p := ⟨b, off + k * 3 + 1, none⟩) HBW.out).trans c1; have y2 := (hB1.cell (p := ⟨b, off + k * 3 + 2, none⟩) HBW.out).trans c2; have y3 := (hB1.cell (p := ⟨b, off + j * 3, none⟩) HBW.out).trans p0; have y4 := (hB1.cell (p := ⟨b, off + j * 3 + 1, none⟩) HBW.out).trans p1; have hs1 := hB1.size; clear hb1)
              refine hK.out _ _ (by simp [go_sem, *]) (fun hHeld => ?_)
              (try simp only [Act.put, pB, pC, pD])
              refine tkT (i := 6) (h := ?_)
              (try simp only [Act.put, pB, pC, pD])
              refine tkT (i := 7) (h := ?_)
              (try simp only [Act.put, pB, pC, pD])
              refine tkT (i := 8) (h := ?_)
              (try simp only [Act.put, pB, pC, pD])
              refine tkT (i := 9) (h := ?_)
              (try simp only [Act.put, pB, pC, pD])
              refine tkT (i := 10) (h := ?_)
              (try simp only [Act.put, pB, pC, pD])
              refine tkT (i := 11) (h := ?_)
              (try simp only [Act.put, pB, pC, pD])
              refine tkT (i := 12) (h := ?_)
              (try simp only [Act.put, pB, pC, pD])
              refine tkT (i := 13) (h := ?_)
              (try simp only [Act.put, pB, pC, pD])
              refine tkT (i := 14) (h := ?_)
              (try simp only [Act.put, pB, pC, pD])
              refine wpAnyH_ready (rs := [15]) (by kernel_rfl) (by simp) ?_
              refine AllReadyH.cons (by (simp only [List.getElem?_toArray, List.getElem?_cons_succ, List.getElem?_cons_zero]) <;> rfl) (fun K hK => ?_) AllReadyH.nil
              go_simp
              (go_at_call 41; refine (HIN.out _).mono ?_; rintro r w1 ⟨rfl, rfl⟩)
              refine hK.out _ _ (by simp [go_sem, *]) (fun hHeld => ?_)
              (try simp only [Act.put, pB, pC, pD])
              refine tkT (i := 16) (h := ?_)
              (try simp only [Act.put, pB, pC, pD])
              refine tkT (i := 17) (h := ?_)
              (try simp only [Act.put, pB, pC, pD])
              refine tkT (i := 18) (h := ?_)
              (try simp only [Act.put, pB, pC, pD])
              refine tkT (i := 19) (h := ?_)
              (try simp only [Act.put, pB, pC, pD])
              refine tkT (i := 20) (h := ?_)
              (try simp only [Act.put, pB, pC, pD])
              refine tkT (i := 21) (h := ?_)
              (try simp only [Act.put, pB, pC, pD])
              refine tkT (i := 22) (h := ?_)
              (try simp only [Act.put, pB, pC, pD])
              refine tkT (i := 23) (h := ?_)
              (try simp only [Act.put, pB, pC, pD])
              refine tkT (i := 24) (h := ?_)
              (try simp only [Act.put, pB, pC, pD])
              refine tkT (i := 25) (h := ?_)
              (try simp only [Act.put, pB, pC, pD])
              refine tkT (i := 26) (h := ?_)
              (try simp only [Act.put, pB, pC, pD])
              refine tkT (i := 27) (h := ?_)
              (try simp only [Act.put, pB, pC, pD])
              refine tkT (i := 28) (h := ?_)
              (try simp only [Act.put, pB, pC, pD])
              refine tkT (i := 29) (h := ?_)
              (try simp only [Act.put, pB, pC, pD])
              refine tkT (i := 30) (h := ?_)
              (try simp only [Act.put, pB, pC, pD])
              refine tkT (i := 31) (h := ?_)
              (try simp only [Act.put, pB, pC, pD])
              refine tkT (i := 32) (h := ?_)
              (try simp only [Act.put, pB, pC, pD])
              refine wpAnyH_ready (rs := [33]) (by kernel_rfl) (by simp) ?_
              refine AllReadyH.cons (by (simp only [List.getElem?_toArray, List.getElem?_cons_succ, List.getElem?_cons_zero]) <;> rfl) (fun K hK => ?_) AllReadyH.nil
              go_simp
              (go_at_call 75; refine (HCM.out _).mono ?_; rintro e w2 ⟨rfl, hb2⟩; have hB2 : Below wr.heap.size wr w2 := (by refine Below.trans ?_ (hb2.mono (by first | exact Nat.le_refl _ | omega | (simp; done) | (simp; omega))); exact bw); have z0 := (hB2.cell (p := ⟨b, off + k * 3, none⟩) HBW.out).trans c0; have z1 := (hB2.cell (p := ⟨b, off + k * 3 + 1, none⟩) HBW.out).trans c1; have z2 := (hB2.cell (p := ⟨b, off + k * 3 + 2, none⟩) HBW.out).trans c2; have z3 := (hB2.cell (p := ⟨b, off + j * 3, none⟩) HBW.out).trans p0; have z4 := (hB2.cell (p := ⟨b, off + j * 3 + 1, none⟩) HBW.out).trans p1; clear hb2)
              refine hK.out _ _ (by simp [go_sem, *]) (fun hHeld => ?_)
              (try simp only [Act.put, pB, pC, pD])
              refine tkT (i := 34) (h := ?_)
              (try simp only [Act.put, pB, pC, pD])
              refine tkT (i := 35) (h := ?_)
              (try simp only [Act.put, pB, pC, pD])
              refine tkT (i := 36) (h := ?_)
              (try simp only [Act.put, pB, pC, pD])
              refine wpAnyH_done (by kernel_rfl) ?_ _
              refine NoPanic.normal ?_
              go_wp2_with fail
              go_roundg (gk - 1)
              case measure => omega
              case rel => exact ⟨k + 1, by go_num, by have := HK.out; omega, Lib.hid (hbe.out.trans (hB2.mono hbe.out.size)), Lib.hid fun j hj => by
                by_cases hjk : j = k
                · subst hjk
                  exact ⟨HF.out, fun _ => by rw [HORD.out]; exact hcn⟩
                · exact hno.out j (by omega)⟩
            · have e := HB.out
              rw [homesOk_ord (by rw [HN.out]; exact hkn : k < l.length) HK0.out (by rw [HORD.out]; omega)] at e
              subst e
              have hcd : decide (0 ≤ c) = true := decide_eq_true (by omega)
              go_wp2_with fail
              refine wp_region_noPanic ?_
              refine wp_region_held_drew (S := (fun w' => w'.cell? ⟨b, off + k * 3, none⟩ = some (.int .i64 f) ∧ w'.cell? ⟨b, off + k * 3 + 1, none⟩ = some (.int .i64 bt) ∧ w'.cell? ⟨b, off + k * 3 + 2, none⟩ = some (.int .i64 vi) ∧ w'.cell? ⟨b, off + j * 3, none⟩ = some (.int .i64 f') ∧ w'.cell? ⟨b, off + j * 3 + 1, none⟩ = some (.int .i64 bt'))) (by kernel_rfl) (by simp [go_sem, *]) (fun hHeld => ?_)
              refine tkT (i := 0) (h := ?_)
              (try simp only [Act.put, pB, pC, pD])
              refine tkT (i := 1) (h := ?_)
              (try simp only [Act.put, pB, pC, pD])
              refine tkT (i := 2) (h := ?_)
              (try simp only [Act.put, pB, pC, pD])
              refine tkT (i := 3) (h := ?_)
              (try simp only [Act.put, pB, pC, pD])
              refine tkT (i := 4) (h := ?_)
              (try simp only [Act.put, pB, pC, pD])
              refine wpAnyH_ready (rs := [5]) (by kernel_rfl) (by simp) ?_
              refine AllReadyH.cons (by (simp only [List.getElem?_toArray, List.getElem?_cons_succ, List.getElem?_cons_zero]) <;> rfl) (fun K hK => ?_) AllReadyH.nil
              go_simp
              (go_at_call 111; refine (HE.out _).mono ?_; rintro e w1 ⟨rfl, hb1⟩; have hB1 : Below wr.heap.size wr w1 := (by refine Below.trans ?_ (hb1.mono (by first | exact Nat.le_refl _ | omega | (simp; done) | (simp; omega))); exact bw); have y0 := (hB1.cell (p := ⟨b, off + k * 3, none⟩) HBW.out).trans c0; have y1 := (hB1.cell (p := ⟨b, off + k * 3 + 1, none⟩) HBW.out).trans c1; have y2 := (hB1.cell (p := ⟨b, off + k * 3 + 2, none⟩) HBW.out).trans c2; have y3 := (hB1.cell (p := ⟨b, off + j * 3, none⟩) HBW.out).trans p0; have y4 := (hB1.cell (p := ⟨b, off + j * 3 + 1, none⟩) HBW.out).trans p1; have hs1 := hB1.size; clear hb1)
              refine hK.out _ _ (by simp [go_sem, *]) (fun hHeld => ?_)
              (try simp only [Act.put, pB, pC, pD])
              refine tkT (i := 6) (h := ?_)
              (try simp only [Act.put, pB, pC, pD])
              refine tkT (i := 7) (h := ?_)
              (try simp only [Act.put, pB, pC, pD])
              refine tkT (i := 8) (h := ?_)
              (try simp only [Act.put, pB, pC, pD])
              refine tkT (i := 9) (h := ?_)
              (try simp only [Act.put, pB, pC, pD])
              refine tkT (i := 10) (h := ?_)
              (try simp only [Act.put, pB, pC, pD])
              refine tkT (i := 11) (h := ?_)
              (try simp only [Act.put, pB, pC, pD])
              refine tkT (i := 12) (h := ?_)
              (try simp only [Act.put, pB, pC, pD])
              refine tkT (i := 13) (h := ?_)
              (try simp only [Act.put, pB, pC, pD])
              refine tkT (i := 14) (h := ?_)
              (try simp only [Act.put, pB, pC, pD])
              refine wpAnyH_ready (rs := [15]) (by kernel_rfl) (by simp) ?_
              refine AllReadyH.cons (by (simp only [List.getElem?_toArray, List.getElem?_cons_succ, List.getElem?_cons_zero]) <;> rfl) (fun K hK => ?_) AllReadyH.nil
              go_simp
              (go_at_call 41; refine (HIN.out _).mono ?_; rintro r w1 ⟨rfl, rfl⟩)
              refine hK.out _ _ (by simp [go_sem, *]) (fun hHeld => ?_)
              (try simp only [Act.put, pB, pC, pD])
              refine tkT (i := 16) (h := ?_)
              (try simp only [Act.put, pB, pC, pD])
              refine tkT (i := 17) (h := ?_)
              (try simp only [Act.put, pB, pC, pD])
              refine tkT (i := 18) (h := ?_)
              (try simp only [Act.put, pB, pC, pD])
              refine tkT (i := 19) (h := ?_)
              (try simp only [Act.put, pB, pC, pD])
              refine tkT (i := 20) (h := ?_)
              (try simp only [Act.put, pB, pC, pD])
              refine tkT (i := 21) (h := ?_)
              (try simp only [Act.put, pB, pC, pD])
              refine tkT (i := 22) (h := ?_)
              (try simp only [Act.put, pB, pC, pD])
              refine tkT (i := 23) (h := ?_)
              (try simp only [Act.put, pB, pC, pD])
              refine tkT (i := 24) (h := ?_)
              (try simp only [Act.put, pB, pC, pD])
              refine tkT (i := 25) (h := ?_)
              (try simp only [Act.put, pB, pC, pD])
              refine tkT (i := 26) (h := ?_)
              (try simp only [Act.put, pB, pC, pD])
              refine tkT (i := 27) (h := ?_)
              (try simp only [Act.put, pB, pC, pD])
              refine tkT (i := 28) (h := ?_)
              (try simp only [Act.put, pB, pC, pD])
              refine tkT (i := 29) (h := ?_)
              (try simp only [Act.put, pB, pC, pD])
              refine tkT (i := 30) (h := ?_)
              (try simp only [Act.put, pB, pC, pD])
              refine tkT (i := 31) (h := ?_)
              (try simp only [Act.put, pB, pC, pD])
              refine tkT (i := 32) (h := ?_)
              (try simp only [Act.put, pB, pC, pD])
              refine wpAnyH_ready (rs := [33]) (by kernel_rfl) (by simp) ?_
              refine AllReadyH.cons (by (simp only [List.getElem?_toArray, List.getElem?_cons_succ, List.getElem?_cons_zero]) <;> rfl) (fun K hK => ?_) AllReadyH.nil
              go_simp
              (go_at_call 75; refine (HCM.out _).mono ?_; rintro e w2 ⟨rfl, hb2⟩; have hB2 : Below wr.heap.size wr w2 := (by refine Below.trans ?_ (hb2.mono (by first | exact Nat.le_refl _ | omega | (simp; done) | (simp; omega))); exact bw); have z0 := (hB2.cell (p := ⟨b, off + k * 3, none⟩) HBW.out).trans c0; have z1 := (hB2.cell (p := ⟨b, off + k * 3 + 1, none⟩) HBW.out).trans c1; have z2 := (hB2.cell (p := ⟨b, off + k * 3 + 2, none⟩) HBW.out).trans c2; have z3 := (hB2.cell (p := ⟨b, off + j * 3, none⟩) HBW.out).trans p0; have z4 := (hB2.cell (p := ⟨b, off + j * 3 + 1, none⟩) HBW.out).trans p1; clear hb2)
              refine hK.out _ _ (by simp [go_sem, *]) (fun hHeld => ?_)
              (try simp only [Act.put, pB, pC, pD])
              refine tkT (i := 34) (h := ?_)
              (try simp only [Act.put, pB, pC, pD])
              refine tkT (i := 35) (h := ?_)
              (try simp only [Act.put, pB, pC, pD])
              refine tkT (i := 36) (h := ?_)
              (try simp only [Act.put, pB, pC, pD])
              refine wpAnyH_done (by kernel_rfl) ?_ _
              refine NoPanic.normal ?_
              go_wp2_with fail
              go_ret
              exact ⟨rfl, hbe.out.trans (hB2.mono hbe.out.size)⟩
end Go.Proofs.YtnecdeaikmhanaaGreatDoor
