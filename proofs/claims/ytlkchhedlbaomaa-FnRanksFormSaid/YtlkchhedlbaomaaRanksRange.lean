/- impl.RanksMany: its loop over all states. -/
import Derived.Test.YtlkchhedlbaomaaRanksMany
namespace Go.Proofs.Ytlkchhedlbaomaa
open Go.RowKit Go.Shelf
set_option linter.unusedVariables false
attribute [local go_sem] Oper.semAt_some

theorem But2.of_only {x y : Nat} {w w' : World} (h : Only x w w') : But2 x y w w' := ⟨h.os, h.tape, h.output, h.size, fun k hk h1 _ => h.block k hk h1⟩
def bodyPostS (r : List (List (List Int))) (x : Nat) (I : Nat → World → Prop) (c : Nat) (ws : List (List Int)) (W : World) : Exit → Act → World → Prop
  | .normal, _, W' => Only x W W' ∧ I (c + totP r 0 ws) W'
  | _, _, _ => False
theorem wpIn_rangeStates {n : Nat} {g : Operand} {ps : Array Tmp} {assign body : Code} {Q : Exit → Act → World → Prop} {a : Act} {w : World} (r : List (List (List Int))) (w0 : World) (gv : Value) (x b1 : Nat)
    (hg : a.eval g = .func (.func 77) #[] #[.pointer (some ⟨b1, 0, none⟩)]) (hps : ps.size = 1)
    (hG : GridAt w0 gv r) (hr3 : r.length = 3) (hs3 : Short3 r) (hb1 : b1 < w.heap.size) (hx : x < w.heap.size) (hx1 : b1 ≠ x) (h0x : w0.heap.size ≤ x) (hbe : Below w0.heap.size w0 w) (hr : w.cell? ⟨b1, 0, none⟩ = some gv)
    (I : Nat → World → Prop) (hI : ∀ c A B, I c A → Below w.heap.size A B → I c B) (h0 : I 0 w) (a₁ : Value → Act)
    (hassign : ∀ (l : Nat) (v : Value) (W : World) (m : Nat) (K : Act → World → Prop), K (a₁ v) W →
      assign.wpIn (Fence.wide.inRound l) m Try.prog (Exit.then K (fun _ _ _ => False)) { tmps := (ps.zip #[v]).foldl (fun t (p, v) => t.setIfInBounds p v) a.tmps, defers := [] } W)
    (hbody : ∀ (l m c : Nat) (ws : List (List Int)) (b : Nat) (W : World), I c W → RowsAt W (.slice (some ⟨b, 0, none⟩) 3 3) ws → ws.length = 3 → Below w0.heap.size w0 W → body.wpIn (Fence.wide.inRound l) m Try.prog (bodyPostS r x I c ws W) (a₁ (.slice (some ⟨b, 0, none⟩) 3 3)) W)
    (hdone : ∀ (D : Nat) (W : World), w.heap.size ≤ D → I (totP r 3 []) W → W.heap[D]? = some (.deferred (some [])) → Q .normal { a with defers := { target := .collected D, args := #[] } :: a.defers } W) :
    (Code.rangeFunc g ps assign body).wpIn Fence.wide n Try.prog Q a w := by
  have hw0 : w0.heap.size ≤ w.heap.size := hbe.size
  refine wpIn_rangeFunc ?_
  intro fn hfn
  have hro : Fence.wide.round = none := rfl
  rw [hro]
  obtain ⟨rec, hrec⟩ : ∃ rec : LoopState → Option Code → Loop, rec = fun st pe => { state := st, pending := pe, fn, tmps := a.tmps, params := ps, assign, body, defers := w.heap.size } := ⟨_, rfl⟩
  obtain ⟨W1, hW1⟩ : ∃ W1, (w.alloc (.deferred (some []))).alloc (.loop (rec .ready none)) = W1 := ⟨_, rfl⟩
  have hL1 : W1.heap[w.heap.size + 1]? = some (.loop (rec .ready none)) := by
    rw [← hW1]; have := World.alloc_heap_new (w.alloc (.deferred (some []))) (.loop (rec .ready none)); rwa [World.size_alloc] at this
  have hK1 : W1.heap[w.heap.size]? = some (.deferred (some [])) := by
    rw [← hW1]; exact (Below.heap_alloc _ _ _ (by simp)).trans (World.alloc_heap_new w _)
  have hB1 : Below w.heap.size w W1 := by rw [← hW1]; exact ((Below.refl _ w).alloc (Nat.le_refl _) _).alloc (by simp) _
  have hS1 : W1.heap.size = w.heap.size + 2 := by rw [← hW1]; simp
  refine ⟨w.heap.size + 1, [{ target := .collected w.heap.size, args := #[] }], W1, { target := .fn (.func 77) #[.pointer (some ⟨b1, 0, none⟩)], args := #[.func (.yield (w.heap.size + 1)) #[] #[]] }, W1, 77,
    #[.func (.yield (w.heap.size + 1)) #[] #[]] ++ #[.pointer (some ⟨b1, 0, none⟩)], W1, ?_, ?_, fun _ _ => trivial, ?_, (fun h => by cases h), ?_⟩
  · rw [← hW1, hrec]; exact run_enterLoop_outer _ _ _ _ _
  · simp only [resolve, hg]
    simp [go_sem]
  · have eg : ∀ args w, (callFunc 77 args).run Try.prog w = .ok (.enter 77 args) w := enters_of Try.func77 (by kernel_rfl) rfl
    simp [invoke, go_sem, eg]
  · refine (states1_any r w0 gv (w.heap.size + 2) b1 (w.heap.size + 1) x (w.heap.size + 1)
      (fun c W => I c W ∧ W.heap[w.heap.size + 1]? = some (.loop (rec .ready none)) ∧ W.heap[w.heap.size]? = some (.deferred (some [])))
      W1 hS1.symm hG hr3 hs3 (by omega) (by omega) (by omega) (by omega) hx1 (by omega) h0x (by omega)
      (fun c A B hs hb => ⟨hI c A B hs.1 (hb.mono (by omega)), (hb.block _ (by omega)).trans hs.2.1, (hb.block _ (by omega)).trans hs.2.2⟩)
      ?_ (hbe.trans (hB1.mono hw0)) ((hB1.cell (p := ⟨b1, 0, none⟩) hb1).trans hr) ⟨hI 0 _ _ h0 hB1, hL1, hK1⟩ (n - 1)).mono ?_
    · -- one round
      rintro m c ws W ⟨hi, hl, hk⟩ hF
      have hlt : w.heap.size + 1 < W.heap.size := (Array.getElem?_eq_some_iff.1 hl).1
      have hy := run_yield (P := Try.prog) (args := #[.slice (some ⟨w.heap.size + 2 + 1, 0, none⟩) 3 3]) hl (by rw [hrec]; exact hps.symm)
      rw [hrec] at hy
      refine ⟨fn, _, assign, body, hy, roundIn_of_wpIn hfn (hassign _ _ W _ _ ⟨_, run_beginRound hl (by rw [hrec]), ?_⟩)⟩
      have hl2 : (W.putObj (w.heap.size + 1) (.loop { rec .ready none with state := .busy })).heap[w.heap.size + 1]? = some (.loop { rec .ready none with state := .busy }) := World.putObj_heap_same hlt
      have hk2 : (W.putObj (w.heap.size + 1) (.loop { rec .ready none with state := .busy })).heap[w.heap.size]? = some (.deferred (some [])) := (World.putObj_heap_other (by omega)).trans hk
      have hput : ∀ (A : World) (o : Obj), w.heap.size + 1 < A.heap.size → Below w.heap.size A (A.putObj (w.heap.size + 1) o) := fun A o hA =>
        (But2.put (x := w.heap.size) o).below (Nat.le_refl _) (by omega) (by omega)
      have hF2 := hF.but (W' := W.putObj (w.heap.size + 1) (.loop { rec .ready none with state := .busy })) (x := x) (y := w.heap.size + 1) (But2.put _) (by omega) (by omega) (by omega) hx1 (by omega) h0x (by omega)
      refine wpIn_mono (hbody _ _ c ws _ _ (hI _ _ _ hi (hput W _ hlt)) hF2.rows hF2.wl hF2.be) ?_
      rintro e a3 W3 hp
      cases e with
      | normal =>
        obtain ⟨hO, hi3⟩ := hp
        have hs3' : w.heap.size + 1 < W3.heap.size := by have := hO.size; simp at this; omega
        have hl3 := (hO.block (w.heap.size + 1) (by simp; omega) (by omega)).trans hl2
        have hk3 := (hO.block w.heap.size (by simp; omega) (by omega)).trans hk2
        have hend := run_endRound (P := Try.prog) none hl3
        rw [hrec] at hend
        refine ⟨_, _, hend, rfl, ⟨hI _ _ _ hi3 (hput W3 _ hs3'), ?_, (World.putObj_heap_other (by omega)).trans hk3⟩, ?_⟩
        · rw [World.putObj_heap_same hs3', hrec]; rfl
        · exact ((But2.put _).trans (But2.of_only hO)).trans (But2.put _)
      | ret => exact hp.elim
      | exit id => exact hp.elim
      | goto t => exact hp.elim
      | panic ch => exact hp.elim
      | outgrown => exact hp.elim
    · -- behind the iterator
      rintro e W2 ⟨⟨v, rfl⟩, hi, hl, hk⟩
      have hs2 : w.heap.size + 1 < W2.heap.size := (Array.getElem?_eq_some_iff.1 hl).1
      refine ⟨none, _, by have := run_endLoop (P := Try.prog) hl (by rw [hrec]; simp); rw [hrec] at this; exact this, hdone w.heap.size _ (Nat.le_refl _) (hI _ _ _ hi ((But2.put (x := w.heap.size) _).below (Nat.le_refl _) (by omega) (by omega))) ((World.putObj_heap_other (by omega)).trans hk)⟩
end Go.Proofs.Ytlkchhedlbaomaa
