/- A range over a function whose iterator writes cells of its own between its rounds. Rounds are counted; what the caller says between two rounds speaks of blocks that lay ahead of the loop. -/
import Derived.Test.YtkcilmnmbfbogaaKeep
import Derived.RangeFuncNested
import Derived.RangeFuncBound
import Derived.RangeFuncCalls
import Derived.RangeFuncLeaves
namespace Go.Proofs.Ytkcilmnmbfbogaa
set_option linter.unusedVariables false
set_option linter.unusedSimpArgs false
open Go.RowKit

/-- What is said of the blocks below B alone. -/
def Low (B : Nat) (J : World → Prop) : Prop := ∀ A C, J A → Below B A C → J C
theorem Low.mono {B B' : Nat} {J : World → Prop} (h : Low B J) (hB : B ≤ B') : Low B' J := fun A C ha hb => h A C ha (hb.mono hB)
theorem Low.and {B : Nat} {J J' : World → Prop} (h : Low B J) (h' : Low B J') : Low B (fun W => J W ∧ J' W) := fun A C ha hb => ⟨h A C ha.1 hb, h' A C ha.2 hb⟩
theorem low_block {B r : Nat} {o : Obj} (hr : r < B) : Low B (fun W => W.heap[r]? = some o) := fun A C ha hb => (hb.block r hr).trans ha
theorem low_put {B r : Nat} {J : World → Prop} (h : Low B J) (hr : B ≤ r) {W : World} (ha : J W) (o : Obj) : J (W.putObj r o) :=
  h _ _ ha ⟨rfl, rfl, rfl, by simp, fun k hk => World.putObj_heap_other (by omega)⟩
theorem keeps_put {S : Nat → Prop} {r : Nat} (hr : S r) (W : World) (o : Obj) : Keeps S W (W.putObj r o) :=
  ⟨rfl, rfl, rfl, by simp, fun k _ hk => World.putObj_heap_other (fun e => hk (by rw [e]; exact hr))⟩

/-- The iterator's contract: round k is handed enc k; a round that goes on leaves all but the blocks of Z as they were. -/
def Rounds (F : Fence) (n : Nat) (P : Program) (g : Nat) (lb : Array Value) (enc : Nat → Array Value) (Z : Nat → Prop) (E : Nat → Prop) (N : Nat) (w : World) : Prop :=
  ∀ (l : Nat) (J : Nat → World → Prop) (Jx : World → Prop) (W : World), Below w.heap.size w W → w.heap.size + 2 ≤ W.heap.size → (∀ k, Low W.heap.size (J k)) → Low W.heap.size Jx →
    (∀ k W1, k < N → J k W1 → YieldAt F (n - 1) P l (enc k) W1 fun e W' => (e = .returned (.bool true) ∧ J (k + 1) W' ∧ Keeps (fun b => Z b ∨ w.heap.size ≤ b ∧ b < w.heap.size + 2) W1 W') ∨ (e = .returned (.bool false) ∧ Jx W')) →
    J 0 W →
    CallsIn F n P g (#[.func (.yield l) #[] #[]] ++ lb) W fun e W' => (∃ v, e = .returned v) ∧ ((∃ k, E k ∧ J k W') ∨ Jx W')

/-- How a round's body is left. -/
def roundTo (Z : Nat → Prop) (B : Nat) (I : Nat → World → Prop) (Ix : World → Prop) (k : Nat) (W : World) : Exit → Act → World → Prop
  | .normal, _, W' => KeepsFrom B W W' ∧ Keeps Z W W' ∧ I (k + 1) W'
  | .ret, _, W' => KeepsFrom B W W' ∧ Ix W'
  | _, _, _ => False

variable {F : Fence} {n : Nat} {P : Program}

theorem wpIn_rounds {g : Operand} {ps : Array Tmp} {assign body : Code} {Q : Exit → Act → World → Prop} {a : Act} {w : World}
    (hro : F.round = none) (h1 : 1 ≤ n) {gf : Nat} {lb : Array Value} (hg : a.eval g = .func (.func gf) #[] lb) (hFg : F.fn gf) (eg : ∀ args w, (callFunc gf args).run P w = .ok (.enter gf args) w)
    {enc : Nat → Array Value} {Z E : Nat → Prop} {N : Nat} (hit : Rounds F (n - 1) P gf lb enc Z E N w) (hps : ∀ k, (enc k).size = ps.size)
    (I : Nat → World → Prop) (Ix : World → Prop) (hI : ∀ k, Low w.heap.size (I k)) (hIx : Low w.heap.size Ix) (h0 : I 0 w)
    (Ax : Nat → Act → World → Prop) (hAx : ∀ k a' W o, Ax k a' W → Ax k a' (W.putObj (w.heap.size + 1) o))
    (hassign : ∀ (l k : Nat) (W : World) (K : Act → World → Prop), w.heap.size + 2 ≤ W.heap.size → I k W → k < N → (∀ a' W', Below W.heap.size W W' → Ax k a' W' → K a' W') →
      assign.wpIn (F.inRound l) (n - 1 - 1) P (Exit.then K (fun _ _ _ => False)) { tmps := (ps.zip (enc k)).foldl (fun t (p, v) => t.setIfInBounds p v) a.tmps, defers := [] } W)
    (hbody : ∀ (l k : Nat) (a' : Act) (W : World), I k W → k < N → Ax k a' W → body.wpIn (F.inRound l) (n - 1 - 1) P (roundTo Z w.heap.size I Ix k W) a' W)
    (hdone : ∀ (D k : Nat) (W : World), w.heap.size ≤ D → E k → I k W → W.heap[D]? = some (.deferred (some [])) → Q .normal { a with defers := { target := .collected D, args := #[] } :: a.defers } W)
    (hstop : ∀ (D : Nat) (W : World), w.heap.size ≤ D → Ix W → W.heap[D]? = some (.deferred (some [])) → Code.ret.wpIn F n P Q { a with defers := { target := .collected D, args := #[] } :: a.defers } W) :
    (Code.rangeFunc g ps assign body).wpIn F n P Q a w := by
  refine wpIn_rangeFunc (fun fn hfn => ?_)
  rw [hro]
  obtain ⟨rec, hrec⟩ : ∃ rec : LoopState → Option Code → Loop, rec = fun st pe => { state := st, pending := pe, fn, tmps := a.tmps, params := ps, assign, body, defers := w.heap.size } := ⟨_, rfl⟩
  obtain ⟨W1, hW1⟩ : ∃ W1, (w.alloc (.deferred (some []))).alloc (.loop (rec .ready none)) = W1 := ⟨_, rfl⟩
  have hs1 : W1.heap.size = w.heap.size + 2 := by rw [← hW1]; simp
  have hb1 : Below w.heap.size w W1 := by rw [← hW1]; exact ((Below.refl _ w).alloc (Nat.le_refl _) _).alloc (by simp) _
  have hL1 : W1.heap[w.heap.size + 1]? = some (.loop (rec .ready none)) := by
    rw [← hW1]
    have := World.alloc_heap_new (w.alloc (.deferred (some []))) (.loop (rec .ready none))
    rwa [World.size_alloc] at this
  have hD1 : W1.heap[w.heap.size]? = some (.deferred (some [])) := by
    rw [← hW1]
    exact (Below.heap_alloc _ _ _ (by simp)).trans (World.alloc_heap_new w _)
  refine ⟨w.heap.size + 1, [{ target := .collected w.heap.size, args := #[] }], W1, { target := .fn (.func gf) lb, args := #[.func (.yield (w.heap.size + 1)) #[] #[]] }, W1, gf, #[.func (.yield (w.heap.size + 1)) #[] #[]] ++ lb, W1, ?_, ?_, ?_, ?_, fun _ => h1, ?_⟩
  · rw [← hW1, hrec]
    exact run_enterLoop_outer _ _ _ _ _
  · simp only [resolve, hg]
    simp [go_sem]
  · intro f' hf'
    simp [Target.leads] at hf'
    subst hf'
    exact hFg
  · simp [invoke, go_sem, eg]
  · refine (hit (w.heap.size + 1)
      (fun k W => I k W ∧ W.heap[w.heap.size + 1]? = some (.loop (rec .ready none)) ∧ W.heap[w.heap.size]? = some (.deferred (some [])))
      (fun W => Ix W ∧ W.heap[w.heap.size + 1]? = some (.loop (rec .done (some .ret))) ∧ W.heap[w.heap.size]? = some (.deferred (some [])))
      W1 hb1 (by omega) (fun k => ((hI k).mono (by omega)).and ((low_block (by omega)).and (low_block (by omega)))) ((hIx.mono (by omega)).and ((low_block (by omega)).and (low_block (by omega)))) ?_ ⟨hI 0 _ _ h0 hb1, hL1, hD1⟩).mono ?_
    · rintro k W hk ⟨hi, hl, hd⟩
      have hlt : w.heap.size + 1 < W.heap.size := (Array.getElem?_eq_some_iff.1 hl).1
      have hy := run_yield (P := P) (args := enc k) hl (by rw [hrec]; exact hps k)
      rw [hrec] at hy
      refine ⟨fn, _, assign, body, hy, roundIn_of_wpIn hfn (hassign _ k W _ (by omega) hi hk ?_)⟩
      intro a' Wa hba hax
      have hla := (hba.block _ hlt).trans hl
      have hda := (hba.block _ (by omega)).trans hd
      have hia := hI k _ _ hi (hba.mono (by omega))
      have hlta : w.heap.size + 1 < Wa.heap.size := by have := hba.size; omega
      refine ⟨_, run_beginRound hla (by rw [hrec]), ?_⟩
      obtain ⟨Wb, hWb⟩ : ∃ Wb, Wa.putObj (w.heap.size + 1) (.loop { rec .ready none with state := .busy }) = Wb := ⟨_, rfl⟩
      rw [hWb]
      have hlb : Wb.heap[w.heap.size + 1]? = some (.loop { rec .ready none with state := .busy }) := by rw [← hWb]; exact World.putObj_heap_same hlta
      have hdb : Wb.heap[w.heap.size]? = some (.deferred (some [])) := by rw [← hWb]; exact (World.putObj_heap_other (by omega)).trans hda
      have hib : I k Wb := by rw [← hWb]; exact low_put (hI k) (by omega) hia _
      have hab : Ax k a' Wb := by rw [← hWb]; exact hAx _ _ _ _ hax
      have hkb : Keeps (fun b => Z b ∨ w.heap.size ≤ b ∧ b < w.heap.size + 2) W Wb := by
        rw [← hWb]
        exact (Keeps.of_below hba).trans_ (keeps_put (.inr ⟨by omega, by omega⟩) _ _)
      clear hy hax hia
      refine wpIn_mono (hbody _ k a' Wb hib hk hab) ?_
      have fin : ∀ (jump : Option Code) (W3 : World), KeepsFrom w.heap.size Wb W3 →
          (Instr.endRound (w.heap.size + 1) jump).run P W3 = .ok (.bool jump.isNone) (W3.putObj (w.heap.size + 1) (.loop (rec (if jump.isNone then .ready else .done) jump))) ∧
          (W3.putObj (w.heap.size + 1) (.loop (rec (if jump.isNone then .ready else .done) jump))).heap[w.heap.size + 1]? = some (.loop (rec (if jump.isNone then .ready else .done) jump)) ∧
          (W3.putObj (w.heap.size + 1) (.loop (rec (if jump.isNone then .ready else .done) jump))).heap[w.heap.size]? = some (.deferred (some [])) := fun jump W3 hk3 => by
        have hl3 := hk3.same _ _ (by omega) hlb rfl
        have h := run_endRound (P := P) jump hl3
        rw [hrec] at h ⊢
        exact ⟨h, World.putObj_heap_same (Array.getElem?_eq_some_iff.1 hl3).1, (World.putObj_heap_other (by omega)).trans (hk3.same _ _ (Nat.le_refl _) hdb rfl)⟩
      rintro e a3 W3 hp
      cases e with
      | normal =>
        obtain ⟨q1, q2, q3⟩ := hp
        obtain ⟨h2, h3, h4⟩ := fin none W3 q1
        exact ⟨_, _, h2, .inl ⟨rfl, ⟨low_put (hI _) (by omega) q3 _, h3, h4⟩, (hkb.trans_ (q2.mono fun _ h _ => .inl h)).trans_ (keeps_put (.inr ⟨by omega, by omega⟩) _ _)⟩⟩
      | ret =>
        obtain ⟨q1, q3⟩ := hp
        obtain ⟨h2, h3, h4⟩ := fin (some .ret) W3 q1
        exact ⟨_, _, h2, .inr ⟨rfl, low_put hIx (by omega) q3 _, h3, h4⟩⟩
      | exit id => exact hp.elim
      | goto t => exact hp.elim
      | panic ch => exact hp.elim
      | outgrown => exact hp.elim
    · rintro e W2 ⟨⟨v, rfl⟩, (⟨k, hE, hi, hl, hd⟩ | ⟨hi, hl, hd⟩)⟩
      · have h := run_endLoop (P := P) hl (by rw [hrec]; simp)
        rw [hrec] at h
        exact ⟨none, _, h, hdone _ k _ (Nat.le_refl _) hE (low_put (hI _) (by omega) hi _) ((World.putObj_heap_other (by omega)).trans hd)⟩
      · have h := run_endLoop (P := P) hl (by rw [hrec]; simp)
        rw [hrec] at h
        exact ⟨some .ret, _, h, hstop _ _ (Nat.le_refl _) (low_put hIx (by omega) hi _) ((World.putObj_heap_other (by omega)).trans hd)⟩
end Go.Proofs.Ytkcilmnmbfbogaa
