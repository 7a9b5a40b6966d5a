/- Threads: Note, Call, Back. -/
import Derived.Test.YtclhlgeicfhdiaaThreadA
namespace Go.Proofs.Ytclhlgeicfhdiaa
set_option linter.unusedVariables false
set_option linter.unusedSimpArgs false
open Go.RowKit

theorem own_ne_own {w : World} {b1 b2 : Nat} {e1 e2 : TypeId} {s1 s2 n1 n2 : Nat} {v1 v2 : Value} {x1 x2 : List Value} (h1 : w.ownsRow b1 e1 s1 v1 n1 x1) (h2 : w.ownsRow b2 e2 s2 v2 n2 x2) (hne : e1 ≠ e2) : ∀ k, v1.ownBlock = some k → v2.ownBlock ≠ some k := by
  intro k hk hk2
  rcases h1.2 with ⟨rfl, _⟩ | ⟨g, cap, cur, rfl, _, hh, _⟩
  · simp [Value.ownBlock] at hk
  · have e : g = k := by simpa [Value.ownBlock] using hk
    subst e
    exact own_ne_blk h2 (t := e1) (cs := cur) hh hne.symm hk2
theorem Keeps.of_grown {w w' : World} {row : Option Nat} (hg : w.grownBy w' row) : Keeps (fun b => row = some b) w w' := (Keeps.refl _ w).grown hg fun k hk _ => hk
theorem len8 {l : List Int} (h : l.length = 8) : ∃ a0 a1 a2 a3 a4 a5 a6 a7 : Int, l = [a0, a1, a2, a3, a4, a5, a6, a7] := by
  match l, h with
  | [a0, a1, a2, a3, a4, a5, a6, a7], _ => exact ⟨a0, a1, a2, a3, a4, a5, a6, a7, rfl⟩
def Th.note (t : Th) (x : Int) : Th := { t with hs := t.hs ++ [x] }
theorem thc_set12 {t : Th} {L : TL} (h : t.told.length = 8) (x : Int) (A : Option Addr) (d : Nat) :
    (thc t L).toArray.setIfInBounds 12 (.slice A (t.hs.length + 1) d) = (thc (t.note x) { L with B := A, d := d }).toArray := by
  obtain ⟨told, owns, st, ki, frames, hs⟩ := t
  obtain ⟨a0, a1, a2, a3, a4, a5, a6, a7, rfl⟩ := len8 h
  simp [thc, Th.note]

theorem note_goes {w w8 : World} {base p : Nat} {t : Th} {L : TL} (h : TBox w base p t L) (o : Obj) (x : Int) {A : Option Addr} {d : Nat} (hbase : base ≤ w.heap.size)
    (own : w8.ownsRow base 33 1 (.slice A (t.hs.length + 1) d) (t.hs.length + 1) (t.hs.map uc ++ [.int .u64 x])) (hg : (w.alloc o).grownBy w8 (Value.slice L.B t.hs.length L.d).ownBlock)
    (ho : (Value.slice A (t.hs.length + 1) d).ownBlock = (Value.slice L.B t.hs.length L.d).ownBlock ∨ (Value.slice A (t.hs.length + 1) d).ownBlock = some (w.heap.size + 1)) :
    Goes base p w L (t.note x) (w8.setCell ⟨p, 12, none⟩ (.slice A (t.hs.length + 1) d)) := by
  have h1 := h.below (bnew (brefl w) o)
  have hk := Keeps.of_grown hg
  have np : (Value.slice L.B t.hs.length L.d).ownBlock ≠ some p := own_ne_blk h1.hs h1.blk (by decide)
  have hB : ∀ ad, L.B = some ad → (Value.slice L.B t.hs.length L.d).ownBlock = some ad.block := fun ad e => by
    have := (own_block (A := L.B) (c := L.d) h1.hs ad e).1
    rw [e] at this ⊢
    exact this
  have hb8 : Blk w8 p 45 (thc t L).toArray := hk.blk h1.blk np
  have hfs8 := hk.own h1.fs fun k e => own_ne_own h1.fs h1.hs (by decide) k e
  have nfs : ∀ k, (Value.slice L.A t.frames.length L.c).ownBlock = some k → k ≠ p := fun k e q => own_ne_blk hfs8 hb8 (by decide) (by rw [e, q])
  have nown : (Value.slice A (t.hs.length + 1) d).ownBlock ≠ some p := own_ne_blk own hb8 (by decide)
  have kp : Keeps (fun b => b = p) w8 (w8.setCell ⟨p, 12, none⟩ (.slice A (t.hs.length + 1) d)) := keepq_set (Keeps.refl _ _)
  refine ⟨{ L with B := A, d := d }, ⟨?_, kp.own hfs8 nfs, ?_, fun i f hi => ?_, h.nd, h.lo, h.t8, h.r16⟩, ?_, fun b hb => ?_⟩
  · rw [← thc_set12 h.t8]
    exact hb8.set_ 12 _
  · have e : ((t.note x).hs.map uc) = t.hs.map uc ++ [.int .u64 x] := by simp [Th.note, uc]
    have e2 : (t.note x).hs.length = t.hs.length + 1 := by simp [Th.note]
    rw [e, e2]
    exact kp.own own fun k e q => nown (by rw [e, q])
  · obtain ⟨q, h2, h3⟩ := h1.fr i f hi
    have h4 : Blk w8 q 40 (frc f).toArray := hk.blk h3 (own_ne_blk h1.hs h3 (by decide))
    exact ⟨q, h2, kp.blk h4 (h4.ne_ hb8 (by decide))⟩
  · refine ((Keeps.refl (L.S p) w).alloc o |>.grown hg fun k e _ => ?_).setCell (fun _ => .inl rfl) _
    cases hA : L.B with
    | none => rw [hA] at e; simp [Value.ownBlock] at e
    | some ad =>
      have := hB ad hA
      rw [this] at e
      exact .inr (.inr (.inr ⟨ad, hA, by simpa using e⟩))
  · have hsz : w.heap.size ≤ w8.heap.size := by have := hg.size; simp at this; omega
    rcases hb with hb | hb | hb | ⟨ad, hb1, hb2⟩
    · exact .inl (.inl hb)
    · exact .inl (.inr (.inl hb))
    · exact .inl (.inr (.inr (.inl hb)))
    · dsimp only at hb1
      subst hb1
      have h2 := own_block own ad rfl
      rcases ho with ho | ho
      · rw [h2.1] at ho
        cases hA : L.B with
        | none => rw [hA] at ho; simp [Value.ownBlock] at ho
        | some ad' =>
          have h3 := hB ad' hA
          rw [h3] at ho
          exact .inl (.inr (.inr (.inr ⟨ad', hA, by rw [← hb2]; simpa using ho.symm⟩)))
      · rw [h2.1] at ho
        have h3 : ad.block = w.heap.size + 1 := by simpa using ho
        have h4 := h2.2.2
        refine .inr ⟨by omega, ?_⟩
        rw [← hb2]
        simpa [World.setCell] using h4
end Go.Proofs.Ytclhlgeicfhdiaa
