/- Threads: what Call, Back and a touch of the top frame leave in memory. -/
import Derived.Test.YtclhlgeicfhdiaaThreadB
namespace Go.Proofs.Ytclhlgeicfhdiaa
set_option linter.unusedVariables false
set_option linter.unusedSimpArgs false
open Go.RowKit

theorem own_take1 {w : World} {base : Nat} {e : TypeId} {n c k : Nat} {A : Option Addr} {xs : List Value} (h : w.ownsRow base e 1 (.slice A n c) n xs) (hk : k ≤ n) : w.ownsRow base e 1 (.slice A k c) k (xs.take k) := by
  have h1 := h.1
  rcases h.2 with ⟨hv, h0⟩ | ⟨g, cap, cur, hv, hg, hh, hn, hm, hs, hx⟩
  · obtain rfl : k = 0 := by omega
    cases hv
    exact ⟨by simp, .inl ⟨rfl, rfl⟩⟩
  · cases hv
    refine ⟨by rw [List.length_take]; omega, .inr ⟨g, c, cur, rfl, hg, hh, by omega, hm, hs, ?_⟩⟩
    rw [← hx, List.take_take]
    congr 1
    omega
def Th.call (t : Th) (f : Fr) : Th := { t with frames := t.frames ++ [f] }
def Th.back (t : Th) (l : List Int) : Th := { t with frames := t.frames.take (t.frames.length - 1), told := l }
def Th.touch (t : Th) (i : Nat) (f : Fr) : Th := { t with frames := t.frames.set i f }
theorem thc_set11 {t : Th} {L : TL} (h : t.told.length = 8) (fs : List Fr) (A : Option Addr) (c n : Nat) (ps : List Nat) (hn : fs.length = n) :
    (thc t L).toArray.setIfInBounds 11 (.slice A n c) = (thc { t with frames := fs } { L with ptrs := ps, A := A, c := c }).toArray := by
  obtain ⟨told, owns, st, ki, frames, hs⟩ := t
  obtain ⟨a0, a1, a2, a3, a4, a5, a6, a7, rfl⟩ := len8 h
  simp [thc, hn]
theorem blk_of_own {w : World} {base : Nat} {e : TypeId} {n c : Nat} {A : Option Addr} {xs : List Value} (h : w.ownsRow base e 1 (.slice A n c) n xs) : ∀ k, (Value.slice A n c).ownBlock = some k → ∃ ad, A = some ad ∧ ad.block = k := by
  intro k hk
  cases hA : A with
  | none => rw [hA] at hk; simp [Value.ownBlock] at hk
  | some ad =>
    have := (own_block h ad hA).1
    rw [this] at hk
    exact ⟨ad, rfl, by simpa using hk⟩
theorem own_blk_of {w : World} {base : Nat} {e : TypeId} {n c : Nat} {A : Option Addr} {xs : List Value} (h : w.ownsRow base e 1 (.slice A n c) n xs) {ad : Addr} (hA : A = some ad) : (Value.slice A n c).ownBlock = some ad.block := (own_block h ad hA).1

theorem call_goes {w w2 w8 : World} {base p : Nat} {t : Th} {L : TL} (h : TBox w base p t L) (f : Fr) (hf : f.r.length = 16) (o : Obj) {A : Option Addr} {c : Nat} (hbase : base ≤ w.heap.size)
    (hb2 : Below w.heap.size w w2) (hq : Blk w2 w.heap.size 40 (frc f).toArray)
    (own : w8.ownsRow base 35 1 (.slice A (t.frames.length + 1) c) (t.frames.length + 1) ((L.ptrs.map fun q => Value.pointer (some ⟨q, 0, none⟩)) ++ [.pointer (some ⟨w.heap.size, 0, none⟩)]))
    (hg : (w2.alloc o).grownBy w8 (Value.slice L.A t.frames.length L.c).ownBlock)
    (ho : (Value.slice A (t.frames.length + 1) c).ownBlock = (Value.slice L.A t.frames.length L.c).ownBlock ∨ (Value.slice A (t.frames.length + 1) c).ownBlock = some (w2.heap.size + 1)) :
    Goes base p w L (t.call f) (w8.setCell ⟨p, 11, none⟩ (.slice A (t.frames.length + 1) c)) := by
  have h0 := h.below hb2
  have h1 := h0.below (bnew (brefl w2) o)
  have hq1 := hq.alloc o
  have hk := Keeps.of_grown hg
  have hb8 : Blk w8 p 45 (thc t L).toArray := hk.blk h1.blk (own_ne_blk h1.fs h1.blk (by decide))
  have hhs8 := hk.own h1.hs fun k e => own_ne_own h1.hs h1.fs (by decide) k e
  have nhs : ∀ k, (Value.slice L.B t.hs.length L.d).ownBlock = some k → k ≠ p := fun k e q => own_ne_blk hhs8 hb8 (by decide) (by rw [e, q])
  have nown : (Value.slice A (t.frames.length + 1) c).ownBlock ≠ some p := own_ne_blk own hb8 (by decide)
  have kp : Keeps (fun b => b = p) w8 (w8.setCell ⟨p, 11, none⟩ (.slice A (t.frames.length + 1) c)) := keepq_set (Keeps.refl _ _)
  have hlen := h.len
  have hsz : w.heap.size ≤ w8.heap.size := by have := hg.size; have h9 := hb2.size; simp at this; omega
  have hqlt : w.heap.size < w8.heap.size := (hk.blk hq1 (own_ne_blk h1.fs hq1 (by decide))).lt
  have hlt : ∀ q, q ∈ L.ptrs → q < w.heap.size := fun q hq => by
    obtain ⟨i, hi⟩ := List.mem_iff_getElem?.1 hq
    have hil := (List.getElem?_eq_some_iff.1 hi).1
    obtain ⟨q', h2, h3⟩ := h.fr i _ (List.getElem?_eq_getElem (by omega))
    rw [hi] at h2
    cases h2
    exact h3.lt
  refine ⟨{ L with ptrs := L.ptrs ++ [w.heap.size], A := A, c := c }, ⟨?_, ?_, kp.own hhs8 nhs, fun i g hi => ?_, ?_, ⟨h.lo.1, ?_⟩, h.t8, ?_⟩, ?_, fun b hb => ?_⟩
  · have := hb8.set_ 11 (.slice A (t.frames.length + 1) c)
    rw [thc_set11 h.t8 (t.frames ++ [f]) A c (t.frames.length + 1) (L.ptrs ++ [w.heap.size]) (by simp)] at this
    exact this
  · have e2 : (t.call f).frames.length = t.frames.length + 1 := by simp [Th.call]
    rw [e2]
    have := kp.own own fun k e q => nown (by rw [e, q])
    rw [List.map_append]
    exact this
  · by_cases hi' : i < t.frames.length
    · have hi2 : t.frames[i]? = some g := by
        have : (t.frames ++ [f])[i]? = some g := hi
        rwa [List.getElem?_append_left hi'] at this
      obtain ⟨q, h2, h3⟩ := h1.fr i g hi2
      have h4 : Blk w8 q 40 (frc g).toArray := hk.blk h3 (own_ne_blk h1.fs h3 (by decide))
      refine ⟨q, ?_, kp.blk h4 (h4.ne_ hb8 (by decide))⟩
      show (L.ptrs ++ [w.heap.size])[i]? = some q
      rw [List.getElem?_append_left (by omega)]
      exact h2
    · have hi2 : (t.frames ++ [f])[i]? = some g := hi
      have hie : i = t.frames.length := by
        have := (List.getElem?_eq_some_iff.1 hi2).1
        simp at this
        omega
      subst hie
      rw [List.getElem?_append_right (Nat.le_refl _)] at hi2
      simp at hi2
      subst hi2
      have h4 : Blk w8 w.heap.size 40 (frc f).toArray := hk.blk hq1 (own_ne_blk h1.fs hq1 (by decide))
      refine ⟨w.heap.size, ?_, kp.blk h4 (h4.ne_ hb8 (by decide))⟩
      show (L.ptrs ++ [w.heap.size])[t.frames.length]? = _
      rw [List.getElem?_append_right (by omega), hlen]
      simp
  · show (L.ptrs ++ [w.heap.size]).Nodup
    rw [List.nodup_append]
    refine ⟨h.nd, by simp, ?_⟩
    intro a ha b hb e
    have := hlt a ha
    simp at hb
    omega
  · intro q hq'
    have hq' : q ∈ L.ptrs ++ [w.heap.size] := hq'
    rcases List.mem_append.1 hq' with hq' | hq'
    · exact h.lo.2 q hq'
    · simp at hq'; omega
  · intro g hg'
    have hg' : g ∈ t.frames ++ [f] := hg'
    rcases List.mem_append.1 hg' with hg' | hg'
    · exact h.r16 g hg'
    · simp at hg'; rw [hg']; exact hf
  · refine ((Keeps.of_below hb2 : Keeps (L.S p) w w2).alloc o |>.grown hg fun k e _ => ?_).setCell (fun _ => .inl rfl) _
    obtain ⟨ad, h2, h3⟩ := blk_of_own h.fs k e
    exact .inr (.inr (.inl ⟨ad, h2, h3⟩))
  · rcases hb with hb | hb | ⟨ad, hb1, hb2'⟩ | hb
    · exact .inl (.inl hb)
    · have hb : b ∈ L.ptrs ++ [w.heap.size] := hb
      rcases List.mem_append.1 hb with hb | hb
      · exact .inl (.inr (.inl hb))
      · simp at hb
        subst hb
        exact .inr ⟨Nat.le_refl _, by simpa [World.setCell] using hqlt⟩
    · dsimp only at hb1
      have h2 := own_blk_of own hb1
      rw [h2] at ho
      rcases ho with ho | ho
      · obtain ⟨ad', h3, h4⟩ := blk_of_own h.fs _ ho.symm
        exact .inl (.inr (.inr (.inl ⟨ad', h3, by rw [← hb2', h4]⟩)))
      · have h3 : ad.block = w2.heap.size + 1 := by simpa using ho
        have h4 := (own_block own ad hb1).2.2
        have h5 := hb2.size
        refine .inr ⟨by omega, ?_⟩
        rw [← hb2']
        simpa [World.setCell] using h4
    · exact .inl (.inr (.inr (.inr hb)))

theorem Blk.eight {w : World} {q : Nat} {t : TypeId} {cs : Array Value} (h : Blk w q t cs) (v0 v1 v2 v3 v4 v5 v6 v7 : Value) :
    Blk ((((((((w.setCell ⟨q, 0, none⟩ v0).setCell ⟨q, 1, none⟩ v1).setCell ⟨q, 2, none⟩ v2).setCell ⟨q, 3, none⟩ v3).setCell ⟨q, 4, none⟩ v4).setCell ⟨q, 5, none⟩ v5).setCell ⟨q, 6, none⟩ v6).setCell ⟨q, 7, none⟩ v7) q t ((((((((cs.setIfInBounds 0 v0).setIfInBounds 1 v1).setIfInBounds 2 v2).setIfInBounds 3 v3).setIfInBounds 4 v4).setIfInBounds 5 v5).setIfInBounds 6 v6).setIfInBounds 7 v7) :=
  (((((((h.set_ 0 v0).set_ 1 v1).set_ 2 v2).set_ 3 v3).set_ 4 v4).set_ 5 v5).set_ 6 v6).set_ 7 v7
theorem keeps_eight (w : World) (q : Nat) (v0 v1 v2 v3 v4 v5 v6 v7 : Value) : Keeps (fun b => b = q) w ((((((((w.setCell ⟨q, 0, none⟩ v0).setCell ⟨q, 1, none⟩ v1).setCell ⟨q, 2, none⟩ v2).setCell ⟨q, 3, none⟩ v3).setCell ⟨q, 4, none⟩ v4).setCell ⟨q, 5, none⟩ v5).setCell ⟨q, 6, none⟩ v6).setCell ⟨q, 7, none⟩ v7) :=
  keepq_set (keepq_set (keepq_set (keepq_set (keepq_set (keepq_set (keepq_set (keepq_set (Keeps.refl _ _))))))))
theorem thc_set8 {t : Th} {L : TL} (h : t.told.length = 8) (b0 b1 b2 b3 b4 b5 b6 b7 : Int) :
    ((((((((thc t L).toArray.setIfInBounds 0 (.int .u64 b0)).setIfInBounds 1 (.int .u64 b1)).setIfInBounds 2 (.int .u64 b2)).setIfInBounds 3 (.int .u64 b3)).setIfInBounds 4 (.int .u64 b4)).setIfInBounds 5 (.int .u64 b5)).setIfInBounds 6 (.int .u64 b6)).setIfInBounds 7 (.int .u64 b7) = (thc { t with told := [b0, b1, b2, b3, b4, b5, b6, b7] } L).toArray := by
  obtain ⟨told, owns, st, ki, frames, hs⟩ := t
  obtain ⟨a0, a1, a2, a3, a4, a5, a6, a7, rfl⟩ := len8 h
  simp [thc, uc]
theorem back_goes {w w1 w3 : World} {base p : Nat} {t : Th} {L : TL} (h : TBox w base p t L) (kp : Keeps (fun b => b = p) w w1) (hb1 : Blk w1 p 45 ((thc t L).toArray.setIfInBounds 11 (.slice L.A (t.frames.length - 1) L.c))) (o : Obj) (b0 b1 b2 b3 b4 b5 b6 b7 : Int)
    (hg : (w1.alloc o).grownBy w3 (some w1.heap.size)) :
    Goes base p w L (t.back [b0, b1, b2, b3, b4, b5, b6, b7]) ((((((((w3.setCell ⟨p, 0, none⟩ (.int .u64 b0)).setCell ⟨p, 1, none⟩ (.int .u64 b1)).setCell ⟨p, 2, none⟩ (.int .u64 b2)).setCell ⟨p, 3, none⟩ (.int .u64 b3)).setCell ⟨p, 4, none⟩ (.int .u64 b4)).setCell ⟨p, 5, none⟩ (.int .u64 b5)).setCell ⟨p, 6, none⟩ (.int .u64 b6)).setCell ⟨p, 7, none⟩ (.int .u64 b7)) := by
  have k3 : Keeps (fun b => b = p) w w3 := (kp.alloc o).grown hg fun k e hk => by cases e; have := kp.size; omega
  have hp := hb1.lt
  rw [thc_set11 h.t8 (t.frames.take (t.frames.length - 1)) L.A L.c (t.frames.length - 1) (L.ptrs.take (t.frames.length - 1)) (by simp)] at hb1
  have hb3 := (hb1.alloc o).grown hg (by intro e; cases e; omega)
  have hb9 := hb3.eight (.int .u64 b0) (.int .u64 b1) (.int .u64 b2) (.int .u64 b3) (.int .u64 b4) (.int .u64 b5) (.int .u64 b6) (.int .u64 b7)
  rw [thc_set8 (by exact h.t8)] at hb9
  have k9 := k3.trans_ (keeps_eight w3 p (.int .u64 b0) (.int .u64 b1) (.int .u64 b2) (.int .u64 b3) (.int .u64 b4) (.int .u64 b5) (.int .u64 b6) (.int .u64 b7))
  have nfs : ∀ k, (Value.slice L.A t.frames.length L.c).ownBlock = some k → k ≠ p := fun k e q => own_ne_blk h.fs h.blk (by decide) (by rw [e, q])
  have nhs : ∀ k, (Value.slice L.B t.hs.length L.d).ownBlock = some k → k ≠ p := fun k e q => own_ne_blk h.hs h.blk (by decide) (by rw [e, q])
  have hfs := own_take1 (k9.own h.fs nfs) (k := t.frames.length - 1) (by omega)
  have hlen := h.len
  refine ⟨{ L with ptrs := L.ptrs.take (t.frames.length - 1) }, ⟨hb9, ?_, k9.own h.hs nhs, fun i g hi => ?_, ?_, ⟨h.lo.1, fun q hq => h.lo.2 q (List.mem_of_mem_take hq)⟩, rfl, fun g hg' => h.r16 g (List.mem_of_mem_take hg')⟩, k9.mono fun _ e _ => .inl e, fun b hb => .inl ?_⟩
  · have e : (t.back [b0, b1, b2, b3, b4, b5, b6, b7]).frames.length = t.frames.length - 1 := by simp [Th.back]
    rw [e, List.map_take]
    exact hfs
  · have hi : (t.frames.take (t.frames.length - 1))[i]? = some g := hi
    have hil : i < t.frames.length - 1 := by
      have := (List.getElem?_eq_some_iff.1 hi).1
      simp at this
      omega
    rw [List.getElem?_take_of_lt hil] at hi
    obtain ⟨q, h2, h3⟩ := h.fr i g hi
    exact ⟨q, by show (L.ptrs.take (t.frames.length - 1))[i]? = some q; rw [List.getElem?_take_of_lt hil]; exact h2, k9.blk h3 (h3.ne_ h.blk (by decide))⟩
  · exact (List.take_sublist _ _).nodup h.nd
  · rcases hb with hb | hb | hb | hb
    · exact .inl hb
    · exact .inr (.inl (List.mem_of_mem_take hb))
    · exact .inr (.inr (.inl hb))
    · exact .inr (.inr (.inr hb))
theorem TBox.ptr_lt {w : World} {base p : Nat} {t : Th} {L : TL} (h : TBox w base p t L) {q : Nat} (hq : q ∈ L.ptrs) : q < w.heap.size := by
  have hlen := h.len
  obtain ⟨i, hi⟩ := List.mem_iff_getElem?.1 hq
  have hil := (List.getElem?_eq_some_iff.1 hi).1
  obtain ⟨q', h2, h3⟩ := h.fr i _ (List.getElem?_eq_getElem (by omega))
  rw [hi] at h2
  cases h2
  exact h3.lt
theorem TBox.S_lt {w : World} {base p : Nat} {t : Th} {L : TL} (h : TBox w base p t L) {b : Nat} (hb : L.S p b) : b < w.heap.size := by
  rcases hb with rfl | hb | ⟨ad, h1, rfl⟩ | ⟨ad, h1, rfl⟩
  · exact h.blk.lt
  · exact h.ptr_lt hb
  · exact (own_block h.fs ad h1).2.2
  · exact (own_block h.hs ad h1).2.2
theorem TBox.S_ge {w : World} {base p : Nat} {t : Th} {L : TL} (h : TBox w base p t L) {b : Nat} (hb : L.S p b) : base ≤ b := by
  rcases hb with rfl | hb | ⟨ad, h1, rfl⟩ | ⟨ad, h1, rfl⟩
  · exact h.lo.1
  · exact h.lo.2 b hb
  · exact (own_block h.fs ad h1).2.1
  · exact (own_block h.hs ad h1).2.1
theorem touch_goes {w w' : World} {base p : Nat} {t : Th} {L : TL} (h : TBox w base p t L) {i q : Nat} (hi : i < t.frames.length) (hq : L.ptrs[i]? = some q) (f : Fr) (hf : f.r.length = 16)
    (hk : Keeps (fun b => b = q) w w') (hb : Blk w' q 40 (frc f).toArray) : Goes base p w L (t.touch i f) w' := by
  obtain ⟨q', h2, h3⟩ := h.fr i _ (List.getElem?_eq_getElem hi)
  rw [hq] at h2
  cases h2
  have hlen := h.len
  refine ⟨L, ⟨?_, ?_, hk.own h.hs fun k e e2 => own_ne_blk h.hs h3 (by decide) (by subst e2; exact e), fun j g hj => ?_, h.nd, h.lo, h.t8, fun g hg => ?_⟩, hk.mono fun b e _ => e ▸ .inr (.inl (List.mem_of_getElem? hq)), fun b hb => .inl hb⟩
  · have := hk.blk h.blk (fun e => h3.ne_ h.blk (by decide) e.symm)
    simpa [thc, Th.touch] using this
  · have e : (t.touch i f).frames.length = t.frames.length := by simp [Th.touch]
    rw [e]
    exact hk.own h.fs fun k e e2 => own_ne_blk h.fs h3 (by decide) (by subst e2; exact e)
  · have hj : (t.frames.set i f)[j]? = some g := hj
    by_cases hij : i = j
    · subst hij
      rw [List.getElem?_set_self hi] at hj
      cases hj
      exact ⟨q, hq, hb⟩
    · rw [List.getElem?_set_ne hij] at hj
      obtain ⟨q2, h4, h5⟩ := h.fr j g hj
      refine ⟨q2, h4, hk.blk h5 ?_⟩
      intro e
      subst e
      have hl1 : i < L.ptrs.length := by omega
      have hl2 : j < L.ptrs.length := (List.getElem?_eq_some_iff.1 h4).1
      exact hij ((List.getElem?_inj hl1 h.nd).1 (hq.trans h4.symm))
  · rcases List.mem_or_eq_of_mem_set (by exact hg : g ∈ t.frames.set i f) with hg | hg
    · exact h.r16 g hg
    · rw [hg]; exact hf
end Go.Proofs.Ytclhlgeicfhdiaa
