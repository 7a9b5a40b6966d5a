/- Threads: the thread in memory. -/
import Derived.Test.YtclhlgeicfhdiaaCopy
import Derived.Test.YtclhlgeicfhdiaaPlanT
import Derived.Test.YtclhlgeicfhdiaaProg
namespace Go.Proofs.Ytclhlgeicfhdiaa
set_option linter.unusedVariables false
set_option linter.unusedSimpArgs false
open Go.RowKit

/-- A frame; a thread. -/
structure Fr where
  (fn at_ : Int)
  r : List Int
structure Th where
  told : List Int
  owns : Int
  (st ki : Bool)
  frames : List Fr
  hs : List Int
def frc (f : Fr) : List Value := .int .i64 f.fn :: .int .i64 f.at_ :: f.r.map uc
/-- Where a thread's parts lie. -/
structure TL where
  ptrs : List Nat
  A : Option Addr
  c : Nat
  B : Option Addr
  d : Nat
def thc (t : Th) (L : TL) : List Value := t.told.map uc ++ [.int .i64 t.owns, .bool t.st, .bool t.ki, .slice L.A t.frames.length L.c, .slice L.B t.hs.length L.d]
def TL.S (L : TL) (p : Nat) : Nat → Prop := fun b => b = p ∨ b ∈ L.ptrs ∨ (∃ ad, L.A = some ad ∧ ad.block = b) ∨ (∃ ad, L.B = some ad ∧ ad.block = b)
structure TBox (w : World) (base p : Nat) (t : Th) (L : TL) : Prop where
  blk : Blk w p 45 (thc t L).toArray
  fs : w.ownsRow base 35 1 (.slice L.A t.frames.length L.c) t.frames.length (L.ptrs.map fun q => .pointer (some ⟨q, 0, none⟩))
  hs : w.ownsRow base 33 1 (.slice L.B t.hs.length L.d) t.hs.length (t.hs.map uc)
  fr : ∀ (i : Nat) (f : Fr), t.frames[i]? = some f → ∃ q : Nat, L.ptrs[i]? = some q ∧ Blk w q 40 (frc f).toArray
  nd : L.ptrs.Nodup
  lo : base ≤ p ∧ ∀ q : Nat, q ∈ L.ptrs → base ≤ q
  t8 : t.told.length = 8
  r16 : ∀ f : Fr, f ∈ t.frames → f.r.length = 16

section
variable {w w' : World} {base p : Nat} {t : Th} {L : TL}
theorem thc_hi (h : t.told.length = 8) (j : Nat) : (thc t L).toArray[8 + j]? = ([.int .i64 t.owns, .bool t.st, .bool t.ki, .slice L.A t.frames.length L.c, .slice L.B t.hs.length L.d] : List Value)[j]? := by
  unfold thc
  rw [List.getElem?_toArray, List.getElem?_append_right (by simp [h])]
  simp [h]
theorem TBox.c8 (h : TBox w base p t L) : w.cell? ⟨p, 8, none⟩ = some (.int .i64 t.owns) := (h.blk.cell 8).trans (thc_hi h.t8 0)
theorem TBox.c9 (h : TBox w base p t L) : w.cell? ⟨p, 9, none⟩ = some (.bool t.st) := (h.blk.cell 9).trans (thc_hi h.t8 1)
theorem TBox.c10 (h : TBox w base p t L) : w.cell? ⟨p, 10, none⟩ = some (.bool t.ki) := (h.blk.cell 10).trans (thc_hi h.t8 2)
theorem TBox.c11 (h : TBox w base p t L) : w.cell? ⟨p, 11, none⟩ = some (.slice L.A t.frames.length L.c) := (h.blk.cell 11).trans (thc_hi h.t8 3)
theorem TBox.c12 (h : TBox w base p t L) : w.cell? ⟨p, 12, none⟩ = some (.slice L.B t.hs.length L.d) := (h.blk.cell 12).trans (thc_hi h.t8 4)
theorem TBox.told_ (h : TBox w base p t L) {k : Nat} {x : Int} (hx : t.told[k]? = some x) : w.cell? ⟨p, k, none⟩ = some (.int .u64 x) := by
  rw [h.blk.cell]
  have hk := (List.getElem?_eq_some_iff.1 hx).1
  unfold thc
  rw [List.getElem?_toArray, List.getElem?_append_left (by simpa using hk)]
  simp [hx, uc]
theorem TBox.below (h : TBox w base p t L) (hb : Below w.heap.size w w') : TBox w' base p t L :=
  ⟨h.blk.below_ hb, own_below h.fs hb, own_below h.hs hb, fun i f hi => by obtain ⟨q, h1, h2⟩ := h.fr i f hi; exact ⟨q, h1, h2.below_ hb⟩, h.nd, h.lo, h.t8, h.r16⟩
theorem TBox.len (h : TBox w base p t L) : L.ptrs.length = t.frames.length := by
  have := h.fs.1
  simpa using this
theorem TBox.top_ (h : TBox w base p t L) {i : Nat} {f : Fr} (hi : t.frames[i]? = some f) : ∃ q, L.ptrs[i]? = some q ∧ Blk w q 40 (frc f).toArray := h.fr i f hi
/-- A thread apart from the blocks of S. -/
theorem TBox.keeps {S : Nat → Prop} (h : TBox w base p t L) (hk : Keeps S w w') (hn : ∀ b, L.S p b → ¬ S b) : TBox w' base p t L := by
  refine ⟨hk.blk h.blk (hn _ (.inl rfl)), hk.own h.fs fun k e => hn _ (.inr (.inr (.inl ?_))), hk.own h.hs fun k e => hn _ (.inr (.inr (.inr ?_))), fun i f hi => ?_, h.nd, h.lo, h.t8, h.r16⟩
  · cases hA : L.A with
    | none => rw [hA] at e; simp [Value.ownBlock] at e
    | some ad =>
      have h1 := h.fs
      rw [hA] at e h1
      have := (own_block h1 ad rfl).1
      rw [this] at e
      exact ⟨ad, rfl, by simpa using e⟩
  · cases hA : L.B with
    | none => rw [hA] at e; simp [Value.ownBlock] at e
    | some ad =>
      have h1 := h.hs
      rw [hA] at e h1
      have := (own_block h1 ad rfl).1
      rw [this] at e
      exact ⟨ad, rfl, by simpa using e⟩
  · obtain ⟨q, h1, h2⟩ := h.fr i f hi
    exact ⟨q, h1, hk.blk h2 (hn _ (.inr (.inl (List.mem_of_getElem? h1))))⟩
end
/-- What a call of a thread leaves. -/
def Goes (base p : Nat) (w : World) (L : TL) (t' : Th) (w' : World) : Prop := ∃ L', TBox w' base p t' L' ∧ Keeps (L.S p) w w' ∧ ∀ b, L'.S p b → L.S p b ∨ (w.heap.size ≤ b ∧ b < w'.heap.size)
def PT_ (p : Nat) : Value := .pointer (some ⟨p, 0, none⟩)
set_option maxHeartbeats 4000000 in
set_option maxRecDepth 100000 in
theorem deep_any {w : World} {base p : Nat} {t : Th} {L : TL} (h : TBox w base p t L) : Calls Try.prog 10 #[.pointer (some ⟨p, 0, none⟩)] w fun e w' => e = .returned (.int .i64 (t.frames.length : Int)) ∧ w = w' := by
  have k := h.c11
  clear h
  generalize t.frames.length = n at *
  go_enter Try.func10, Try.ntmps10
  go_wp2
  go_ret
  exact ⟨rfl, rfl⟩
theorem deep_nil (w : World) : Calls Try.prog 10 #[.pointer none] w fun e w' => e = .returned (.int .i64 0) ∧ w = w' := by
  go_enter Try.func10, Try.ntmps10
  go_wp2
  go_ret
  exact ⟨rfl, rfl⟩
theorem top_nil (w : World) : Calls Try.prog 13 #[.pointer none] w fun e w' => e = .returned (.pointer none) ∧ w = w' := by
  go_enter Try.func13, Try.ntmps13
  go_wp2_with (go_at_call 10; refine (deep_nil _).mono ?_; rintro e w1 ⟨rfl, rfl⟩)
  go_ret
  exact ⟨rfl, rfl⟩
set_option maxHeartbeats 4000000 in
set_option maxRecDepth 100000 in
theorem top_none {w : World} {base p : Nat} {t : Th} {L : TL} (h : TBox w base p t L) (hn : t.frames = []) : Calls Try.prog 13 #[.pointer (some ⟨p, 0, none⟩)] w fun e w' => e = .returned (.pointer none) ∧ w = w' := by
  have hd := deep_any h
  rw [hn] at hd
  clear h hn
  go_enter Try.func13, Try.ntmps13
  go_wp2_with (go_at_call 10; refine hd.mono ?_; rintro e w1 ⟨rfl, rfl⟩)
  go_ret
  exact ⟨rfl, rfl⟩
set_option maxHeartbeats 4000000 in
set_option maxRecDepth 100000 in
theorem top_some {w : World} {base p : Nat} {t : Th} {L : TL} (h : TBox w base p t L) {n q : Nat} (hn : t.frames.length = n + 1) (hq : L.ptrs[n]? = some q) (hl : n ≤ 1000000) : Calls Try.prog 13 #[.pointer (some ⟨p, 0, none⟩)] w fun e w' => e = .returned (.pointer (some ⟨q, 0, none⟩)) ∧ w = w' := by
  have hd := deep_any h
  have k := h.c11
  obtain ⟨g, hA, hg1, hg2, _, hc⟩ := own_form1 h.fs (by omega)
  have c := hc n (.pointer (some ⟨q, 0, none⟩)) (by simp [hq])
  rw [hn] at hd k
  rw [hA] at k
  have t0 : (((n : Int) + 1) == 0) = false := by simp; omega
  have t1 : (((n + 1 : Nat) : Int) == 0) = false := by simp; omega
  clear h hn hq hc hA
  go_enter Try.func13, Try.ntmps13
  go_wp2_with (go_at_call 10; refine hd.mono ?_; rintro e w1 ⟨rfl, rfl⟩)
  go_ret
  exact ⟨rfl, rfl⟩
end Go.Proofs.Ytclhlgeicfhdiaa
