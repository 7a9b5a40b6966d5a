/- A warden in memory: which spots it has, what it notes. -/
import Derived.Test.YtlnnnaefmgikpaaWarB
import Derived.StillTailTactics
import Derived.Deep.QuietTactic
import Derived.BigQuiet
import Derived.LoopTactic
import Derived.Deep.LoopGhost
namespace Go.Proofs.Ytlnnnaefmgikpaa
set_option linter.unusedVariables false
set_option linter.unusedSimpArgs false
open Go.RowKit

/-- How many of 1 .. m. -/
def cntM (g : Nat → Bool) : Nat → Nat
  | 0 => 0
  | m + 1 => cntM g m + (if g (m + 1) = true then 1 else 0)
theorem cntM_same {g g' : Nat → Bool} : ∀ m, (∀ j, 1 ≤ j → j ≤ m → g' j = g j) → cntM g' m = cntM g m
  | 0, _ => rfl
  | m + 1, h => by
    rw [cntM, cntM, cntM_same m (fun j h1 h2 => h j h1 (by omega)), h (m + 1) (by omega) (Nat.le_refl _)]
theorem cntM_none {g : Nat → Bool} : ∀ m, (∀ j, 1 ≤ j → j ≤ m → g j = false) → cntM g m = 0
  | 0, _ => rfl
  | m + 1, h => by
    rw [cntM, cntM_none m (fun j h1 h2 => h j h1 (by omega)), h (m + 1) (by omega) (Nat.le_refl _)]
    rfl
theorem cntM_less {g g' : Nat → Bool} {j0 : Nat} (h1 : 1 ≤ j0) (hg : g j0 = true) (hg' : g' j0 = false) (ho : ∀ j, j ≠ j0 → g' j = g j) : ∀ m, j0 ≤ m → cntM g' m + 1 = cntM g m
  | 0, h => by omega
  | m + 1, h => by
    rw [cntM, cntM]
    by_cases hj : j0 = m + 1
    · subst hj
      rw [hg, hg', cntM_same m (fun j _ h2 => ho j (by omega))]
      simp
    · have := cntM_less h1 hg hg' ho m (by omega)
      rw [ho (m + 1) (by omega)]
      omega
theorem cntM_le (g : Nat → Bool) : ∀ m, cntM g m ≤ m
  | 0 => Nat.le_refl _
  | m + 1 => by
    have := cntM_le g m
    rw [cntM]
    split <;> omega
/-- An iterator over a map of spots; lf: which are still to come. -/
def MapR (w : World) (b r N : Nat) (lf : Int → Int → Bool) (cnt : Nat) : Prop := ∃ (D : DataW Unit) (left : Lit → Bool), w.ranges Try.prog 52 (plainElem (H := Unit) Try.prog 3) b r N D left cnt ∧
  (∀ k, left k = true → ∃ x y, wfI x ∧ wfI y ∧ lf x y = true ∧ k = kl x y) ∧ (∀ x y, wfI x → wfI y → left (kl x y) = lf x y)
theorem MapF.range {w : World} {b N : Nat} {f : Int → Int → Int} {d : Int → Int → Bool} (h : MapF w b N f d) : ∃ w' cnt, (Instr.range 48 (.map (some b))).run Try.prog w = .ok (.pointer (some ⟨w.heap.size, 0, none⟩)) w' ∧ MapR w' b w.heap.size N d cnt ∧ w.grownBy w' none ∧ w'.heap.size = w.heap.size + 1 := by
  obtain ⟨D, h1, _, h3, h4⟩ := h
  obtain ⟨w', hr, hg, hb, hs⟩ := h1.range keyedW Try.underlying48
  exact ⟨w', _, hr, ⟨D, Maps.has D, hg, h4, h3⟩, hb, hs⟩
theorem MapR.alloc {w : World} {b r N : Nat} {lf : Int → Int → Bool} {cnt : Nat} (h : MapR w b r N lf cnt) (o : Obj) : MapR (w.alloc o) b r N lf cnt := by
  obtain ⟨D, left, h1, h2, h3⟩ := h
  exact ⟨D, left, h1.alloc o, h2, h3⟩
theorem MapR.lt {w : World} {b r N : Nat} {lf : Int → Int → Bool} {cnt : Nat} (h : MapR w b r N lf cnt) : r < w.heap.size := h.elim fun _ h => h.elim fun _ h => h.1.lt
theorem MapR.next {w : World} {b r N : Nat} {lf : Int → Int → Bool} {cnt : Nat} (h : MapR w b r N lf cnt) (ty : TypeId) :
    ((∀ x y, wfI x → wfI y → lf x y = false) ∧ (Instr.next (.pointer (some ⟨r, 0, none⟩)) false ty).run Try.prog w = .ok (.tuple #[.bool false]) w) ∨
    ∃ x y v w' cnt', wfI x ∧ wfI y ∧ lf x y = true ∧ (Instr.next (.pointer (some ⟨r, 0, none⟩)) false ty).run Try.prog w = .ok (.tuple #[.bool true, .agg #[.int .i64 x, .int .i64 y], v]) w' ∧
      MapR w' b r N (upd lf x y false) cnt' ∧ cnt' < cnt ∧ w.grownBy w' (some r) ∧ (Instr.entry (.pointer (some ⟨r, 0, none⟩))).run Try.prog w' = .ok (.tuple #[.agg #[.int .i64 x, .int .i64 y], v]) w' := by
  obtain ⟨D, left, h1, h2, h3⟩ := h
  rcases h1.next keyedW ty with ⟨_, hn, hr⟩ | ⟨key, v, kl0, y0, w', cnt', hk, hl, _, _, hr, hg, hc, hb, _, he⟩
  · exact .inl ⟨fun x y hx hy => by rw [← h3 x y hx hy]; exact hn _, hr⟩
  · obtain ⟨x, y, hx, hy, hlf, rfl⟩ := h2 _ hl
    have hkey : key = .agg #[.int .i64 x, .int .i64 y] := lawW.inj hk (keyW hx hy)
    subst hkey
    refine .inr ⟨x, y, v, w', cnt', hx, hy, hlf, hr, ⟨D, _, hg, fun k hk' => ?_, fun x' y' hx' hy' => ?_⟩, hc, hb, he⟩
    · simp only [Bool.and_eq_true, Bool.not_eq_true'] at hk'
      obtain ⟨x', y', hx', hy', hl', rfl⟩ := h2 k hk'.1
      refine ⟨x', y', hx', hy', ?_, rfl⟩
      rw [upd_other _ _ (fun q => by
        rw [q.1, q.2, WideAt.sameKey_self (kl_key _ _)] at hk'
        cases hk'.2)]
      exact hl'
    · show (left (kl x' y') && !(kl x' y').sameKey (kl x y)) = _
      by_cases hq : x' = x ∧ y' = y
      · obtain ⟨rfl, rfl⟩ := hq
        rw [upd_same, WideAt.sameKey_self (kl_key _ _)]
        simp
      · rw [upd_other _ _ hq, Maps.sameKey_ne (kl_ne hx hy hx' hy' hq), h3 x' y' hx' hy']
        simp
/-- A warden's state. -/
structure St where
  (lv sl slips : Int)
  H : Int → Int → Bool
  G : Int → Int → Int
def inR (s : St) (a b : Int) : Bool := decide (0 ≤ a ∧ a < s.lv ∧ 1 ≤ b ∧ b ≤ s.sl)
def h01 (s : St) : Int → Int → Int := fun a b => if s.H a b = true then 1 else 0
/-- A warden in block p, its maps in blocks bh, bg; N: so much may have been done. -/
structure WB (w : World) (p bh bg N : Nat) (s : St) : Prop where
  box : Blk w p 50 #[.int .i64 s.lv, .int .i64 s.sl, .map (some bh), .map (some bg), .int .i64 s.slips]
  mh : MapF w bh N (h01 s) s.H
  mg : ∃ d, MapF w bg N s.G d
  ne : bh ≠ bg
  l1 : 1 ≤ s.lv
  l4 : s.lv ≤ 4
  s1 : 1 ≤ s.sl
  s60 : s.sl ≤ 60
  hin : ∀ a b, s.H a b = true → inR s a b = true
  gb : ∀ a b, 0 ≤ s.G a b ∧ s.G a b ≤ N
  sb : 0 ≤ s.slips ∧ s.slips ≤ N
theorem map_ne {w : World} {p b N : Nat} {t : TypeId} {cs : Array Value} {f : Int → Int → Int} {d : Int → Int → Bool} (h : Blk w p t cs) (hm : MapF w b N f d) : p ≠ b := by
  rintro rfl
  obtain ⟨D, ⟨es, clock, h1, _⟩, _⟩ := hm
  rw [show w.heap[p]? = _ from h] at h1
  cases h1
section
variable {w w' : World} {p bh bg N : Nat} {s : St}
theorem WB.pbh (h : WB w p bh bg N s) : p ≠ bh := map_ne h.box h.mh
theorem WB.pbg (h : WB w p bh bg N s) : p ≠ bg := h.mg.elim fun _ hm => map_ne h.box hm
theorem WB.keeps {S : Nat → Prop} (h : WB w p bh bg N s) (hk : Keeps S w w') (h1 : ¬ S p) (h2 : ¬ S bh) (h3 : ¬ S bg) : WB w' p bh bg N s :=
  ⟨hk.blk h.box h1, h.mh.keeps hk h2, h.mg.elim fun d hm => ⟨d, hm.keeps hk h3⟩, h.ne, h.l1, h.l4, h.s1, h.s60, h.hin, h.gb, h.sb⟩
theorem WB.below (h : WB w p bh bg N s) (hb : Below w.heap.size w w') : WB w' p bh bg N s := h.keeps (Keeps.of_below (S := fun _ => False) hb) id id id
theorem WB.mono {N' : Nat} (h : WB w p bh bg N s) (hN : N ≤ N') : WB w p bh bg N' s :=
  ⟨h.box, h.mh.mono hN, h.mg.elim fun d hm => ⟨d, hm.mono hN⟩, h.ne, h.l1, h.l4, h.s1, h.s60, h.hin, fun a b => ⟨(h.gb a b).1, by have := (h.gb a b).2; omega⟩, ⟨h.sb.1, by have := h.sb.2; omega⟩⟩
theorem WB.wf (h : WB w p bh bg N s) {a b : Int} (hi : inR s a b = true) : wfI a ∧ wfI b := by
  have hi := of_decide_eq_true hi
  have := h.l4
  have := h.s60
  unfold wfI
  omega
end
/-- The worlds that are as W was, but for the slips of the warden in block p, and what is new. -/
def PKeep (p : Nat) (W w : World) : Prop := Keeps (fun b => b = p) W w ∧ ∀ o, o ≠ 4 → w.cell? ⟨p, o, none⟩ = W.cell? ⟨p, o, none⟩
theorem PKeep.refl (p : Nat) (W : World) : PKeep p W W := ⟨Keeps.refl _ _, fun _ _ => rfl⟩
theorem PKeep.drew {p : Nat} {W w : World} (h : PKeep p W w) : PKeep p W w.drew := ⟨h.1.drew, h.2⟩
theorem PKeep.below {p : Nat} {W a b : World} (h : PKeep p W a) (hp : p < W.heap.size) (hb : Below a.heap.size a b) : PKeep p W b :=
  ⟨h.1.trans_ (Keeps.of_below hb), fun o ho => (hb.cell (p := ⟨p, o, none⟩) (by have := h.1.size; dsimp only; omega)).trans (h.2 o ho)⟩
theorem PKeep.set4 {p : Nat} {W a : World} (h : PKeep p W a) (v : Value) : PKeep p W (a.setCell ⟨p, 4, none⟩ v) :=
  ⟨h.1.setCell (fun _ => rfl) v, fun o ho => (World.cell?_setCell_other _ _ _ _ (fun e => ho (by injection e with _ e; omega))).trans (h.2 o ho)⟩
structure ExtP (p : Nat) (W : World) where
  w : World
  k : PKeep p W w
instance instNonemptyExtP (p : Nat) (W : World) : Nonempty (ExtP p W) := ⟨⟨W, PKeep.refl p W⟩⟩
theorem ExtP.cell {p : Nat} {W : World} (x : ExtP p W) (b o : Nat) (h : b < W.heap.size) (h1 : b ≠ p ∨ o ≠ 4) : x.w.cell? ⟨b, o, none⟩ = W.cell? ⟨b, o, none⟩ := by
  by_cases hb : b = p
  · subst hb
    exact x.k.2 o (by omega)
  · exact World.cell?_of_block (w := W) (x.k.1.block b h hb)
set_option maxHeartbeats 4000000 in
set_option maxRecDepth 100000 in
theorem there_any {w : World} {p bh bg N : Nat} {s : St} (h : WB w p bh bg N s) (a b : Int) : Calls Try.prog 20 #[.pointer (some ⟨p, 0, none⟩), .agg #[.int .i64 a, .int .i64 b]] w fun e w' => e = .returned (.bool (inR s a b)) ∧ Below w.heap.size w w' := by
  have b0 := h.box.alloc (.cells #[.int .i64 a, .int .i64 b] 52)
  have k0 := b0.cell 0
  have k1 := b0.cell 1
  have kz := b0.lt
  have e0 : (w.alloc (.cells #[.int .i64 a, .int .i64 b] 52)).cell? ⟨p, 0, none⟩ = some (.int .i64 s.lv) := k0
  have e1 : (w.alloc (.cells #[.int .i64 a, .int .i64 b] 52)).cell? ⟨p, 1, none⟩ = some (.int .i64 s.sl) := k1
  have hpw : p ≠ w.heap.size := Nat.ne_of_lt h.box.lt
  clear k0 k1 b0 h
  by_cases hc1 : 0 ≤ a
  · skip
    by_cases hc2 : a < s.lv
    · skip
      by_cases hc3 : 1 ≤ b
      · skip
        by_cases hc4 : b ≤ s.sl
        · skip
          have HR : Hid (inR s a b = true) := decide_eq_true (by omega)
          go_enter Try.func20, Try.ntmps20
          go_upto_region 1 with (fail)
          obtain ⟨W1, hW1, d0, d1, e0', e1', kb, hz⟩ : ∃ W1, w.alloc (.cells #[.int .i64 a, .int .i64 b] 52) = W1 ∧ W1.cell? ⟨w.heap.size, 0, none⟩ = some (.int .i64 a) ∧ W1.cell? ⟨w.heap.size, 1, none⟩ = some (.int .i64 b) ∧ W1.cell? ⟨p, 0, none⟩ = some (.int .i64 s.lv) ∧ W1.cell? ⟨p, 1, none⟩ = some (.int .i64 s.sl) ∧ Below w.heap.size w W1 ∧ w.heap.size < W1.heap.size := ⟨_, rfl, (Blk.new w 52 #[.int .i64 a, .int .i64 b]).cell 0, (Blk.new w 52 #[.int .i64 a, .int .i64 b]).cell 1, e0, e1, bnew (brefl w) _, by simp⟩
          rw [hW1]
          clear hW1 e0 e1
          go_quiet (fail)
          go_wp2_with fail
          go_ret
          exact ⟨by rw [HR.out]; rfl, below_drewN kb _⟩
        · have HR : Hid (inR s a b = false) := decide_eq_false (by omega)
          have t3 : decide (b ≤ s.sl) = false := decide_eq_false hc4
          clear hc4
          go_enter Try.func20, Try.ntmps20
          go_upto_region 1 with (fail)
          obtain ⟨W1, hW1, d0, d1, e0', e1', kb, hz⟩ : ∃ W1, w.alloc (.cells #[.int .i64 a, .int .i64 b] 52) = W1 ∧ W1.cell? ⟨w.heap.size, 0, none⟩ = some (.int .i64 a) ∧ W1.cell? ⟨w.heap.size, 1, none⟩ = some (.int .i64 b) ∧ W1.cell? ⟨p, 0, none⟩ = some (.int .i64 s.lv) ∧ W1.cell? ⟨p, 1, none⟩ = some (.int .i64 s.sl) ∧ Below w.heap.size w W1 ∧ w.heap.size < W1.heap.size := ⟨_, rfl, (Blk.new w 52 #[.int .i64 a, .int .i64 b]).cell 0, (Blk.new w 52 #[.int .i64 a, .int .i64 b]).cell 1, e0, e1, bnew (brefl w) _, by simp⟩
          rw [hW1]
          clear hW1 e0 e1
          go_quiet (fail)
          go_wp2_with fail
          go_ret
          exact ⟨by rw [HR.out]; rfl, below_drewN kb _⟩
      · have HR : Hid (inR s a b = false) := decide_eq_false (by omega)
        have t2 : decide (1 ≤ b) = false := decide_eq_false hc3
        clear hc3
        go_enter Try.func20, Try.ntmps20
        go_upto_region 1 with (fail)
        obtain ⟨W1, hW1, d0, d1, e0', e1', kb, hz⟩ : ∃ W1, w.alloc (.cells #[.int .i64 a, .int .i64 b] 52) = W1 ∧ W1.cell? ⟨w.heap.size, 0, none⟩ = some (.int .i64 a) ∧ W1.cell? ⟨w.heap.size, 1, none⟩ = some (.int .i64 b) ∧ W1.cell? ⟨p, 0, none⟩ = some (.int .i64 s.lv) ∧ W1.cell? ⟨p, 1, none⟩ = some (.int .i64 s.sl) ∧ Below w.heap.size w W1 ∧ w.heap.size < W1.heap.size := ⟨_, rfl, (Blk.new w 52 #[.int .i64 a, .int .i64 b]).cell 0, (Blk.new w 52 #[.int .i64 a, .int .i64 b]).cell 1, e0, e1, bnew (brefl w) _, by simp⟩
        rw [hW1]
        clear hW1 e0 e1
        go_quiet (fail)
        go_wp2_with fail
        go_ret
        exact ⟨by rw [HR.out]; rfl, below_drewN kb _⟩
    · have HR : Hid (inR s a b = false) := decide_eq_false (by omega)
      have t1 : decide (a < s.lv) = false := decide_eq_false hc2
      clear hc2
      go_enter Try.func20, Try.ntmps20
      go_upto_region 1 with (fail)
      obtain ⟨W1, hW1, d0, d1, e0', e1', kb, hz⟩ : ∃ W1, w.alloc (.cells #[.int .i64 a, .int .i64 b] 52) = W1 ∧ W1.cell? ⟨w.heap.size, 0, none⟩ = some (.int .i64 a) ∧ W1.cell? ⟨w.heap.size, 1, none⟩ = some (.int .i64 b) ∧ W1.cell? ⟨p, 0, none⟩ = some (.int .i64 s.lv) ∧ W1.cell? ⟨p, 1, none⟩ = some (.int .i64 s.sl) ∧ Below w.heap.size w W1 ∧ w.heap.size < W1.heap.size := ⟨_, rfl, (Blk.new w 52 #[.int .i64 a, .int .i64 b]).cell 0, (Blk.new w 52 #[.int .i64 a, .int .i64 b]).cell 1, e0, e1, bnew (brefl w) _, by simp⟩
      rw [hW1]
      clear hW1 e0 e1
      go_quiet (fail)
      go_wp2_with fail
      go_ret
      exact ⟨by rw [HR.out]; rfl, below_drewN kb _⟩
  · have HR : Hid (inR s a b = false) := decide_eq_false (by omega)
    have t0 : decide (0 ≤ a) = false := decide_eq_false hc1
    clear hc1
    go_enter Try.func20, Try.ntmps20
    go_upto_region 1 with (fail)
    obtain ⟨W1, hW1, d0, d1, e0', e1', kb, hz⟩ : ∃ W1, w.alloc (.cells #[.int .i64 a, .int .i64 b] 52) = W1 ∧ W1.cell? ⟨w.heap.size, 0, none⟩ = some (.int .i64 a) ∧ W1.cell? ⟨w.heap.size, 1, none⟩ = some (.int .i64 b) ∧ W1.cell? ⟨p, 0, none⟩ = some (.int .i64 s.lv) ∧ W1.cell? ⟨p, 1, none⟩ = some (.int .i64 s.sl) ∧ Below w.heap.size w W1 ∧ w.heap.size < W1.heap.size := ⟨_, rfl, (Blk.new w 52 #[.int .i64 a, .int .i64 b]).cell 0, (Blk.new w 52 #[.int .i64 a, .int .i64 b]).cell 1, e0, e1, bnew (brefl w) _, by simp⟩
    rw [hW1]
    clear hW1 e0 e1
    go_quiet (fail)
    go_wp2_with fail
    go_ret
    exact ⟨by rw [HR.out]; rfl, below_drewN kb _⟩
set_option maxHeartbeats 4000000 in
set_option maxRecDepth 100000 in
theorem there_nil (a b : Int) (w : World) : Calls Try.prog 20 #[.pointer none, .agg #[.int .i64 a, .int .i64 b]] w fun e w' => e = .returned (.bool false) ∧ Below w.heap.size w w' := by
  go_enter Try.func20, Try.ntmps20
  go_upto_region 1 with (fail)
  obtain ⟨W1, hW1, kb⟩ : ∃ W1, w.alloc (.cells #[.int .i64 a, .int .i64 b] 52) = W1 ∧ Below w.heap.size w W1 := ⟨_, rfl, bnew (brefl w) _⟩
  rw [hW1]
  clear hW1
  go_quiet (fail)
  go_wp2_with fail
  go_ret
  exact ⟨rfl, below_drewN kb _⟩
set_option maxHeartbeats 4000000 in
set_option maxRecDepth 100000 in
theorem note_yes {w : World} {p bh bg N : Nat} {s : St} (h : WB w p bh bg N s) : Calls Try.prog 19 #[.pointer (some ⟨p, 0, none⟩), .bool true] w fun e w' => e = .returned (.bool true) ∧ w = w' := by
  go_enter Try.func19, Try.ntmps19
  go_wp2
  go_ret
  exact ⟨rfl, rfl⟩
set_option maxHeartbeats 4000000 in
set_option maxRecDepth 100000 in
theorem note_no {w : World} {p bh bg N : Nat} {s : St} (h : WB w p bh bg N s) (hN : N ≤ 1000000) : Calls Try.prog 19 #[.pointer (some ⟨p, 0, none⟩), .bool false] w fun e w' => e = .returned (.bool false) ∧ w' = w.setCell ⟨p, 4, none⟩ (.int .i64 (s.slips + 1)) := by
  have c4 : w.cell? ⟨p, 4, none⟩ = some (.int .i64 s.slips) := h.box.cell 4
  have f4 := h.box.frozen 4
  have z4 := h.box.lt
  have b1 := h.sb.1
  have b2 := h.sb.2
  have b3 : s.slips ≤ 1000000 := by omega
  clear h
  go_enter Try.func19, Try.ntmps19
  go_wp2
  go_ret
  exact ⟨rfl, rfl⟩
set_option maxHeartbeats 4000000 in
set_option maxRecDepth 100000 in
theorem note_nil (ok : Bool) (w : World) : Calls Try.prog 19 #[.pointer none, .bool ok] w fun e w' => e = .returned (.bool ok) ∧ w = w' := by
  go_enter Try.func19, Try.ntmps19
  go_wp2
  go_ret
  exact ⟨rfl, rfl⟩
end Go.Proofs.Ytlnnnaefmgikpaa
