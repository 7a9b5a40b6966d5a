/- Words and small laws on memory that the walks of this seat share: a slice that reads as a list of cells, and what keeps it so. No program in sight. -/
import Derived.WalkKit
import Derived.WalkSpells
import Derived.WalkLawsBesides
import Derived.Lib.Hide
import Derived.Lib.SliceRun
import Derived.Maps.AppendAt
import Derived.Deep.Draws
import Derived.ArgAppend
import Derived.Deep.RegionHeld3
import Derived.Deep.RegionLaw
import Derived.Deep.QuietTactic
import Derived.BigQuiet
import Derived.Deep.DeepMust
import Derived.StillTailTactics
namespace Go.Proofs.YtjjgngccgjpnaaaGreatDoor
set_option linter.unusedVariables false
set_option linter.unusedSimpArgs false
open Go.RowKit

theorem ad_block (a : Addr) (n : Nat) : (a.add n).block = a.block := by unfold Addr.add; split <;> rfl
theorem ad_add (a : Addr) (i j : Nat) : (a.add i).add j = a.add (i + j) := by
  unfold Addr.add
  by_cases hi : i = 0 <;> by_cases hj : j = 0 <;> simp [hi, hj, Nat.add_assoc]

/-- From the address A on lie the cells xs (where there are none, of A nothing is said). -/
def Rd (w : World) (A : Option Addr) (xs : List Value) : Prop := ∀ j u, xs[j]? = some u → ∃ ad, A = some ad ∧ w.cell? (ad.add j) = some u

theorem Rd.nil (w : World) (A : Option Addr) : Rd w A [] := fun j u h => by simp at h
theorem Rd.of_none {w : World} {xs : List Value} (h : Rd w none xs) : xs = [] := by
  cases xs with
  | nil => rfl
  | cons u r =>
    obtain ⟨ad, h1, _⟩ := h 0 u rfl
    cases h1
theorem Rd.some_ {w : World} {ad : Addr} {xs : List Value} (h : Rd w (some ad) xs) : ∀ j u, xs[j]? = some u → w.cell? (ad.add j) = some u := fun j u hj => by
  obtain ⟨a', h1, h2⟩ := h j u hj
  cases h1
  exact h2
theorem Rd.mk_ {w : World} {ad : Addr} {xs : List Value} (h : ∀ j u, xs[j]? = some u → w.cell? (ad.add j) = some u) : Rd w (some ad) xs := fun j u hj => ⟨ad, rfl, h j u hj⟩
theorem Rd.ne_nil {w : World} {A : Option Addr} {xs : List Value} (h : Rd w A xs) (hx : xs ≠ []) : ∃ ad, A = some ad := by
  cases A with
  | none => exact absurd h.of_none hx
  | some ad => exact ⟨ad, rfl⟩
theorem Rd.at_ {w : World} {A : Option Addr} {xs : List Value} (h : Rd w A xs) {j : Nat} {u : Value} (hj : xs[j]? = some u) : ∃ ad, A = some ad ∧ w.cell? (ad.add j) = some u := h j u hj

section
variable {w w' : World} {A : Option Addr} {xs : List Value}
theorem Rd.lt (h : Rd w A xs) (hx : xs ≠ []) : ∀ ad, A = some ad → ad.block < w.heap.size := by
  intro ad ha
  subst ha
  cases xs with
  | nil => exact absurd rfl hx
  | cons u r =>
    have := block_lt_of_cell (h.some_ 0 u rfl)
    rwa [ad_block] at this
theorem Rd.keep (h : Rd w A xs) (hk : ∀ p : Addr, (∀ ad, A = some ad → p.block = ad.block) → p.block < w.heap.size → w'.cell? p = w.cell? p) : Rd w' A xs := fun j u hj => by
  obtain ⟨ad, h1, h2⟩ := h j u hj
  refine ⟨ad, h1, (hk _ ?_ (block_lt_of_cell h2)).trans h2⟩
  intro a' ha
  rw [h1] at ha
  cases ha
  exact ad_block _ _
theorem Rd.below (h : Rd w A xs) (hb : Below w.heap.size w w') : Rd w' A xs := h.keep fun _ _ hp => hb.cell hp
theorem Rd.drew (h : Rd w A xs) : Rd w.drew A xs := h
theorem Rd.drewN (h : Rd w A xs) (k : Nat) : Rd (w.drewN k) A xs := h
theorem Rd.alloc (h : Rd w A xs) (o : Obj) : Rd (w.alloc o) A xs := h.keep fun p _ hp => World.cell?_alloc_lt w o p hp
theorem Rd.setCell (h : Rd w A xs) {p : Addr} (hp : ∀ ad, A = some ad → ad.block ≠ p.block) (u : Value) : Rd (w.setCell p u) A xs := by
  refine fun j x hj => ?_
  obtain ⟨ad, h1, h2⟩ := h j x hj
  refine ⟨ad, h1, (World.cell?_setCell_other w p _ u fun e => hp ad h1 ?_).trans h2⟩
  rw [← ad_block ad j]
  exact (congrArg Addr.block e.symm)
theorem Rd.grown (h : Rd w A xs) {row : Option Nat} (hg : w.grownBy w' row) (hr : ∀ ad, A = some ad → some ad.block ≠ row) : Rd w' A xs := fun j u hj => by
  obtain ⟨ad, h1, h2⟩ := h j u hj
  exact ⟨ad, h1, hg.cell h2 (by rw [ad_block]; exact hr ad h1)⟩
theorem Rd.cut (h : Rd w A xs) (k : Nat) : Rd w (A.map (·.add k)) (xs.drop k) := fun j u hj => by
  rw [List.getElem?_drop] at hj
  obtain ⟨ad, h1, h2⟩ := h (k + j) u hj
  exact ⟨ad.add k, by rw [h1]; rfl, by rw [ad_add]; exact h2⟩
theorem Rd.take (h : Rd w A xs) (k : Nat) : Rd w A (xs.take k) := fun j u hj => by
  rw [List.getElem?_take] at hj
  split at hj
  · exact h j u hj
  · cases hj
theorem Rd.of_own {base : Nat} {e size n c : Nat} (h : w.ownsRow base e size (.slice A n c) n xs) : Rd w A xs := by
  rcases h.2 with ⟨_, hn⟩ | ⟨g, cap, cur, hv, _⟩
  · obtain rfl : xs = [] := List.eq_nil_of_length_eq_zero (by rw [h.1, hn]; simp)
    exact Rd.nil _ _
  · injection hv with hA
    subst hA
    exact Rd.mk_ (h.cells (g := g) rfl)
end

theorem own_slice {w : World} {base : Nat} {e size n : Nat} {v : Value} {xs : List Value} (h : w.ownsRow base e size v n xs) : ∃ A c, v = .slice A n c ∧ ∀ ad, A = some ad → base ≤ ad.block ∧ ad.block < w.heap.size := by
  rcases h.2 with ⟨hv, rfl⟩ | ⟨g, cap, cur, hv, hg, hh, _⟩
  · exact ⟨none, 0, hv, fun ad h => by cases h⟩
  · refine ⟨_, _, hv, fun ad h1 => ?_⟩
    cases h1
    exact h.lt g (by rw [hv]; rfl)

theorem below_drewN {B : Nat} {a w : World} (h : Below B a w) (n : Nat) : Below B a (w.drewN n) := ⟨h.os, h.tape, h.output, h.size, h.block⟩


/-- What the table says of a slice's element type. -/
structure Elem (P : Program) (t e : TypeId) (i : TypeInfo) (z : Value) (size bytes : Nat) : Prop where
  ht : P.underlying t = some (.slice e)
  hi : P.info? e = some i
  hz : i.zero = some z
  hsize : i.size = size
  hby : i.bytes = bytes
  hzs : z.cells.size = size
  hsz : 0 < size

theorem Elem.of {P : Program} {t e : TypeId} {z : Value} {size bytes : Nat} (ht : P.underlying t = some (.slice e)) (h : (P.info? e).map (fun i => (i.zero, i.size, i.bytes)) = some (some z, size, bytes))
    (hzs : z.cells.size = size) (hsz : 0 < size) : ∃ i, Elem P t e i z size bytes := by
  obtain ⟨i, hi, h0, h1, h2⟩ := info_parts h
  exact ⟨i, ht, hi, h0, h1, h2, hzs, hsz⟩

section
variable {P : Program} {t e : TypeId} {i : TypeInfo} {z : Value} {size bytes : Nat}

/-- append onto a slice of the call's own (nil let in), the source any slice (nil let in). -/
theorem run_app (E : Elem P t e i z size bytes) (w : World) (ty : TypeId) (base : Nat) {v : Value} {n : Nat} {xs : List Value} (hown : w.ownsRow base e size v n xs)
    {A : Option Addr} {m : Nat} (c : Nat) {ys : List Value} (hl : ys.length = m * size) (hr : Rd w A ys) (h1 : ∀ u ∈ ys, u.oneCell' = true)
    (hn : n + m ≤ maxLen) (hb : (n + m) * bytes ≤ 140737488355328) (hbase : base ≤ w.heap.size) :
    ∃ A' c' w', (Builtin.append_ #[t, t] ty #[v, .slice A m c]).run P w = .ok (.slice A' (n + m) c') w' ∧ w'.ownsRow base e size (.slice A' (n + m) c') (n + m) (xs ++ ys) ∧ w.grownBy w' v.ownBlock ∧
      ((Value.slice A' (n + m) c').ownBlock = v.ownBlock ∨ (Value.slice A' (n + m) c').ownBlock = some w.heap.size) := by
  cases A with
  | some ad =>
    obtain ⟨v', w', hrun, h2, h3, _, h5⟩ := run_append_own_at (P := P) w base t ty e i z size bytes E.ht E.hi E.hz E.hsize E.hby E.hzs E.hsz v n xs hown ad m c ys hl hr.some_ h1 hn hb hbase
    obtain ⟨A', c', rfl, _⟩ := own_slice h2
    exact ⟨A', c', w', hrun, h2, h3, h5⟩
  | none =>
    obtain rfl := hr.of_none
    have hm : m = 0 := by
      rcases Nat.eq_zero_or_pos m with h | h
      · exact h
      · have := Nat.mul_pos h E.hsz
        simp at hl
        omega
    subst hm
    obtain ⟨A', c', rfl, hA⟩ := own_slice hown
    refine ⟨A', c', w, ?_, by simpa using hown, World.grownBy.refl w _, .inl rfl⟩
    cases A' with
    | none => simp [Builtin.append_, run_underlying E.ht, sizeOf, typeInfo, E.hi, Builtin.lenOf, Builtin.firstCells]; rcases hown.2 with ⟨hv, hn0⟩ | ⟨g, cap, cur, hv, _⟩ <;> cases hv; simp
    | some ad =>
      rcases hown.2 with ⟨hv, _⟩ | ⟨g, cap, cur, hv, _, _, hnc, _⟩
      · cases hv
      · cases hv
        simp [Builtin.append_, run_underlying E.ht, sizeOf, typeInfo, E.hi, Builtin.lenOf, Builtin.firstCells, hnc, storeCells]

theorem wp_app (E : Elem P t e i z size bytes) {w : World} {o : Oper} {a : Act} {K : Act → World → Prop} {Q : Exit → Act → World → Prop} (s x : Operand)
    (ho : o.op = .call { callee := .builtin .append, args := #[s, x], argTypes := #[t, t] }) (base : Nat) {v : Value} {n : Nat} {xs : List Value} (hs : a.eval s = v) (hown : w.ownsRow base e size v n xs)
    {A : Option Addr} {m c : Nat} {ys : List Value} (hx : a.eval x = .slice A m c) (hl : ys.length = m * size) (hr : Rd w A ys) (h1 : ∀ u ∈ ys, u.oneCell' = true)
    (hn : n + m ≤ maxLen) (hb : (n + m) * bytes ≤ 140737488355328) (hbase : base ≤ w.heap.size)
    (h : ∀ A' c' w', w'.ownsRow base e size (.slice A' (n + m) c') (n + m) (xs ++ ys) → w.grownBy w' v.ownBlock →
      ((Value.slice A' (n + m) c').ownBlock = v.ownBlock ∨ (Value.slice A' (n + m) c').ownBlock = some w.heap.size) → K (a.put o.dst (.slice A' (n + m) c')) w') : o.wp P a w K Q := by
  obtain ⟨A', c', w', hrun, h2, h3, h4⟩ := run_app E w o.type base hown c hl hr h1 hn hb hbase
  unfold Oper.wp execOp
  simp only [ho, resolve, invoke, builtin, Sem.run_bind, Sem.run_pure, Result.andThen_ok, List.map_toArray, List.map_cons, List.map_nil, hs, hx, hrun]
  exact h A' c' w' h2 h3 h4

theorem wpList_app (E : Elem P t e i z size bytes) {w : World} {ops : Array Oper} {rest : List Oper} {o : Oper} {a : Act} {Q : Exit → Act → World → Prop} (hgd : o.guard = none) (s x : Operand)
    (ho : o.op = .call { callee := .builtin .append, args := #[s, x], argTypes := #[t, t] }) (base : Nat) {v : Value} {n : Nat} {xs : List Value} (hs : a.eval s = v) (hown : w.ownsRow base e size v n xs)
    {A : Option Addr} {m c : Nat} {ys : List Value} (hx : a.eval x = .slice A m c) (hl : ys.length = m * size) (hr : Rd w A ys) (h1 : ∀ u ∈ ys, u.oneCell' = true)
    (hn : n + m ≤ maxLen) (hb : (n + m) * bytes ≤ 140737488355328) (hbase : base ≤ w.heap.size)
    (h : ∀ A' c' w', w'.ownsRow base e size (.slice A' (n + m) c') (n + m) (xs ++ ys) → w.grownBy w' v.ownBlock →
      ((Value.slice A' (n + m) c').ownBlock = v.ownBlock ∨ (Value.slice A' (n + m) c').ownBlock = some w.heap.size) → wpList P ops Q rest (a.put o.dst (.slice A' (n + m) c')) w') : wpList P ops Q (o :: rest) a w :=
  wpList_plain hgd fun _ hK => wp_app E s x ho base hs hown hx hl hr h1 hn hb hbase fun A' c' w' h2 h3 h4 => hK _ _ (h A' c' w' h2 h3 h4)
end

section
variable {P : Program} {t e : TypeId} {i : TypeInfo} {z : Value} {size bytes : Nat}

/-- append onto whatever slice has no room: a new row. -/
theorem run_grow (E : Elem P t e i z size bytes) (w : World) (ty : TypeId) {A : Option Addr} {n cap : Nat} {xs : List Value} (hlx : xs.length = n * size) (hrx : Rd w A xs) (h1x : ∀ u ∈ xs, u.oneCell' = true)
    (hnone : A = none → cap = 0) {ad : Addr} {m : Nat} (c : Nat) {ys : List Value} (hl : ys.length = m * size) (hr : Rd w (some ad) ys) (h1 : ∀ u ∈ ys, u.oneCell' = true)
    (hfull : cap < n + m) (hn : n + m ≤ maxLen) (hb : (n + m) * bytes ≤ 140737488355328) :
    ∃ A' c' w', (Builtin.append_ #[t, t] ty #[.slice A n cap, .slice (some ad) m c]).run P w = .ok (.slice A' (n + m) c') w' ∧ w'.ownsRow w.heap.size e size (.slice A' (n + m) c') (n + m) (xs ++ ys) ∧ w.grownBy w' none := by
  cases A with
  | some b =>
    obtain ⟨v', w', hrun, h2, h3⟩ := run_append_arg_grows (P := P) w t ty e i z size bytes E.ht E.hi E.hz E.hsize E.hby E.hzs E.hsz b n cap xs hlx hrx.some_ ad m c ys hl hr.some_ hfull hn hb
    obtain ⟨A', c', rfl, _⟩ := own_slice h2
    exact ⟨A', c', w', hrun, h2, h3⟩
  | none =>
    obtain rfl := hrx.of_none
    obtain rfl := hnone rfl
    have hn0 : n = 0 := by
      rcases Nat.eq_zero_or_pos n with h | h
      · exact h
      · have := Nat.mul_pos h E.hsz
        simp at hlx
        omega
    subst hn0
    obtain ⟨v', w', hrun, h2, h3, _⟩ := run_append_own (P := P) w w.heap.size t ty e i z size bytes E.ht E.hi E.hz E.hsize E.hby E.hzs E.hsz (.slice none 0 0) 0 [] (World.ownsRow_nil w _ e size) ad m c ys hl hr.some_ h1 hn hb (Nat.le_refl _)
    obtain ⟨A', c', rfl, _⟩ := own_slice h2
    exact ⟨A', c', w', hrun, h2, h3⟩

theorem wp_grow (E : Elem P t e i z size bytes) {w : World} {o : Oper} {a : Act} {K : Act → World → Prop} {Q : Exit → Act → World → Prop} (s x : Operand)
    (ho : o.op = .call { callee := .builtin .append, args := #[s, x], argTypes := #[t, t] }) {A : Option Addr} {n cap : Nat} {xs : List Value} (hs : a.eval s = .slice A n cap)
    (hlx : xs.length = n * size) (hrx : Rd w A xs) (h1x : ∀ u ∈ xs, u.oneCell' = true) (hnone : A = none → cap = 0)
    {ad : Addr} {m c : Nat} {ys : List Value} (hx : a.eval x = .slice (some ad) m c) (hl : ys.length = m * size) (hr : Rd w (some ad) ys) (h1 : ∀ u ∈ ys, u.oneCell' = true)
    (hfull : cap < n + m) (hn : n + m ≤ maxLen) (hb : (n + m) * bytes ≤ 140737488355328)
    (h : ∀ A' c' w', w'.ownsRow w.heap.size e size (.slice A' (n + m) c') (n + m) (xs ++ ys) → w.grownBy w' none → K (a.put o.dst (.slice A' (n + m) c')) w') : o.wp P a w K Q := by
  obtain ⟨A', c', w', hrun, h2, h3⟩ := run_grow E w o.type hlx hrx h1x hnone c hl hr h1 hfull hn hb
  unfold Oper.wp execOp
  simp only [ho, resolve, invoke, builtin, Sem.run_bind, Sem.run_pure, Result.andThen_ok, List.map_toArray, List.map_cons, List.map_nil, hs, hx, hrun]
  exact h A' c' w' h2 h3

theorem wpList_grow (E : Elem P t e i z size bytes) {w : World} {ops : Array Oper} {rest : List Oper} {o : Oper} {a : Act} {Q : Exit → Act → World → Prop} (hgd : o.guard = none) (s x : Operand)
    (ho : o.op = .call { callee := .builtin .append, args := #[s, x], argTypes := #[t, t] }) {A : Option Addr} {n cap : Nat} {xs : List Value} (hs : a.eval s = .slice A n cap)
    (hlx : xs.length = n * size) (hrx : Rd w A xs) (h1x : ∀ u ∈ xs, u.oneCell' = true) (hnone : A = none → cap = 0)
    {ad : Addr} {m c : Nat} {ys : List Value} (hx : a.eval x = .slice (some ad) m c) (hl : ys.length = m * size) (hr : Rd w (some ad) ys) (h1 : ∀ u ∈ ys, u.oneCell' = true)
    (hfull : cap < n + m) (hn : n + m ≤ maxLen) (hb : (n + m) * bytes ≤ 140737488355328)
    (h : ∀ A' c' w', w'.ownsRow w.heap.size e size (.slice A' (n + m) c') (n + m) (xs ++ ys) → w.grownBy w' none → wpList P ops Q rest (a.put o.dst (.slice A' (n + m) c')) w') : wpList P ops Q (o :: rest) a w :=
  wpList_plain hgd fun _ hK => wp_grow E s x ho hs hlx hrx h1x hnone hx hl hr h1 hfull hn hb fun A' c' w' h2 h3 => hK _ _ (h A' c' w' h2 h3)

/-- The same two as steps of a region that draws its order. -/
theorem step_app (E : Elem P t e i z size bytes) {w : World} {ops : Array Oper} {o : Oper} {a : Act} {K : Act → World → Prop} {Q : Exit → Act → World → Prop} {L : Prop} (hgd : o.guard = none) (s x : Operand)
    (ho : o.op = .call { callee := .builtin .append, args := #[s, x], argTypes := #[t, t] }) (base : Nat) {v : Value} {n : Nat} {xs : List Value} (hs : a.eval s = v) (hown : w.ownsRow base e size v n xs)
    {A : Option Addr} {m c : Nat} {ys : List Value} (hx : a.eval x = .slice A m c) (hl : ys.length = m * size) (hr : Rd w A ys) (h1 : ∀ u ∈ ys, u.oneCell' = true)
    (hn : n + m ≤ maxLen) (hb : (n + m) * bytes ≤ 140737488355328) (hbase : base ≤ w.heap.size)
    (h : ∀ A' c' w', w'.ownsRow base e size (.slice A' (n + m) c') (n + m) (xs ++ ys) → w.grownBy w' v.ownBlock →
      ((Value.slice A' (n + m) c').ownBlock = v.ownBlock ∨ (Value.slice A' (n + m) c').ownBlock = some w.heap.size) → K (a.put o.dst (.slice A' (n + m) c')) w') :
    if Region.wanted o (yielded ops a.tmps) = true then Oper.wp P o a w K Q else L := by
  rw [if_pos (by simp [Region.wanted, hgd])]
  exact wp_app E s x ho base hs hown hx hl hr h1 hn hb hbase h
theorem step_grow (E : Elem P t e i z size bytes) {w : World} {ops : Array Oper} {o : Oper} {a : Act} {K : Act → World → Prop} {Q : Exit → Act → World → Prop} {L : Prop} (hgd : o.guard = none) (s x : Operand)
    (ho : o.op = .call { callee := .builtin .append, args := #[s, x], argTypes := #[t, t] }) {A : Option Addr} {n cap : Nat} {xs : List Value} (hs : a.eval s = .slice A n cap)
    (hlx : xs.length = n * size) (hrx : Rd w A xs) (h1x : ∀ u ∈ xs, u.oneCell' = true) (hnone : A = none → cap = 0)
    {ad : Addr} {m c : Nat} {ys : List Value} (hx : a.eval x = .slice (some ad) m c) (hl : ys.length = m * size) (hr : Rd w (some ad) ys) (h1 : ∀ u ∈ ys, u.oneCell' = true)
    (hfull : cap < n + m) (hn : n + m ≤ maxLen) (hb : (n + m) * bytes ≤ 140737488355328)
    (h : ∀ A' c' w', w'.ownsRow w.heap.size e size (.slice A' (n + m) c') (n + m) (xs ++ ys) → w.grownBy w' none → K (a.put o.dst (.slice A' (n + m) c')) w') :
    if Region.wanted o (yielded ops a.tmps) = true then Oper.wp P o a w K Q else L := by
  rw [if_pos (by simp [Region.wanted, hgd])]
  exact wp_grow E s x ho hs hlx hrx h1x hnone hx hl hr h1 hfull hn hb h
end

theorem grown_cell {w w' : World} (hg : w.grownBy w' none) {b o : Nat} {u : Value} (hp : b < w.heap.size) (h : w.cell? ⟨b, o, none⟩ = some u) : w'.cell? ⟨b, o, none⟩ = some u :=
  (World.cell?_of_block (hg.block b hp (by simp))).trans h
theorem grown_frozen {w w' : World} (hg : w.grownBy w' none) {b o : Nat} (hp : b < w.heap.size) (h : w.frozen? ⟨b, o, none⟩ = false) : w'.frozen? ⟨b, o, none⟩ = false :=
  (World.frozen?_of_block (hg.block b hp (by simp))).trans h

theorem own_base {w : World} {base base' : Nat} {e size n : Nat} {v : Value} {xs : List Value} (h : w.ownsRow base e size v n xs) (hb : base' ≤ base) : w.ownsRow base' e size v n xs :=
  ⟨h.1, h.2.imp id fun ⟨g, cap, cur, h1, h2, h3⟩ => ⟨g, cap, cur, h1, Nat.le_trans hb h2, h3⟩⟩
theorem own_set {w : World} {base base' : Nat} {e size n : Nat} {v : Value} {xs : List Value} (h : w.ownsRow base e size v n xs) (hb : base' ≤ base) {b o : Nat} (hlt : b < base) (u : Value) : (w.setCell ⟨b, o, none⟩ u).ownsRow base' e size v n xs :=
  own_base (ownsRow_setCell_below h hlt u) hb

/-- A new block's cells, read as a slice's. -/
theorem Rd.new (w : World) (cs : Array Value) (e : TypeId) {g : Nat} (hg : g = w.heap.size) : Rd (w.alloc (.cells cs e)) (some ⟨g, 0, none⟩) cs.toList := Rd.mk_ fun j u hj => by
  subst hg
  have e1 : ((⟨w.heap.size, 0, none⟩ : Addr).add j) = ⟨w.heap.size, j, none⟩ := by
    unfold Addr.add
    split
    · rename_i h0
      rw [h0]
    · simp
  rw [e1, World.cell?_alloc_at cs e _ _ rfl]
  simpa using hj

/-- A new block of cells, as an owned slice of all of them. -/
theorem own_new (w : World) {base e size n c : Nat} {cs : Array Value} (hb : base ≤ w.heap.size) (hm : c ≤ maxLen) (hn : n ≤ c) (hs : cs.size = c * size) :
    (w.alloc (.cells cs e)).ownsRow base e size (.slice (some ⟨w.heap.size, 0, none⟩) n c) n (cs.toList.take (n * size)) := by
  refine ⟨?_, .inr ⟨w.heap.size, c, cs, rfl, hb, heap_alloc_new w _, hn, hm, hs, rfl⟩⟩
  rw [List.length_take, Array.length_toList, hs]
  exact Nat.min_eq_left (Nat.mul_le_mul_right _ hn)

/-! ### A slice of elements, each of s cells -/

theorem flat_len {α : Type} {f : α → List Value} {s : Nat} (hf : ∀ x, (f x).length = s) : ∀ l : List α, (l.flatMap f).length = l.length * s
  | [] => by simp
  | x :: r => by rw [List.flatMap_cons, List.length_append, hf, flat_len hf r, List.length_cons, Nat.add_mul]; omega
theorem flat_get {α : Type} {f : α → List Value} {s : Nat} (hf : ∀ x, (f x).length = s) : ∀ (l : List α) (i j : Nat) (x : α) (u : Value), l[i]? = some x → (f x)[j]? = some u → (l.flatMap f)[i * s + j]? = some u
  | [], i, j, x, u, h, _ => by simp at h
  | y :: r, 0, j, x, u, h, hj => by
    have hxy : y = x := by simpa using h
    rw [hxy, List.flatMap_cons, Nat.zero_mul, Nat.zero_add, List.getElem?_append_left (List.getElem?_eq_some_iff.1 hj).1]
    exact hj
  | y :: r, i + 1, j, x, u, h, hj => by
    have h' := flat_get hf r i j x u (by simpa using h) hj
    have e : (i + 1) * s + j = s + (i * s + j) := by rw [Nat.add_mul]; omega
    rw [List.flatMap_cons, List.getElem?_append_right (by rw [hf, e]; omega), hf, e]
    rw [show s + (i * s + j) - s = i * s + j by omega]
    exact h'
theorem flat_drop {α : Type} {f : α → List Value} {s : Nat} (hf : ∀ x, (f x).length = s) : ∀ (l : List α) (i : Nat), (l.flatMap f).drop (i * s) = (l.drop i).flatMap f
  | l, 0 => by simp
  | [], i + 1 => by simp
  | y :: r, i + 1 => by
    have e : (i + 1) * s = s + i * s := by rw [Nat.add_mul]; omega
    rw [List.flatMap_cons, e, ← List.drop_drop, List.drop_left' (hf y), flat_drop hf r i]
    rfl
theorem flat_take {α : Type} {f : α → List Value} {s : Nat} (hf : ∀ x, (f x).length = s) : ∀ (l : List α) (i : Nat), (l.flatMap f).take (i * s) = (l.take i).flatMap f
  | l, 0 => by simp
  | [], i + 1 => by simp
  | y :: r, i + 1 => by
    have e : (i + 1) * s = (f y).length + i * s := by rw [Nat.add_mul, hf]; omega
    rw [List.flatMap_cons, e, List.take_length_add_append, flat_take hf r i]
    rfl

/-- The slice A, n, c holds the elements l, each laid as the s cells f x. -/
structure Sl {α : Type} (f : α → List Value) (w : World) (A : Option Addr) (n c : Nat) (l : List α) : Prop where
  len : l.length = n
  cap : n ≤ c
  rd : Rd w A (l.flatMap f)
  nil_ : A = none → n = 0 ∧ c = 0

section
variable {α : Type} {f : α → List Value} {w w' : World} {A : Option Addr} {n c : Nat} {l : List α}
theorem Sl.mono (h : Sl f w A n c l) (hr : Rd w' A (l.flatMap f)) : Sl f w' A n c l := ⟨h.len, h.cap, hr, h.nil_⟩
theorem Sl.below (h : Sl f w A n c l) (hb : Below w.heap.size w w') : Sl f w' A n c l := h.mono (h.rd.below hb)
theorem Sl.drew (h : Sl f w A n c l) : Sl f w.drew A n c l := h.mono h.rd.drew
theorem Sl.drewN (h : Sl f w A n c l) (k : Nat) : Sl f (w.drewN k) A n c l := h.mono (h.rd.drewN k)
theorem Sl.alloc (h : Sl f w A n c l) (o : Obj) : Sl f (w.alloc o) A n c l := h.mono (h.rd.alloc o)
theorem Sl.setCell (h : Sl f w A n c l) {p : Addr} (hp : ∀ ad, A = some ad → ad.block ≠ p.block) (u : Value) : Sl f (w.setCell p u) A n c l := h.mono (h.rd.setCell hp u)
theorem Sl.grown (h : Sl f w A n c l) {row : Option Nat} (hg : w.grownBy w' row) (hr : ∀ ad, A = some ad → some ad.block ≠ row) : Sl f w' A n c l := h.mono (h.rd.grown hg hr)
theorem Sl.of_own {base e s : Nat} (hf : ∀ x, (f x).length = s) (hs : 0 < s) (h : w.ownsRow base e s (.slice A n c) n (l.flatMap f)) : Sl f w A n c l := by
  refine ⟨?_, ?_, Rd.of_own h, ?_⟩
  · have h1 := h.1
    rw [flat_len hf] at h1
    exact Nat.eq_of_mul_eq_mul_right hs h1
  · rcases h.2 with ⟨hv, hn⟩ | ⟨g, cap, cur, hv, _, _, hnc, _⟩
    · omega
    · cases hv; exact hnc
  · intro hA
    rcases h.2 with ⟨hv, hn⟩ | ⟨g, cap, cur, hv, _⟩
    · cases hv; exact ⟨rfl, rfl⟩
    · rw [hA] at hv; cases hv
/-- Where there is an element: the slice's block, and every element's cells. -/
theorem Sl.base {s : Nat} (hf : ∀ x, (f x).length = s) (hs : 0 < s) (h : Sl f w A n c l) (hne : 0 < n) :
    ∃ b o, A = some ⟨b, o, none⟩ ∧ b < w.heap.size ∧ ∀ (i : Nat) (x : α) (j : Nat) (u : Value), l[i]? = some x → (f x)[j]? = some u → w.cell? ⟨b, o + (i * s + j), none⟩ = some u := by
  have hl0 : 0 < (l.flatMap f).length := by
    rw [flat_len hf, h.len]
    exact Nat.mul_pos hne hs
  obtain ⟨ad, rfl, c0⟩ := h.rd 0 _ (List.getElem?_eq_getElem hl0)
  obtain ⟨b, o, sp⟩ := ad
  have hsp : sp = none := by simpa [Addr.add] using World.cell?_spot c0
  subst hsp
  refine ⟨b, o, rfl, by simpa [ad_block] using block_lt_of_cell c0, fun i x j u hi hj => ?_⟩
  have hc := h.rd.some_ _ _ (flat_get hf l i j x u hi hj)
  have e : ((⟨b, o, none⟩ : Addr).add (i * s + j)) = ⟨b, o + (i * s + j), none⟩ := by unfold Addr.add; split <;> simp_all
  rw [← e]
  exact hc
/-- The slice from its element k on. (The model keeps the address of an empty rest at the capacity.) -/
theorem Sl.from_ {s : Nat} (hf : ∀ x, (f x).length = s) (h : Sl f w A n c l) {k : Nat} (hk : k ≤ n) :
    Sl f w (if c = k then A else A.map (·.add (k * s))) (n - k) (c - k) (l.drop k) := by
  have hc := h.cap
  refine ⟨by rw [List.length_drop, h.len], by omega, ?_, ?_⟩
  · split
    · have hn : n - k = 0 := by omega
      have : l.drop k = [] := List.drop_eq_nil_of_le (by rw [h.len]; omega)
      rw [this]
      exact Rd.nil _ _
    · have := h.rd.cut (k * s)
      rwa [flat_drop hf] at this
  · intro hA
    have hA' : A = none := by
      split at hA
      · exact hA
      · cases A with
        | none => rfl
        | some ad => cases hA
    have := h.nil_ hA'
    omega
end

theorem take_eq_step {α : Type} {l m : List α} {k : Nat} {x y : α} (h : l.take k = m.take k) (hx : l[k]? = some x) (hy : m[k]? = some y) : (l.take (k + 1) = m.take (k + 1)) ↔ x = y := by
  rw [List.take_add_one, List.take_add_one, hx, hy, h]
  simp
theorem ret_bool {a b : Bool} (h : a = b) : Ending.returned (.bool a) = .returned (.bool b) := by rw [h]
theorem ret_int {k : IntKind} {a b : Int} (h : a = b) : Ending.returned (.int k a) = .returned (.int k b) := by rw [h]

/-- A region that draws its order, all of whose operations but the last ones leave the world alone, those last ones in one order: one walk of the text's order. -/
theorem wp_tail {P : Program} {id : Nat} {Q : Exit → Act → World → Prop} {a : Act} {w : World} {l : List Oper} (n : Nat) (hm : P.follows .mixedOrders = true) (hB : Region.lexTailB .any l.toArray n = true)
    (h : wpStill P l.toArray w.drew (fun a' => wpList P l.toArray Q (l.drop n) a' w.drew) (l.take n) a) : (Code.region id l.toArray true).wp P Q a w := wp_region_still_tail n hm hB h

theorem keep_set {w : World} {p : Addr} {v u : Value} {b o : Nat} (h : w.cell? ⟨b, o, none⟩ = some u) (hne : p.block ≠ b) : (w.setCell p v).cell? ⟨b, o, none⟩ = some u :=
  (World.cell?_setCell_far w p _ v hne).trans h

theorem grown_frozen_ne {w w' : World} {row : Option Nat} (hg : w.grownBy w' row) {b o : Nat} (hp : b < w.heap.size) (hne : some b ≠ row) (h : w.frozen? ⟨b, o, none⟩ = false) : w'.frozen? ⟨b, o, none⟩ = false :=
  (World.frozen?_of_block (hg.block b hp hne)).trans h

theorem bnext {w a b : World} (h : Below w.heap.size w a) (k : Below a.heap.size a b) : Below w.heap.size w b := h.trans (k.mono h.size)
theorem bnew {w a : World} (h : Below w.heap.size w a) (o : Obj) : Below w.heap.size w (a.alloc o) := h.alloc h.size o
theorem bset {w a : World} (h : Below w.heap.size w a) {p : Addr} (hp : w.heap.size ≤ p.block) (u : Value) : Below w.heap.size w (a.setCell p u) := h.setCell hp u
theorem brefl (w : World) : Below w.heap.size w w := Below.refl _ _
theorem bgrown {w a b : World} (h : Below w.heap.size w a) {row : Option Nat} (hg : a.grownBy b row) (hr : ∀ k, row = some k → w.heap.size ≤ k) : Below w.heap.size w b := h.grown hg h.size hr

theorem below_same {P : Program} {f : FuncId} {args : Array Value} {w : World} {v : Value} (h : Calls P f args w fun e w' => e = .returned v ∧ w = w') : Calls P f args w fun e w' => e = .returned v ∧ Below w.heap.size w w' :=
  h.mono fun e w' ⟨he, hw⟩ => ⟨he, hw ▸ brefl w⟩

theorem q_same {P : Program} {f : FuncId} {args : Array Value} {w : World} {n : Nat} {v : Value} (h : Calls P f args (w.drewN n) fun e w' => e = .returned v ∧ w.drewN n = w') : Calls P f args (w.drewN n) fun e w'' => e = .returned v ∧ ∃ m, w'' = w.drewN m :=
  h.mono fun _ _ ⟨he, hw⟩ => ⟨he, n, hw.symm⟩
theorem keep_below {w w' : World} {b o : Nat} {u : Value} (h : w.cell? ⟨b, o, none⟩ = some u) (hb : Below w.heap.size w w') : w'.cell? ⟨b, o, none⟩ = some u :=
  (hb.cell (block_lt_of_cell h)).trans h
theorem keep_frozen {w w' : World} {b o : Nat} (h : w.frozen? ⟨b, o, none⟩ = false) (hlt : b < w.heap.size) (hb : Below w.heap.size w w') : w'.frozen? ⟨b, o, none⟩ = false :=
  (hb.frozen hlt).trans h

end Go.Proofs.YtjjgngccgjpnaaaGreatDoor
