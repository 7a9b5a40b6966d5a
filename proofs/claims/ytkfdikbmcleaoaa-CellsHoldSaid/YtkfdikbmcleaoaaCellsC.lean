/- Memories: accesses, as the law does them, and as the reference does them. -/
import Derived.Test.YtkfdikbmcleaoaaCellsB
namespace Go.Proofs.Ytkfdikbmcleaoaa
set_option linter.unusedVariables false
set_option linter.unusedSimpArgs false
open Go.RowKit

/-- An access: the memory behind it, and what is told. -/
def Mem.step (m : Mem) (o : MOp) : Mem × Int × Bool :=
  if 0 ≤ o.a ∧ o.a < (m.ws.length : Int) then
    if o.k = 0 then (m.hit o.a, m.ws.getD o.a.toNat 0, false)
    else if o.k = 1 then ((m.hit o.a).put o.a.toNat o.nx, 0, false)
    else if m.ws.getD o.a.toNat 0 = o.old then ((m.hit o.a).put o.a.toNat o.nx, 0, true)
    else (m.hit o.a, 0, false)
  else (m.out, 0, false)
section
variable {m : Mem} {o : MOp}
theorem st_out (h : o.a < 0 ∨ (m.ws.length : Int) ≤ o.a) : m.step o = (m.out, 0, false) := if_neg (by omega)
theorem st_load (h : 0 ≤ o.a) {x : Int} (hx : m.ws[o.a.toNat]? = some x) (hk : o.k = 0) : m.step o = (m.hit o.a, x, false) := by
  have hb := (List.getElem?_eq_some_iff.1 hx).1
  unfold Mem.step
  rw [if_pos (by omega), if_pos hk, List.getD_eq_getElem?_getD, hx]
  rfl
theorem st_store (h : 0 ≤ o.a) (hb : o.a < (m.ws.length : Int)) (hk : o.k = 1) : m.step o = ((m.hit o.a).put o.a.toNat o.nx, 0, false) := by
  unfold Mem.step
  rw [if_pos ⟨h, hb⟩, if_neg (by omega), if_pos hk]
theorem st_cas (h : 0 ≤ o.a) (hx : m.ws[o.a.toNat]? = some o.old) (h0 : o.k ≠ 0) (h1 : o.k ≠ 1) : m.step o = ((m.hit o.a).put o.a.toNat o.nx, 0, true) := by
  have hb := (List.getElem?_eq_some_iff.1 hx).1
  unfold Mem.step
  rw [if_pos (by omega), if_neg h0, if_neg h1, List.getD_eq_getElem?_getD, hx]
  exact if_pos rfl
theorem st_miss (h : 0 ≤ o.a) {x : Int} (hx : m.ws[o.a.toNat]? = some x) (hne : x ≠ o.old) (h0 : o.k ≠ 0) (h1 : o.k ≠ 1) : m.step o = (m.hit o.a, 0, false) := by
  have hb := (List.getElem?_eq_some_iff.1 hx).1
  unfold Mem.step
  rw [if_pos (by omega), if_neg h0, if_neg h1, List.getD_eq_getElem?_getD, hx]
  exact if_neg hne
theorem st_len (m : Mem) (o : MOp) : (m.step o).1.ws.length = m.ws.length := by
  unfold Mem.step
  repeat' split
  all_goals simp [Mem.out, Mem.hit, Mem.put]
theorem st_ac (m : Mem) (o : MOp) : (m.step o).1.ac = m.ac + 1 := by
  unfold Mem.step
  repeat' split
  all_goals simp [Mem.out, Mem.hit, Mem.put]
theorem st_wr (m : Mem) (o : MOp) : m.wr ≤ (m.step o).1.wr ∧ (m.step o).1.wr ≤ m.wr + 1 := by
  unfold Mem.step
  repeat' split
  all_goals (simp [Mem.out, Mem.hit, Mem.put] <;> omega)
end


set_option maxHeartbeats 4000000 in
set_option maxRecDepth 100000 in
theorem do_load {w : World} {p g : Nat} {m m' : Mem} (h : MBox w p g m) (a od nx : Int) (v : Int)
    (hc : ∀ w, MBox w p g m → Calls Try.prog 9 #[.pointer (some ⟨p, 0, none⟩), .int .i64 a] w fun e w' => e = .returned (.int .u64 v) ∧ MBox w' p g m' ∧ Keeps (SS p g) w w') :
    Calls Try.prog 13 #[.pointer (some ⟨p, 0, none⟩), .agg #[.int .i64 0, .int .i64 a, .int .u64 od, .int .u64 nx]] w fun e w' => e = .returned (.tuple #[.int .u64 v, .bool false]) ∧ MBox w' p g m' ∧ Keeps (SS p g) w w' := by
  obtain ⟨W0, hW0, x0, x1, x2, x3, hm, kb⟩ : ∃ W0, w.alloc (.cells #[.int .i64 0, .int .i64 a, .int .u64 od, .int .u64 nx] 34) = W0 ∧ W0.cell? ⟨w.heap.size, 0, none⟩ = some (.int .i64 0) ∧ W0.cell? ⟨w.heap.size, 1, none⟩ = some (.int .i64 a) ∧ W0.cell? ⟨w.heap.size, 2, none⟩ = some (.int .u64 od) ∧ W0.cell? ⟨w.heap.size, 3, none⟩ = some (.int .u64 nx) ∧ MBox W0 p g m ∧ Keeps (SS p g) w W0 :=
    ⟨_, rfl, by go_simp, by go_simp, by go_simp, by go_simp, h.below (bnew (brefl w) _), (Keeps.refl _ w).alloc _⟩
  have hz := block_lt_of_cell x0
  have hcc := hc _ hm
  clear h hm hc
  go_enter Try.func13, Try.ntmps13
  go_wp2_with fail
  refine hcc.mono ?_
  rintro e w1 ⟨rfl, hm, hk⟩
  go_wp2
  go_ret2
  exact ⟨rfl, hm, kb.trans_ hk⟩

set_option maxHeartbeats 4000000 in
set_option maxRecDepth 100000 in
theorem do_store {w : World} {p g : Nat} {m m' : Mem} (h : MBox w p g m) (a od nx : Int) 
    (hc : ∀ w, MBox w p g m → Calls Try.prog 8 #[.pointer (some ⟨p, 0, none⟩), .int .i64 a, .int .u64 nx] w fun e w' => e = .returned (.tuple #[]) ∧ MBox w' p g m' ∧ Keeps (SS p g) w w') :
    Calls Try.prog 13 #[.pointer (some ⟨p, 0, none⟩), .agg #[.int .i64 1, .int .i64 a, .int .u64 od, .int .u64 nx]] w fun e w' => e = .returned (.tuple #[.int .u64 0, .bool false]) ∧ MBox w' p g m' ∧ Keeps (SS p g) w w' := by
  obtain ⟨W0, hW0, x0, x1, x2, x3, hm, kb⟩ : ∃ W0, w.alloc (.cells #[.int .i64 1, .int .i64 a, .int .u64 od, .int .u64 nx] 34) = W0 ∧ W0.cell? ⟨w.heap.size, 0, none⟩ = some (.int .i64 1) ∧ W0.cell? ⟨w.heap.size, 1, none⟩ = some (.int .i64 a) ∧ W0.cell? ⟨w.heap.size, 2, none⟩ = some (.int .u64 od) ∧ W0.cell? ⟨w.heap.size, 3, none⟩ = some (.int .u64 nx) ∧ MBox W0 p g m ∧ Keeps (SS p g) w W0 :=
    ⟨_, rfl, by go_simp, by go_simp, by go_simp, by go_simp, h.below (bnew (brefl w) _), (Keeps.refl _ w).alloc _⟩
  have hz := block_lt_of_cell x0
  have hcc := hc _ hm
  clear h hm hc
  go_enter Try.func13, Try.ntmps13
  go_wp2_with fail
  refine hcc.mono ?_
  rintro e w1 ⟨rfl, hm, hk⟩
  go_wp2
  go_ret2
  exact ⟨rfl, hm, kb.trans_ hk⟩

set_option maxHeartbeats 4000000 in
set_option maxRecDepth 100000 in
theorem do_cas {w : World} {p g : Nat} {m m' : Mem} (h : MBox w p g m) (k : Int) (k0 : k ≠ 0) (k1 : k ≠ 1) (a od nx : Int) (b : Bool)
    (hc : ∀ w, MBox w p g m → Calls Try.prog 10 #[.pointer (some ⟨p, 0, none⟩), .int .i64 a, .int .u64 od, .int .u64 nx] w fun e w' => e = .returned (.bool b) ∧ MBox w' p g m' ∧ Keeps (SS p g) w w') :
    Calls Try.prog 13 #[.pointer (some ⟨p, 0, none⟩), .agg #[.int .i64 k, .int .i64 a, .int .u64 od, .int .u64 nx]] w fun e w' => e = .returned (.tuple #[.int .u64 0, .bool b]) ∧ MBox w' p g m' ∧ Keeps (SS p g) w w' := by
  obtain ⟨W0, hW0, x0, x1, x2, x3, hm, kb⟩ : ∃ W0, w.alloc (.cells #[.int .i64 k, .int .i64 a, .int .u64 od, .int .u64 nx] 34) = W0 ∧ W0.cell? ⟨w.heap.size, 0, none⟩ = some (.int .i64 k) ∧ W0.cell? ⟨w.heap.size, 1, none⟩ = some (.int .i64 a) ∧ W0.cell? ⟨w.heap.size, 2, none⟩ = some (.int .u64 od) ∧ W0.cell? ⟨w.heap.size, 3, none⟩ = some (.int .u64 nx) ∧ MBox W0 p g m ∧ Keeps (SS p g) w W0 :=
    ⟨_, rfl, by go_simp, by go_simp, by go_simp, by go_simp, h.below (bnew (brefl w) _), (Keeps.refl _ w).alloc _⟩
  have hz := block_lt_of_cell x0
  have hcc := hc _ hm
  clear h hm hc
  have t0 : (k == 0) = false := by simpa using k0
  have t1 : (k == 1) = false := by simpa using k1
  clear k0 k1
  go_enter Try.func13, Try.ntmps13
  go_wp2_with fail
  refine hcc.mono ?_
  rintro e w1 ⟨rfl, hm, hk⟩
  go_wp2
  go_ret2
  exact ⟨rfl, hm, kb.trans_ hk⟩

theorem do_any {w : World} {p g : Nat} {m : Mem} (h : MBox w p g m) (hl : m.ws.length ≤ 4096) (h1 : 0 ≤ m.ac) (h2 : m.ac ≤ 100000) (h3 : 0 ≤ m.wr) (h4 : m.wr ≤ 100000) (o : MOp) : Calls Try.prog 13 #[.pointer (some ⟨p, 0, none⟩), .agg #[.int .i64 o.k, .int .i64 o.a, .int .u64 o.old, .int .u64 o.nx]] w fun e w' => e = .returned (.tuple #[.int .u64 (m.step o).2.1, .bool (m.step o).2.2]) ∧ MBox w' p g (m.step o).1 ∧ Keeps (SS p g) w w' := by
  obtain ⟨k, a, od, nx⟩ := o
  rcases (by omega : (a < 0 ∨ (m.ws.length : Int) ≤ a) ∨ (0 ≤ a ∧ a < (m.ws.length : Int))) with ha | ⟨ha, hb⟩
  · rw [st_out (o := ⟨k, a, od, nx⟩) ha]
    by_cases k0 : k = 0
    · subst k0
      exact do_load h a od nx 0 fun w hm => load_out hm hl h1 h2 h3 h4 a ha
    · by_cases k1 : k = 1
      · subst k1
        exact do_store h a od nx fun w hm => store_out hm hl h1 h2 h3 h4 a nx ha
      · exact do_cas h k k0 k1 a od nx false fun w hm => cas_out hm hl h1 h2 h3 h4 a od nx ha
  · obtain ⟨x, hx⟩ : ∃ x, m.ws[a.toNat]? = some x := ⟨_, List.getElem?_eq_getElem (by omega)⟩
    by_cases k0 : k = 0
    · subst k0
      rw [st_load (o := ⟨0, a, od, nx⟩) ha hx rfl]
      exact do_load h a od nx x fun w hm => load_in hm hl h1 h2 h3 h4 a ha hx
    · by_cases k1 : k = 1
      · subst k1
        rw [st_store (o := ⟨1, a, od, nx⟩) ha hb rfl]
        exact do_store h a od nx fun w hm => store_in hm hl h1 h2 h3 h4 a nx ha hb
      · by_cases hxo : x = od
        · subst hxo
          rw [st_cas (o := ⟨k, a, x, nx⟩) ha hx k0 k1]
          exact do_cas h k k0 k1 a x nx true fun w hm => cas_yes hm hl h1 h2 h3 h4 a x nx ha hx
        · rw [st_miss (o := ⟨k, a, od, nx⟩) ha hx hxo k0 k1]
          exact do_cas h k k0 k1 a od nx false fun w hm => cas_no hm hl h1 h2 h3 h4 a od nx ha hx hxo
end Go.Proofs.Ytkfdikbmcleaoaa
