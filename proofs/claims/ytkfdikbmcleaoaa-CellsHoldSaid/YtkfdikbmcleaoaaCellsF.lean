/- The law CellsPlay: the walk. -/
import Derived.Test.YtkfdikbmcleaoaaCellsE
namespace Go.Proofs.Ytkfdikbmcleaoaa
set_option linter.unusedVariables false
set_option linter.unusedSimpArgs false
open Go.RowKit

def opc (o : MOp) : List Value := [.int .i64 o.k, .int .i64 o.a, .int .u64 o.old, .int .u64 o.nx]
theorem opc_len (o : MOp) : (opc o).length = 4 := rfl
theorem Blk.six {w : World} {q : Nat} {t : TypeId} {a0 a1 a2 a3 a4 a5 : Value} (h : Blk w q t #[a0, a1, a2, a3, a4, a5]) (v0 v1 v2 v3 v4 v5 : Value) :
    Blk ((((((w.setCell ⟨q, 0, none⟩ v0).setCell ⟨q, 1, none⟩ v1).setCell ⟨q, 2, none⟩ v2).setCell ⟨q, 3, none⟩ v3).setCell ⟨q, 4, none⟩ v4).setCell ⟨q, 5, none⟩ v5) q t #[v0, v1, v2, v3, v4, v5] := by
  simpa using (((((h.set_ 0 v0).set_ 1 v1).set_ 2 v2).set_ 3 v3).set_ 4 v4).set_ 5 v5
/-- Block q holds the document's memory, whose words lie at A. -/
structure RBox (w : World) (q : Nat) (m : Mem) (A : Option Addr) (c : Nat) : Prop where
  b : Blk w q 44 #[.slice A m.ws.length c, .int .i64 m.ac, .int .i64 m.wr, .int .i64 m.la, .bool m.nm, .bool m.ft]
  s : Sl us w A m.ws.length c m.ws
theorem RBox.below {w w' : World} {q : Nat} {m : Mem} {A : Option Addr} {c : Nat} (h : RBox w q m A c) (hb : Below w.heap.size w w') : RBox w' q m A c := ⟨h.b.below_ hb, h.s.below hb⟩
theorem RBox.keeps {w w' : World} {S : Nat → Prop} {q : Nat} {m : Mem} {A : Option Addr} {c : Nat} (h : RBox w q m A c) (hk : Keeps S w w') (h1 : ¬ S q) (h2 : ∀ ad, A = some ad → ¬ S ad.block) : RBox w' q m A c := ⟨hk.blk h.b h1, hk.sl h.s h2⟩
theorem RBox.c0 {w : World} {q : Nat} {m : Mem} {A : Option Addr} {c : Nat} (h : RBox w q m A c) : w.cell? ⟨q, 0, none⟩ = some (.slice A m.ws.length c) := h.b.cell 0
theorem RBox.c1 {w : World} {q : Nat} {m : Mem} {A : Option Addr} {c : Nat} (h : RBox w q m A c) : w.cell? ⟨q, 1, none⟩ = some (.int .i64 m.ac) := h.b.cell 1
theorem RBox.c2 {w : World} {q : Nat} {m : Mem} {A : Option Addr} {c : Nat} (h : RBox w q m A c) : w.cell? ⟨q, 2, none⟩ = some (.int .i64 m.wr) := h.b.cell 2
theorem RBox.c3 {w : World} {q : Nat} {m : Mem} {A : Option Addr} {c : Nat} (h : RBox w q m A c) : w.cell? ⟨q, 3, none⟩ = some (.int .i64 m.la) := h.b.cell 3
theorem RBox.c4 {w : World} {q : Nat} {m : Mem} {A : Option Addr} {c : Nat} (h : RBox w q m A c) : w.cell? ⟨q, 4, none⟩ = some (.bool m.nm) := h.b.cell 4
theorem RBox.c5 {w : World} {q : Nat} {m : Mem} {A : Option Addr} {c : Nat} (h : RBox w q m A c) : w.cell? ⟨q, 5, none⟩ = some (.bool m.ft) := h.b.cell 5
theorem RBox.mk_ {w : World} {q : Nat} {m : Mem} {A : Option Addr} {c n : Nat} (hb : Blk w q 44 #[.slice A n c, .int .i64 m.ac, .int .i64 m.wr, .int .i64 m.la, .bool m.nm, .bool m.ft]) (hs : Sl us w A n c m.ws) (hn : m.ws.length = n) : RBox w q m A c := by
  subst hn
  exact ⟨hb, hs⟩
theorem Sl.six {α : Type} {f : α → List Value} {w : World} {A : Option Addr} {n c q : Nat} {l : List α} (h : Sl f w A n c l) (hp : ∀ ad, A = some ad → ad.block ≠ q) (v0 v1 v2 v3 v4 v5 : Value) :
    Sl f ((((((w.setCell ⟨q, 0, none⟩ v0).setCell ⟨q, 1, none⟩ v1).setCell ⟨q, 2, none⟩ v2).setCell ⟨q, 3, none⟩ v3).setCell ⟨q, 4, none⟩ v4).setCell ⟨q, 5, none⟩ v5) A n c l :=
  (((((h.setCell (p := ⟨q, 0, none⟩) hp v0).setCell (p := ⟨q, 1, none⟩) hp v1).setCell (p := ⟨q, 2, none⟩) hp v2).setCell (p := ⟨q, 3, none⟩) hp v3).setCell (p := ⟨q, 4, none⟩) hp v4).setCell (p := ⟨q, 5, none⟩) hp v5
theorem MBox.six {w : World} {p g q : Nat} {m : Mem} (h : MBox w p g m) (h1 : q ≠ p) (h2 : q ≠ g) (v0 v1 v2 v3 v4 v5 : Value) :
    MBox ((((((w.setCell ⟨q, 0, none⟩ v0).setCell ⟨q, 1, none⟩ v1).setCell ⟨q, 2, none⟩ v2).setCell ⟨q, 3, none⟩ v3).setCell ⟨q, 4, none⟩ v4).setCell ⟨q, 5, none⟩ v5) p g m :=
  (((((h.far h1 h2 v0).far h1 h2 v1).far h1 h2 v2).far h1 h2 v3).far h1 h2 v4).far h1 h2 v5
theorem keep_six {w : World} {b o q : Nat} {u : Value} (h : w.cell? ⟨b, o, none⟩ = some u) (hq : q ≠ b) (v0 v1 v2 v3 v4 v5 : Value) :
    ((((((w.setCell ⟨q, 0, none⟩ v0).setCell ⟨q, 1, none⟩ v1).setCell ⟨q, 2, none⟩ v2).setCell ⟨q, 3, none⟩ v3).setCell ⟨q, 4, none⟩ v4).setCell ⟨q, 5, none⟩ v5).cell? ⟨b, o, none⟩ = some u :=
  keep_set (keep_set (keep_set (keep_set (keep_set (keep_set h hq) hq) hq) hq) hq) hq
theorem below_six {B : Nat} {a w : World} {q : Nat} (h : Below B a w) (hq : B ≤ q) (v0 v1 v2 v3 v4 v5 : Value) :
    Below B a ((((((w.setCell ⟨q, 0, none⟩ v0).setCell ⟨q, 1, none⟩ v1).setCell ⟨q, 2, none⟩ v2).setCell ⟨q, 3, none⟩ v3).setCell ⟨q, 4, none⟩ v4).setCell ⟨q, 5, none⟩ v5) :=
  (((((h.setCell (p := ⟨q, 0, none⟩) hq v0).setCell (p := ⟨q, 1, none⟩) hq v1).setCell (p := ⟨q, 2, none⟩) hq v2).setCell (p := ⟨q, 3, none⟩) hq v3).setCell (p := ⟨q, 4, none⟩) hq v4).setCell (p := ⟨q, 5, none⟩) hq v5
theorem Sl.lt_ {w : World} {A : Option Addr} {n c : Nat} {l : List Int} (h : Sl us w A n c l) (hn : 1 ≤ n) : ∀ ad, A = some ad → ad.block < w.heap.size := by
  refine h.rd.lt ?_
  rw [us_map]
  intro e
  have := congrArg List.length e
  simp at this
  have hl := h.len
  rw [this] at hl
  simp at hl
  omega
def Apart (A : Option Addr) (p g q : Nat) : Prop := ∀ ad, A = some ad → ad.block ≠ p ∧ ad.block ≠ g ∧ ad.block ≠ q
def Fits (m : Mem) (k : Nat) : Prop := m.ws.length ≤ 4096 ∧ m.ac = (k : Int) ∧ 0 ≤ m.wr ∧ m.wr ≤ (k : Int) ∧ 1 ≤ m.ws.length


def CutR (w1 : World) (m' : Mem) (A : Option Addr) (s12 : Value) (w' : World) : Prop := ∃ B A1 c1, s12 = .pointer (some ⟨B, 0, none⟩) ∧ RBox w' B m' A1 c1 ∧ (A1 = A ∨ ∀ ad, A1 = some ad → w1.heap.size ≤ ad.block) ∧ w1.heap.size ≤ B ∧ Below w1.heap.size w1 w'
set_option maxHeartbeats 4000000 in
set_option maxRecDepth 100000 in
theorem play_walk {w : World} {A B : Option Addr} {c no co : Nat} {l : List Int} {ops : List MOp} (hs : Sl us w A l.length c l) (ho : Sl opc w B no co ops) (h1 : 1 ≤ l.length) (h2 : l.length ≤ 4096) (h3 : no ≤ 60) (o : MOp) :
    Calls Try.prog 5 #[.slice A l.length c, .slice B no co, .agg #[.int .i64 o.k, .int .i64 o.a, .int .u64 o.old, .int .u64 o.nx]] w fun e w' => e = .returned (.bool true) ∧ Below w.heap.size w w' := by
  have t1 : decide ((l.length : Int) < 1) = false := decide_eq_false (by omega)
  have t2 : decide ((4096 : Int) < (l.length : Int)) = false := decide_eq_false (by omega)
  have t3 : decide ((60 : Int) < (no : Int)) = false := decide_eq_false (by omega)
  have hoff : ∀ ad, A = some ad → ad.block < w.heap.size := hs.lt_ h1
  go_enter Try.func5, Try.ntmps5
  go_wp2_with fail
  obtain ⟨W0, hW0, z0, z1, z2, z3, hs0, kb⟩ : ∃ W0, w.alloc (.cells #[.int .i64 o.k, .int .i64 o.a, .int .u64 o.old, .int .u64 o.nx] 34) = W0 ∧ W0.cell? ⟨w.heap.size, 0, none⟩ = some (.int .i64 o.k) ∧ W0.cell? ⟨w.heap.size, 1, none⟩ = some (.int .i64 o.a) ∧ W0.cell? ⟨w.heap.size, 2, none⟩ = some (.int .u64 o.old) ∧ W0.cell? ⟨w.heap.size, 3, none⟩ = some (.int .u64 o.nx) ∧ Sl us W0 A l.length c l ∧ Below w.heap.size w W0 :=
    ⟨_, rfl, by go_simp, by go_simp, by go_simp, by go_simp, hs.alloc _, bnew (brefl w) _⟩
  rw [hW0]
  clear hW0
  have hz := block_lt_of_cell z0
  refine (of_yes hs0 h1 h2).mono ?_
  rintro e w1 ⟨p, g, rfl, hm, hp, hg, hb1⟩
  have z0 := keep_below z0 hb1
  have z1 := keep_below z1 hb1
  have z2 := keep_below z2 hb1
  have z3 := keep_below z3 hb1
  have hs1 := hs0.below hb1
  have kb1 := bnext kb hb1
  have hpp : w.heap.size < p := by have := hz; simp at this; omega
  have hgg : w.heap.size < g := by have := hz; simp at this; omega
  have hpl := hm.b.lt
  have hgl := hm.r.lt
  clear hs0 hp hg hb1 kb hz hs
  go_upto_region 7 with (fail)
  obtain ⟨W2, hW2, hx, z0, z1, z2, z3, hm, kb2, hq1, hq2, hq3⟩ : ∃ W2, w1.alloc (.cells #[.slice A l.length c, .int .i64 0, .int .i64 0, .int .i64 0, .bool false, .bool false] 44) = W2 ∧ RBox W2 w1.heap.size (mem0 l) A c ∧ W2.cell? ⟨w.heap.size, 0, none⟩ = some (.int .i64 o.k) ∧ W2.cell? ⟨w.heap.size, 1, none⟩ = some (.int .i64 o.a) ∧ W2.cell? ⟨w.heap.size, 2, none⟩ = some (.int .u64 o.old) ∧ W2.cell? ⟨w.heap.size, 3, none⟩ = some (.int .u64 o.nx) ∧ MBox W2 p g (mem0 l) ∧ Below w.heap.size w W2 ∧ w.heap.size < w1.heap.size ∧ p ≠ w1.heap.size ∧ g ≠ w1.heap.size :=
    ⟨_, rfl, ⟨Blk.new _ _ _, hs1.alloc _⟩, keep_below z0 (bnew (brefl _) _), keep_below z1 (bnew (brefl _) _), keep_below z2 (bnew (brefl _) _), keep_below z3 (bnew (brefl _) _), hm.below (bnew (brefl _) _), bnew kb1 _, by omega, by omega, by omega⟩
  rw [hW2]
  have hA : Hid (Apart A p g w1.heap.size) := fun ad h => by have := hoff ad h; exact ⟨by omega, by omega, by omega⟩
  clear hW2 hs1 kb1 hpl hgl
  generalize w1.heap.size = q at *
  have hF : Hid (Fits (mem0 l) 0) := ⟨h2, rfl, Int.le_refl _, Int.le_refl _, h1⟩
  have hll : (mem0 l).ws.length = l.length := rfl
  have hsm := same_any hm hx.s h2
  have q0 := hx.c0
  have q1 := hx.c1
  have q2 := hx.c2
  have q3 := hx.c3
  have q4 := hx.c4
  have q5 := hx.c5
  have hzq := hx.b.lt
  rw [hll] at q0 hsm
  go_wp2_with fail
  refine hsm.mono ?_
  rintro e w3 ⟨rfl, hb3⟩
  have hx := hx.below hb3
  have hm := hm.below hb3
  have z0 := keep_below z0 hb3
  have z1 := keep_below z1 hb3
  have z2 := keep_below z2 hb3
  have z3 := keep_below z3 hb3
  have kb3 := bnext kb2 hb3
  clear hsm q0 q1 q2 q3 q4 q5 hzq hb3 kb2 hll t1 t2 t3
  generalize mem0 l = m at *
  go_wp2_with fail
  go_loopg [9] no (fun gk i wr => ∃ (k : Nat) (m : Mem) (A : Option Addr) (c : Nat), k + gk = no ∧ i = .int .i64 k ∧ MBox wr p g m ∧ RBox wr q m A c ∧ Hid (Apart A p g q) ∧ Hid (Fits m k) ∧ (wr.cell? ⟨w.heap.size, 0, none⟩ = some (.int .i64 o.k) ∧ wr.cell? ⟨w.heap.size, 1, none⟩ = some (.int .i64 o.a) ∧ wr.cell? ⟨w.heap.size, 2, none⟩ = some (.int .u64 o.old) ∧ wr.cell? ⟨w.heap.size, 3, none⟩ = some (.int .u64 o.nx)) ∧ Below w.heap.size w wr)
  case atStart => exact ⟨0, m, A, c, by omega, rfl, hm, hx, hA, hF, ⟨z0, z1, z2, z3⟩, kb3⟩
  case round =>
    clear z0 z1 z2 z3 hx hm kb3 hA hF hoff
    obtain ⟨k, m, A, c, hk, rfl, hm, hx, hA, hF, ⟨z0, z1, z2, z3⟩, hbW⟩ := hrel
    obtain ⟨f1, f2, f3, f4, f5⟩ := hF.out
    by_cases hlt : k < no
    · obtain ⟨b, o', rfl, hbb, hc⟩ := ho.base opc_len (by decide) (by omega)
      obtain ⟨x, hxx⟩ : ∃ x, ops[k]? = some x := ⟨_, List.getElem?_eq_getElem (by rw [ho.len]; exact hlt)⟩
      have c0 : wr.cell? ⟨b, o' + k * 4, none⟩ = some (.int .i64 x.k) := keep_below (hc k x 0 _ hxx rfl) hbW
      have c1 : wr.cell? ⟨b, o' + k * 4 + 1, none⟩ = some (.int .i64 x.a) := by rw [Nat.add_assoc]; exact keep_below (hc k x 1 _ hxx rfl) hbW
      have c2 : wr.cell? ⟨b, o' + k * 4 + 2, none⟩ = some (.int .u64 x.old) := by rw [Nat.add_assoc]; exact keep_below (hc k x 2 _ hxx rfl) hbW
      have c3 : wr.cell? ⟨b, o' + k * 4 + 3, none⟩ = some (.int .u64 x.nx) := by rw [Nat.add_assoc]; exact keep_below (hc k x 3 _ hxx rfl) hbW
      have b0 : (0 : Int) ≤ (k : Int) := by omega
      have b1 : (k : Int) < (no : Int) := by omega
      have hzr := block_lt_of_cell c0
      have hd := do_any hm f1 (by omega) (by omega) f3 (by omega) x
      have hr := fun (w : World) (h : Sl us w A m.ws.length c m.ws) => rdo_any h f1 (by omega) (by omega) f3 (by omega) x
      have e1 := st_len m x
      have e2 := st_ac m x
      have e3 := st_wr m x
      clear hc hxx
      generalize m.step x = st at *
      obtain ⟨m', v, bb⟩ := st
      dsimp only at *
      have hF' : Hid (Fits m' (k + 1)) := ⟨by omega, by omega, by omega, by omega, by omega⟩
      have E1 := Lib.hid e1
      have F2 := Lib.hid f2
      clear e1 e2 e3 f2
      go_wp2_with fail
      refine hd.mono ?_
      rintro e w1 ⟨rfl, hm1, hk1⟩
      have nq : ¬ SS p g q := by intro h; rcases h with h | h <;> omega
      have nz : ¬ SS p g w.heap.size := by intro h; rcases h with h | h <;> omega
      have nb : ¬ SS p g b := by intro h; rcases h with h | h <;> omega
      have hx1 := hx.keeps hk1 nq (fun ad h => by intro s; have := hA.out ad h; rcases s with s | s <;> omega)
      have c0 := hk1.cell c0 nb
      have c1 := hk1.cell c1 nb
      have c2 := hk1.cell c2 nb
      have c3 := hk1.cell c3 nb
      have z0 := hk1.cell z0 nz
      have z1 := hk1.cell z1 nz
      have z2 := hk1.cell z2 nz
      have z3 := hk1.cell z3 nz
      have hbW1 := hk1.below hbW hbW.size (fun x hx _ => by rcases hx with rfl | rfl <;> omega)
      have hAlt : Hid (∀ ad, A = some ad → ad.block < w1.heap.size) := hx1.s.lt_ f5
      clear hd hm hk1 hx nq nz nb hbW
      go_upto_region 13 with (fail)
      go_cut [12, 13, 14] (fun s12 s13 s14 w' => s13 = .int .u64 v ∧ s14 = .bool bb ∧ CutR w1 m' A s12 w')
      case first =>
        have q0 := hx1.c0
        have q1 := hx1.c1
        have q2 := hx1.c2
        have q3 := hx1.c3
        have q4 := hx1.c4
        have q5 := hx1.c5
        have hrs := hx1.s
        clear z0 z1 z2 z3 hx1 hm1
        have hX := @Ext.cell w1
        have hzz0 := block_lt_of_cell q0
        have hzz1 := block_lt_of_cell c0
        refine wp_region_noPanic ?_
        refine wp_region_tree (fun w' => ∃ x : Ext w1, w' = x.w) (PT.two [0, 1, 2, 3, 4] 5 (PT.one [6, 7, 8, 9] 10 (PT.one [] 11 (PT.fin [12, 13]))) 10 (PT.one [] 5 (PT.one [6, 7, 8, 9] 11 (PT.fin [12, 13])))) (by kernel_rfl) (by kernel_rfl) (by kernel_rfl) (fun _ _ _ _ _ h => h) ⟨⟨_, (brefl w1).drew⟩, rfl⟩ ?_
        refine wpTree_two ?_
        simp only [pickOps, List.getElem?_cons_succ, List.getElem?_cons_zero, Option.elim_some]
        repeat (go_big_quiet_step (fail))
        refine wpQuiet_nil ?_
        refine ⟨?_, ?_⟩
        · refine planAct_some (fun K hK => ?_)
          go_simp
          refine (hr _ hrs.drew).mono ?_
          rintro e wa ⟨A1, c1, rfl, hsa, hA1, hba⟩
          have hbx := bnext (brefl w1).drew hba
          go_wp2_with fail
          refine hK.out _ _ ⟨⟨_, hbx⟩, rfl⟩ ?_
          clear hK K
          refine wpTree_one ?_
          simp only [pickOps, List.getElem?_cons_succ, List.getElem?_cons_zero, Option.elim_some]
          repeat (go_big_quiet_step (fail))
          refine wpQuiet_nil ?_
          refine planAct_some (fun K hK => ?_)
          go_simp
          refine hK.out _ _ (ext_mem (bnew hbx _)) ?_
          clear hK K
          refine wpTree_one ?_
          simp only [pickOps, List.getElem?_cons_succ, List.getElem?_cons_zero, Option.elim_some]
          repeat (go_big_quiet_step (fail))
          refine wpQuiet_nil ?_
          refine planAct_some (fun K hK => ?_)
          go_simp
          refine hK.out _ _ (ext_mem (bnew hbx _)) ?_
          clear hK K
          refine wpTree_fin ?_
          simp only [pickOps, List.getElem?_cons_succ, List.getElem?_cons_zero, Option.elim_some]
          repeat (go_big_quiet_step (fail))
          refine wpQuiet_nil ?_
          refine NoPanic.normal ?_
          clear hX hzz0 hzz1
          go_wp2_with fail
          go_meet
          case rel => exact ⟨rfl, rfl, wa.heap.size, A1, c1, rfl, RBox.mk_ (Blk.new _ _ _) (hsa.alloc _) E1.out, hA1, hba.size, bnew hbx _⟩
        · refine planAct_some (fun K hK => ?_)
          go_simp
          refine hK.out _ _ (ext_mem (bnew (brefl w1).drew _)) ?_
          clear hK K
          refine wpTree_one ?_
          simp only [pickOps, List.getElem?_cons_succ, List.getElem?_cons_zero, Option.elim_some]
          repeat (go_big_quiet_step (fail))
          refine wpQuiet_nil ?_
          refine planAct_some (fun K hK => ?_)
          go_simp
          refine (hr _ (hrs.drew.alloc _)).mono ?_
          rintro e wa ⟨A1, c1, rfl, hsa, hA1, hba⟩
          have hbx := bnext (bnew (brefl w1).drew _) hba
          have hnb : Blk wa w1.heap.size 44 #[.slice none 0 0, .int .i64 0, .int .i64 0, .int .i64 0, .bool false, .bool false] := (Blk.new w1.drew _ _).below_ hba
          have nc0 := hnb.cell_ (i := 0) rfl
          have nc1 := hnb.cell_ (i := 1) rfl
          have nc2 := hnb.cell_ (i := 2) rfl
          have nc3 := hnb.cell_ (i := 3) rfl
          have nc4 := hnb.cell_ (i := 4) rfl
          have nc5 := hnb.cell_ (i := 5) rfl
          have nf0 := hnb.frozen 0
          have nf1 := hnb.frozen 1
          have nf2 := hnb.frozen 2
          have nf3 := hnb.frozen 3
          have nf4 := hnb.frozen 4
          have nf5 := hnb.frozen 5
          have hzn := hnb.lt
          go_wp2_with fail
          refine hK.out _ _ ⟨⟨_, hbx⟩, rfl⟩ ?_
          clear hK K
          refine wpTree_one ?_
          simp only [pickOps, List.getElem?_cons_succ, List.getElem?_cons_zero, Option.elim_some]
          repeat (go_big_quiet_step (fail))
          refine wpQuiet_nil ?_
          refine planAct_some (fun K hK => ?_)
          go_simp
          refine hK.out _ _ (ext_mem (below_six hbx (Nat.le_refl _) _ _ _ _ _ _)) ?_
          clear hK K
          refine wpTree_fin ?_
          simp only [pickOps, List.getElem?_cons_succ, List.getElem?_cons_zero, Option.elim_some]
          repeat (go_big_quiet_step (fail))
          refine wpQuiet_nil ?_
          refine NoPanic.normal ?_
          clear hX hzz0 hzz1
          go_wp2_with fail
          go_meet
          case rel => exact ⟨rfl, rfl, w1.heap.size, A1, c1, rfl, RBox.mk_ (hnb.six _ _ _ _ _ _) (hsa.six (fun ad h => by rcases hA1 with e | e; · { subst e; have := hAlt.out ad h; omega }; · { have := e ad h; simp at this; omega }) _ _ _ _ _ _) E1.out, (hA1.imp id fun e ad h => by have := e ad h; simp at this; omega), Nat.le_refl _, below_six hbx (Nat.le_refl _) _ _ _ _ _ _⟩
      case rest =>
        obtain ⟨rfl, rfl, B12, A1, cA, rfl, hx12, hA1, hB12, hb12⟩ := hcut
        have hpl := hm1.b.lt
        have hgl := hm1.r.lt
        have hql := hx1.b.lt
        have hmc := hm1.below hb12
        have hxc := hx1.below hb12
        have z0 := keep_below z0 hb12
        have z1 := keep_below z1 hb12
        have z2 := keep_below z2 hb12
        have z3 := keep_below z3 hb12
        have hbc := bnext hbW1 hb12
        have hA2 : Hid (Apart A1 p g q) := fun ad h => by
          rcases hA1 with e | e
          · subst e
            exact hA.out ad h
          · have := e ad h
            exact ⟨by omega, by omega, by omega⟩
        have y0 := hx12.c0
        have y1 := hx12.c1
        have y2 := hx12.c2
        have y3 := hx12.c3
        have y4 := hx12.c4
        have y5 := hx12.c5
        have q0 := hxc.c0
        have q1 := hxc.c1
        have q2 := hxc.c2
        have q3 := hxc.c3
        have q4 := hxc.c4
        have q5 := hxc.c5
        have g0 := hxc.b.frozen 0
        have g1 := hxc.b.frozen 1
        have g2 := hxc.b.frozen 2
        have g3 := hxc.b.frozen 3
        have g4 := hxc.b.frozen 4
        have g5 := hxc.b.frozen 5
        have hBq : B12 ≠ q := by omega
        clear hm1 hx1 hbW1 hA hAlt hr hA1 c0 c1 c2 c3
        go_upto_region 15 with (fail)
        obtain ⟨W15, hW15, hm15, hx15, ⟨z0, z1, z2, z3⟩, hb15⟩ : ∃ W15, (((((wc.setCell ⟨q, 0, none⟩ (.slice A1 m'.ws.length cA)).setCell ⟨q, 1, none⟩ (.int .i64 m'.ac)).setCell ⟨q, 2, none⟩ (.int .i64 m'.wr)).setCell ⟨q, 3, none⟩ (.int .i64 m'.la)).setCell ⟨q, 4, none⟩ (.bool m'.nm)).setCell ⟨q, 5, none⟩ (.bool m'.ft) = W15 ∧ MBox W15 p g m' ∧ RBox W15 q m' A1 cA ∧ (W15.cell? ⟨w.heap.size, 0, none⟩ = some (.int .i64 o.k) ∧ W15.cell? ⟨w.heap.size, 1, none⟩ = some (.int .i64 o.a) ∧ W15.cell? ⟨w.heap.size, 2, none⟩ = some (.int .u64 o.old) ∧ W15.cell? ⟨w.heap.size, 3, none⟩ = some (.int .u64 o.nx)) ∧ Below w.heap.size w W15 :=
          ⟨_, rfl, hmc.six (by omega) (by omega) _ _ _ _ _ _, ⟨hxc.b.six _ _ _ _ _ _, hx12.s.six (fun ad h => (hA2.out ad h).2.2) _ _ _ _ _ _⟩, ⟨keep_six z0 (by omega) _ _ _ _ _ _, keep_six z1 (by omega) _ _ _ _ _ _, keep_six z2 (by omega) _ _ _ _ _ _, keep_six z3 (by omega) _ _ _ _ _ _⟩, below_six hbc (by omega) _ _ _ _ _ _⟩
        rw [hW15]
        clear hW15 hmc hxc hx12 y0 y1 y2 y3 y4 y5 q0 q1 q2 q3 q4 q5 g0 g1 g2 g3 g4 g5 hbc hBq hb12
        have q0 := hx15.c0
        have q1 := hx15.c1
        have q2 := hx15.c2
        have q3 := hx15.c3
        have q4 := hx15.c4
        have q5 := hx15.c5
        have hzq := hx15.b.lt
        have hsm := same_any hm15 hx15.s hF'.out.1
        have u1 : (v != v) = false := by simp
        have u2 : (bb != bb) = false := by simp
        go_wp2_with fail
        refine hsm.mono ?_
        rintro e w20 ⟨rfl, hb20⟩
        go_wp2
        go_roundg (gk - 1)
        case measure => omega
        case rel => exact ⟨k + 1, m', A1, cA, by omega, by go_num, hm15.below hb20, hx15.below hb20, hA2, hF', ⟨keep_below z0 hb20, keep_below z1 hb20, keep_below z2 hb20, keep_below z3 hb20⟩, bnext hb15 hb20⟩
    · obtain rfl : k = no := by omega
      have hcl := clone_any hm f1
      have a1 : 0 ≤ m.ac := by omega
      have a2 : m.ac ≤ 100000 := by omega
      have a3 : m.wr ≤ 100000 := by omega
      clear f2 f4
      have hxw := hx.s.lt_ f5
      have hAw : Hid (∀ ad, A = some ad → ad.block < wr.heap.size) := hxw
      have e1 := st_len m o
      have hzp := hm.b.lt
      have hzg := hm.r.lt
      have hzq := hx.b.lt
      obtain ⟨st, hst'⟩ : ∃ st, m.step o = st := ⟨_, rfl⟩
      rw [hst'] at e1
      obtain ⟨m', v, bb⟩ := st
      dsimp only at e1
      have hst := Lib.hid hst'
      have E1 := Lib.hid e1
      clear e1 hst' hxw
      go_wp2_with fail
      refine hcl.mono ?_
      rintro e w2 ⟨p', g', rfl, hmc, hp', hg', hb2⟩
      have hm := hm.below hb2
      have hx := hx.below hb2
      have z0 := keep_below z0 hb2
      have z1 := keep_below z1 hb2
      have z2 := keep_below z2 hb2
      have z3 := keep_below z3 hb2
      have hbW := bnext hbW hb2
      have q0 := hx.c0
      have q1 := hx.c1
      have q2 := hx.c2
      have q3 := hx.c3
      have q4 := hx.c4
      have q5 := hx.c5
      have hzq2 := hx.b.lt
      have hzw := block_lt_of_cell z0
      have hsm := same_any hmc hx.s f1
      clear hcl hb2
      go_wp2_with fail
      refine hsm.mono ?_
      rintro e w3 ⟨rfl, hb3⟩
      have hm := hm.below hb3
      have hmc := hmc.below hb3
      have hx := hx.below hb3
      have z0 := keep_below z0 hb3
      have z1 := keep_below z1 hb3
      have z2 := keep_below z2 hb3
      have z3 := keep_below z3 hb3
      have hbW := bnext hbW hb3
      have hzw := block_lt_of_cell z0
      have hd := do_any hmc f1 a1 a2 f3 a3 o
      rw [hst.out] at hd
      dsimp only at hd
      clear hsm hb3 q0 q1 q2 q3 q4 q5 hzq2
      go_wp2_with fail
      refine hd.mono ?_
      rintro e w4 ⟨rfl, hmd, hk4⟩
      have np : ¬ SS p' g' p := by intro h; rcases h with h | h <;> omega
      have ng : ¬ SS p' g' g := by intro h; rcases h with h | h <;> omega
      have nq : ¬ SS p' g' q := by intro h; rcases h with h | h <;> omega
      have hm : MBox w4 p g m := ⟨hk4.blk hm.b np, hk4.blk hm.r ng⟩
      have nz : ¬ SS p' g' w.heap.size := by intro h; rcases h with h | h <;> omega
      have hx := hx.keeps hk4 nq (fun ad h => by intro s; have := hAw.out ad h; rcases s with s | s <;> omega)
      have z0 := hk4.cell z0 nz
      have z1 := hk4.cell z1 nz
      have z2 := hk4.cell z2 nz
      have z3 := hk4.cell z3 nz
      have hbW := hk4.below hbW hbW.size (fun x hx _ => by rcases hx with rfl | rfl <;> omega)
      have hr := rdo_any hx.s f1 a1 a2 f3 a3 o
      rw [hst.out] at hr
      dsimp only at hr
      have q0 := hx.c0
      have q1 := hx.c1
      have q2 := hx.c2
      have q3 := hx.c3
      have q4 := hx.c4
      have q5 := hx.c5
      have hzq4 := hx.b.lt
      have hzw := block_lt_of_cell z0
      clear hd hk4
      go_wp2_with fail
      refine hr.mono ?_
      rintro e w5 ⟨A1, c1, rfl, hsa, hA1, hb5⟩
      have hm := hm.below hb5
      have hmd := hmd.below hb5
      have hx := hx.below hb5
      have hbW := bnext hbW hb5
      clear hr hb5 hA1 hzq4 z0 z1 z2 z3 q0 q1 q2 q3 q4 q5 np ng nq nz hzw
      go_upto_region 22 with (fail)
      obtain ⟨W6, hW6, hm, hmd, hx, hy, hbW⟩ : ∃ W6, w5.alloc (.cells #[.slice A1 m.ws.length c1, .int .i64 m'.ac, .int .i64 m'.wr, .int .i64 m'.la, .bool m'.nm, .bool m'.ft] 44) = W6 ∧ MBox W6 p g m ∧ MBox W6 p' g' m' ∧ RBox W6 q m A c ∧ RBox W6 w5.heap.size m' A1 c1 ∧ Below w.heap.size w W6 :=
        ⟨_, rfl, hm.below (bnew (brefl _) _), hmd.below (bnew (brefl _) _), hx.below (bnew (brefl _) _), RBox.mk_ (Blk.new _ _ _) (hsa.alloc _) E1.out, bnew hbW _⟩
      rw [hW6]
      clear hW6 hsa
      generalize w5.heap.size = B6 at *
      have y0 := hy.c0
      rw [E1.out] at y0
      have y1 := hy.c1
      have y2 := hy.c2
      have y3 := hy.c3
      have y4 := hy.c4
      have y5 := hy.c5
      have q0 := hx.c0
      have q1 := hx.c1
      have q2 := hx.c2
      have q3 := hx.c3
      have q4 := hx.c4
      have q5 := hx.c5
      have hzy := hy.b.lt
      have hzq := hx.b.lt
      have hsm := same_any hmd hy.s (by rw [E1.out]; exact f1)
      rw [E1.out] at hsm
      go_wp2_with fail
      refine hsm.mono ?_
      rintro e w7 ⟨rfl, hb7⟩
      have hm := hm.below hb7
      have hx := hx.below hb7
      have hbW := bnext hbW hb7
      have q0 := hx.c0
      have q1 := hx.c1
      have q2 := hx.c2
      have q3 := hx.c3
      have q4 := hx.c4
      have q5 := hx.c5
      have hzq := hx.b.lt
      have hsm := same_any hm hx.s f1
      clear hb7 hmd hy y0 y1 y2 y3 y4 y5 hzy
      go_wp2_with fail
      refine hsm.mono ?_
      rintro e w8 ⟨rfl, hb8⟩
      go_wp2_with fail
      refine (lives06 _).mono ?_
      rintro e w9 ⟨rfl, hb9⟩
      go_wp2
      go_ret
      exact ⟨rfl, bnext (bnext hbW hb8) hb9⟩
end Go.Proofs.Ytkfdikbmcleaoaa
