/- The script of bytes, by the document. -/
import Derived.Test.YtknngjdcbldmgaaDoorSctG
import Derived.Test.YtknngjdcbldmgaaDoorPlanU
namespace Go.Proofs.YtknngjdcbldmgaaDoor
set_option linter.unusedVariables false
set_option linter.unusedSimpArgs false
open Go.RowKit
def RTakeR (w : World) (x : Except Int Scr) (e : Ending) (w' : World) : Prop := Below w.heap.size w w' ∧ match x with
  | .error n => e = .returned (.tuple #[.agg #[.int .i64 0, .int .i64 0, .int .i64 0, .int .i64 0, .int .i64 0, .int .i64 0, .int .i64 0, .int .i64 0, .int .i64 0, .int .i64 0, .int .i64 0, .int .i64 0, .int .i64 0, .int .i64 0, .slice none 0 0, .slice none 0 0, .slice none 0 0, .slice none 0 0, .slice none 0 0, .slice none 0 0, .slice none 0 0, .slice none 0 0, .slice none 0 0], .int .i64 n])
  | .ok s => ∃ us EA ec, e = .returned (.tuple #[.agg (scc s.c us (.slice EA s.es.length ec)).toArray, .int .i64 0]) ∧ PIn (fun b => b < w.heap.size) w' us s.ps ∧ Sl enc_ w' EA s.es.length ec s.es
theorem results_ct {fn : Func} {p1 p2 : Tmp} {tmps : Array Value} {w : World} {a : Nat} {cs : Array Value} {v : Value} (h : fn.results = #[.cell p1 29, .tmp p2]) (h1 : tmps.getD p1 undef = .pointer (some ⟨a, 0, none⟩)) (h2 : tmps.getD p2 undef = v) (ha : Blk w a 29 cs) (hs : (Tryd.prog.info? 29).map (·.size) = some cs.size) : (results fn tmps).run Tryd.prog w = .ok (.tuple #[.agg cs, v]) w := by
  have h1' : tmps[p1]?.getD undef = .pointer (some ⟨a, 0, none⟩) := by simpa using h1
  have h2' : tmps[p2]?.getD undef = v := by simpa using h2
  have hl := run_loadVar_row w a 29 29 cs (0, 0) _ ha Tryd.underlying29 rfl hs
  simp [results, h, h1', h2', asAddr, hl]
def cfK (l : List Int) (k : Nat) : Cf := ⟨bt l 0, bt l 1, if 0 < k then bt l 2 else 0, if 1 < k then bt l 3 else 0, if 2 < k then bt l 4 else 0, if 3 < k then bt l 5 else 0, if 4 < k then bt l 6 else 0, if 5 < k then bt l 7 else 0, if 6 < k then bt l 8 else 0, if 7 < k then bt l 9 else 0, bt l 10, bt l 11, numR ((l.drop 12).take 3), bt l 15⟩
theorem cfK_8 (l : List Int) : cfK l 8 = confL l := by simp [cfK, confL]
theorem cfK_step (l : List Int) {k : Nat} (hk : k < 8) : (scc (cfK l k) nil8 (.slice none 0 0)).set (2 + k) (.int .i64 (bt l (2 + k))) = scc (cfK l (k + 1)) nil8 (.slice none 0 0) := by
  rcases (by omega : k = 0 ∨ k = 1 ∨ k = 2 ∨ k = 3 ∨ k = 4 ∨ k = 5 ∨ k = 6 ∨ k = 7) with rfl | rfl | rfl | rfl | rfl | rfl | rfl | rfl <;> simp [cfK, scc, cfc]
theorem cfK_at (l : List Int) {k : Nat} (hk : k < 8) : ∃ v, (scc (cfK l k) nil8 (.slice none 0 0))[2 + k]? = some v := by
  rcases (by omega : k = 0 ∨ k = 1 ∨ k = 2 ∨ k = 3 ∨ k = 4 ∨ k = 5 ∨ k = 6 ∨ k = 7) with rfl | rfl | rfl | rfl | rfl | rfl | rfl | rfl <;> simp [scc, cfc]
theorem callL_drop (l : List Int) (j : Nat) : callL (l.drop j) = ⟨bt l j, bt l (j + 1), wrap64 (numR ((l.drop (j + 3)).take 8)), numR ((l.drop (j + 11)).take 8), numR ((l.drop (j + 19)).take 8), numR ((l.drop (j + 27)).take 8), bt l (j + 2)⟩ := by
  simp [callL, callX, bt, List.drop_drop, Nat.add_assoc]
theorem own_ltb {w : World} {base : Nat} {e : TypeId} {size n : Nat} {v : Value} {xs : List Value} (h : w.ownsRow base e size v n xs) : ∀ k, v.ownBlock = some k → k < w.heap.size := by
  intro k hk
  rcases h.2 with ⟨rfl, _⟩ | ⟨g, cap, cur, rfl, _, hh, _⟩
  · simp [Value.ownBlock] at hk
  · have : g = k := by simpa [Value.ownBlock] using hk
    subst this
    exact Blk.lt hh
/-- The slices' blocks are there. -/
def PLt (w : World) (us : List Value) : Prop := ∀ (j : Nat) (A : Option Addr) (n c : Nat), us[j]? = some (Value.slice A n c) → ∀ ad, A = some ad → ad.block < w.heap.size
structure ExtB2 (q : Nat) (t : TypeId) (cs : Array Value) (q' : Nat) (t' : TypeId) (cs' : Array Value) where
  w : World
  k : Blk w q t cs
  k' : Blk w q' t' cs'
theorem ext2_mem {w : World} {q : Nat} {t : TypeId} {cs : Array Value} {q' : Nat} {t' : TypeId} {cs' : Array Value} (h : Blk w q t cs) (h' : Blk w q' t' cs') : ∃ x : ExtB2 q t cs q' t' cs', w = x.w := ⟨⟨w, h, h'⟩, rfl⟩
theorem act_store_row {P : Program} {ops : Array Oper} {w : World} {o : Oper} {a : Act} {K : Act → World → Prop} {Q : Exit → Act → World → Prop} {L : Prop} (hgd : o.guard = none) (ty : TypeId) (x y : Operand) (ho : o.op = .store ty x y)
    (g : Nat) (cells : Array Value) (hx : a.eval x = .pointer (some ⟨g, 0, none⟩)) (hy : a.eval y = .agg cells)
    (t : TypeId) (old : Array Value) (hg : Blk w g t old) (hi : (P.info? ty).map (·.size) = some cells.size)
    (hold : old.size = cells.size) (h1 : cells.all (·.oneCell') = true)
    (h : K (a.put o.dst undef) (w.setRow g cells)) : if Region.wanted o (yielded ops a.tmps) = true then Oper.wp P o a w K Q else L := by
  rw [if_pos (by simp [Region.wanted, hgd])]
  exact wp_store_row ty x y ho g cells hx hy t old hg hi hold h1 h
theorem Sl.byte {w : World} {b o' n c : Nat} {l : List Int} (h : Sl b8l w (some ⟨b, o', none⟩) n c l) (hb : ∀ x, x ∈ l → 0 ≤ x ∧ x < 256) {i : Nat} (hi : i < l.length) : w.cell? ⟨b, o' + i, none⟩ = some (.int .u8 (bt l i)) ∧ 0 ≤ bt l i ∧ bt l i < 256 := by
  have e : bt l i = l[i] := by rw [bt, List.getD_eq_getElem?_getD, List.getElem?_eq_getElem hi]; rfl
  have h1 : (l.flatMap b8l)[i]? = some (.int .u8 (bt l i)) := by
    have e1 : ∀ l : List Int, l.flatMap b8l = l.map b8 := fun l => by induction l with
      | nil => rfl
      | cons a t ih => rw [List.flatMap_cons, ih]; rfl
    rw [e1, List.getElem?_map, List.getElem?_eq_getElem hi, e]
    rfl
  have h2 := h.rd.some_ _ _ h1
  rw [Addr.add_mid] at h2
  exact ⟨h2, by rw [e]; exact hb _ (List.getElem_mem hi)⟩
set_option maxHeartbeats 4000000 in
set_option maxRecDepth 100000 in
theorem rtake_any {w : World} {A : Option Addr} {n c : Nat} {l : List Int} (hS : Sl b8l w A n c l) (hb : ∀ x, x ∈ l → 0 ≤ x ∧ x < 256) (hl : l.length ≤ 900000) : Calls Tryd.prog 19 #[.slice A n c] w (RTakeR w (pScript l)) := by
  have hn := hS.len
  obtain ⟨a, ha⟩ : ∃ a, w.heap.size = a := ⟨_, rfl⟩
  obtain ⟨W0, hW0, A0, k0, z0⟩ : ∃ W0, w.alloc (.cells #[.int .i64 0, .int .i64 0, .int .i64 0, .int .i64 0, .int .i64 0, .int .i64 0, .int .i64 0, .int .i64 0, .int .i64 0, .int .i64 0, .int .i64 0, .int .i64 0, .int .i64 0, .int .i64 0, .slice none 0 0, .slice none 0 0, .slice none 0 0, .slice none 0 0, .slice none 0 0, .slice none 0 0, .slice none 0 0, .slice none 0 0, .slice none 0 0] 29) = W0 ∧ Blk W0 a 29 #[.int .i64 0, .int .i64 0, .int .i64 0, .int .i64 0, .int .i64 0, .int .i64 0, .int .i64 0, .int .i64 0, .int .i64 0, .int .i64 0, .int .i64 0, .int .i64 0, .int .i64 0, .int .i64 0, .slice none 0 0, .slice none 0 0, .slice none 0 0, .slice none 0 0, .slice none 0 0, .slice none 0 0, .slice none 0 0, .slice none 0 0, .slice none 0 0] ∧ Below w.heap.size w W0 ∧ W0.heap.size = a + 1 := ⟨_, rfl, by rw [← ha]; exact Blk.new _ _ _, bnew (brefl w) _, by simp [ha]⟩
  by_cases hs : l.length < 16
  · have HE : Hid (pScript l = .error 4) := by rw [Hid, pScript, if_pos hs]
    have hn16 : (n : Int) < 16 := by omega
    clear hs hS hn hb
    go_enter Tryd.func19, Tryd.ntmps19
    go_upto_region 2 with (fail)
    have tok9 : True := trivial
    go_wp2_with (first | (have _t := tok9; refine wpList_store_row (o := ⟨none, .store 29 (.tmp 2) (.tmp 15), _, _, _, _⟩) rfl 29 (.tmp 2) (.tmp 15) rfl a _ rfl rfl 29 _ A0 (by kernel_rfl) rfl (by simp [Value.oneCell']) ?_; clear tok9 _t))
    have kr := keeps_row W0 a #[.int .i64 0, .int .i64 0, .int .i64 0, .int .i64 0, .int .i64 0, .int .i64 0, .int .i64 0, .int .i64 0, .int .i64 0, .int .i64 0, .int .i64 0, .int .i64 0, .int .i64 0, .int .i64 0, .slice none 0 0, .slice none 0 0, .slice none 0 0, .slice none 0 0, .slice none 0 0, .slice none 0 0, .slice none 0 0, .slice none 0 0, .slice none 0 0]
    have HX : RTakeR w (pScript l) (.returned (.tuple #[.agg #[.int .i64 0, .int .i64 0, .int .i64 0, .int .i64 0, .int .i64 0, .int .i64 0, .int .i64 0, .int .i64 0, .int .i64 0, .int .i64 0, .int .i64 0, .int .i64 0, .int .i64 0, .int .i64 0, .slice none 0 0, .slice none 0 0, .slice none 0 0, .slice none 0 0, .slice none 0 0, .slice none 0 0, .slice none 0 0, .slice none 0 0, .slice none 0 0], .int .i64 4])) (W0.setRow a #[.int .i64 0, .int .i64 0, .int .i64 0, .int .i64 0, .int .i64 0, .int .i64 0, .int .i64 0, .int .i64 0, .int .i64 0, .int .i64 0, .int .i64 0, .int .i64 0, .int .i64 0, .int .i64 0, .slice none 0 0, .slice none 0 0, .slice none 0 0, .slice none 0 0, .slice none 0 0, .slice none 0 0, .slice none 0 0, .slice none 0 0, .slice none 0 0]) := by
      rw [HE.out]
      exact ⟨kr.below k0 (by have := (k0).size; omega) (fun x e _ => by omega), rfl⟩
    exact bodyPost_ret (v := .tuple #[.agg #[.int .i64 0, .int .i64 0, .int .i64 0, .int .i64 0, .int .i64 0, .int .i64 0, .int .i64 0, .int .i64 0, .int .i64 0, .int .i64 0, .int .i64 0, .int .i64 0, .int .i64 0, .int .i64 0, .slice none 0 0, .slice none 0 0, .slice none 0 0, .slice none 0 0, .slice none 0 0, .slice none 0 0, .slice none 0 0, .slice none 0 0, .slice none 0 0], .int .i64 4]) (results_ct (p1 := 2) (p2 := 3) (a := a) Tryd.results19 rfl rfl ((A0).row _) (by kernel_rfl)) rfl HX
  · have hn16 : decide ((n : Int) < 16) = false := decide_eq_false (by omega)
    have hn' : 16 ≤ l.length := by omega
    obtain ⟨b, o', rfl, _, _⟩ := hS.base b8l_len (by decide) (by omega)
    have hS0 := hS.below k0
    obtain ⟨y0, bu0, bv0⟩ := hS0.byte hb (i := 0) (by omega)
    obtain ⟨y1, bu1, bv1⟩ := hS0.byte hb (i := 1) (by omega)
    obtain ⟨y10, bu10, bv10⟩ := hS0.byte hb (i := 10) (by omega)
    obtain ⟨y11, bu11, bv11⟩ := hS0.byte hb (i := 11) (by omega)
    obtain ⟨y15, bu15, bv15⟩ := hS0.byte hb (i := 15) (by omega)
    have hge := numR_lt ((l.drop 12).take 3) (fun x hx => hb x (List.mem_of_mem_drop (List.mem_of_mem_take hx)))
    rw [show ((l.drop 12).take 3).length = 3 by rw [List.length_take, List.length_drop]; omega] at hge
    obtain ⟨ge, hg⟩ : ∃ ge, numR ((l.drop 12).take 3) = ge := ⟨_, rfl⟩
    rw [Nat.add_zero] at y0
    have HAT := Lib.hid (fun W (hW : Below W0.heap.size W0 W) => at_any (i := 12) (sz := 3) (hS0.below hW) hb (by omega) (by omega) (by omega) (by omega))
    rw [hg] at HAT hge
    obtain ⟨hge1, hge2⟩ := hge
    have hge3 : ge < 16777216 := hge2
    have HS0 := Lib.hid hS0
    have HS := Lib.hid hS
    obtain ⟨x0, hx0⟩ : ∃ x, bt l 0 = x := ⟨_, rfl⟩
    rw [hx0] at y0 bu0 bv0
    have HX0 := Lib.hid hx0
    obtain ⟨x1, hx1⟩ : ∃ x, bt l 1 = x := ⟨_, rfl⟩
    rw [hx1] at y1 bu1 bv1
    have HX1 := Lib.hid hx1
    obtain ⟨x10, hx10⟩ : ∃ x, bt l 10 = x := ⟨_, rfl⟩
    rw [hx10] at y10 bu10 bv10
    have HX10 := Lib.hid hx10
    obtain ⟨x11, hx11⟩ : ∃ x, bt l 11 = x := ⟨_, rfl⟩
    rw [hx11] at y11 bu11 bv11
    have HX11 := Lib.hid hx11
    obtain ⟨x15, hx15⟩ : ∃ x, bt l 15 = x := ⟨_, rfl⟩
    rw [hx15] at y15 bu15 bv15
    have HX15 := Lib.hid hx15
    have q0 : (0 : Int) < (n : Int) := by omega
    have q1 : (1 : Int) < (n : Int) := by omega
    have q10 : (10 : Int) < (n : Int) := by omega
    have q11 : (11 : Int) < (n : Int) := by omega
    have q15 : (15 : Int) < (n : Int) := by omega
    have HB := Lib.hid hb
    have HN := Lib.hid hn
    have HN16 := Lib.hid hn'
    have HNS := Lib.hid hs
    have HG := Lib.hid hg
    clear hge2 hS0 hS hb hn hn' hs hg hx0 hx1 hx10 hx11 hx15
    go_enter Tryd.func19, Tryd.ntmps19
    go_upto_region 3 with (fail)
    have HZ0 := Lib.hid z0
    clear hW0 z0
    go_cut [4] (fun s4 w' => s4 = .pointer (some ⟨a + 1, 0, none⟩) ∧ Blk w' a 29 #[.int .i64 0, .int .i64 0, .int .i64 0, .int .i64 0, .int .i64 0, .int .i64 0, .int .i64 0, .int .i64 0, .int .i64 0, .int .i64 0, .int .i64 0, .int .i64 0, .int .i64 0, .int .i64 0, .slice none 0 0, .slice none 0 0, .slice none 0 0, .slice none 0 0, .slice none 0 0, .slice none 0 0, .slice none 0 0, .slice none 0 0, .slice none 0 0] ∧ Blk w' (a + 1) 29 (scc (cfK l 0) nil8 (.slice none 0 0)).toArray ∧ Below w.heap.size w w')
    case first =>
      have hX := @Ext.cell W0
      have hzz0 := block_lt_of_cell y0
      refine wp_region_noPanic ?_
      refine wp_region_tree (fun w' => ∃ x : Ext W0, w' = x.w) (PT.two [0, 1, 2, 3, 4, 5, 6, 7, 8, 9, 10, 11, 12, 13, 14, 15, 16, 19, 20, 21, 22] 17 (PT.one [18, 23, 24] 25 (PT.one [] 26 (PT.fin []))) 25 (PT.one [] 17 (PT.one [18, 23, 24] 26 (PT.fin [])))) (by kernel_rfl) (by kernel_rfl) (by kernel_rfl) (fun _ _ _ _ _ h => h) ⟨⟨_, (brefl W0).drew⟩, rfl⟩ ?_
      refine wpTree_two ?_
      simp only [pickOps, List.getElem?_cons_succ, List.getElem?_cons_zero, Option.elim_some]
      repeat (go_big_quiet_step (fail))
      refine wpQuiet_nil ?_
      refine ⟨?_, ?_⟩
      · refine planAct_some (fun K hK => ?_)
        go_simp
        refine ((HAT.out _ (brefl W0).drew)).mono ?_
        rintro e w' ⟨rfl, rfl⟩
        go_wp2_with fail
        refine hK.out _ _ ⟨⟨_, (brefl W0).drew⟩, rfl⟩ ?_
        clear hK K
        refine wpTree_one ?_
        simp only [pickOps, List.getElem?_cons_succ, List.getElem?_cons_zero, Option.elim_some]
        repeat (go_big_quiet_step (fail))
        refine wpQuiet_nil ?_
        refine planAct_some (fun K hK => ?_)
        go_simp
        refine hK.out _ _ (ext_mem (bnew (brefl W0).drew _)) ?_
        clear hK K
        refine wpTree_one ?_
        simp only [pickOps, List.getElem?_cons_succ, List.getElem?_cons_zero, Option.elim_some]
        repeat (go_big_quiet_step (fail))
        refine wpQuiet_nil ?_
        refine planAct_some (fun K hK => ?_)
        refine act_store_row rfl 29 (.tmp 4) (.tmp 40) rfl W0.heap.size _ rfl rfl 29 _ (Blk.new W0.drew _ _) (by kernel_rfl) (by simp) (by simp [Value.oneCell']) ?_
        refine hK.out _ _ (ext_mem ((keeps_row (W0.drew.alloc (.cells #[.int .i64 0, .int .i64 0, .int .i64 0, .int .i64 0, .int .i64 0, .int .i64 0, .int .i64 0, .int .i64 0, .int .i64 0, .int .i64 0, .int .i64 0, .int .i64 0, .int .i64 0, .int .i64 0, .slice none 0 0, .slice none 0 0, .slice none 0 0, .slice none 0 0, .slice none 0 0, .slice none 0 0, .slice none 0 0, .slice none 0 0, .slice none 0 0] 29)) W0.heap.size #[.int .i64 x0, .int .i64 x1, .int .i64 0, .int .i64 0, .int .i64 0, .int .i64 0, .int .i64 0, .int .i64 0, .int .i64 0, .int .i64 0, .int .i64 x10, .int .i64 x11, .int .i64 ge, .int .i64 x15, .slice none 0 0, .slice none 0 0, .slice none 0 0, .slice none 0 0, .slice none 0 0, .slice none 0 0, .slice none 0 0, .slice none 0 0, .slice none 0 0]).below (bnew (brefl W0).drew _) (by simp) (fun x e _ => by have e' : x = W0.heap.size := e; omega))) ?_
        clear hK K
        refine wpTree_fin ?_
        simp only [pickOps, List.getElem?_cons_succ, List.getElem?_cons_zero, Option.elim_some]
        repeat (go_big_quiet_step (fail))
        refine wpQuiet_nil ?_
        refine NoPanic.normal ?_
        clear hX hzz0
        go_wp2_with fail
        go_meet
        case rel =>
          refine ⟨by rw [HZ0.out], (keeps_row _ _ _).blk ((A0.drew).alloc _) (by have := HZ0.out; show a ≠ W0.heap.size; omega), ?_, ?_⟩
          · have h := (Blk.new W0.drew 29 #[.int .i64 0, .int .i64 0, .int .i64 0, .int .i64 0, .int .i64 0, .int .i64 0, .int .i64 0, .int .i64 0, .int .i64 0, .int .i64 0, .int .i64 0, .int .i64 0, .int .i64 0, .int .i64 0, .slice none 0 0, .slice none 0 0, .slice none 0 0, .slice none 0 0, .slice none 0 0, .slice none 0 0, .slice none 0 0, .slice none 0 0, .slice none 0 0]).row #[.int .i64 x0, .int .i64 x1, .int .i64 0, .int .i64 0, .int .i64 0, .int .i64 0, .int .i64 0, .int .i64 0, .int .i64 0, .int .i64 0, .int .i64 x10, .int .i64 x11, .int .i64 ge, .int .i64 x15, .slice none 0 0, .slice none 0 0, .slice none 0 0, .slice none 0 0, .slice none 0 0, .slice none 0 0, .slice none 0 0, .slice none 0 0, .slice none 0 0]
            rw [show W0.drew.heap.size = a + 1 from HZ0.out] at h
            rw [show W0.heap.size = a + 1 from HZ0.out]
            rw [← HX0.out, ← HX1.out, ← HX10.out, ← HX11.out, ← HX15.out, ← HG.out] at h ⊢
            exact h
          · exact bnext k0 (((keeps_row (W0.drew.alloc (.cells #[.int .i64 0, .int .i64 0, .int .i64 0, .int .i64 0, .int .i64 0, .int .i64 0, .int .i64 0, .int .i64 0, .int .i64 0, .int .i64 0, .int .i64 0, .int .i64 0, .int .i64 0, .int .i64 0, .slice none 0 0, .slice none 0 0, .slice none 0 0, .slice none 0 0, .slice none 0 0, .slice none 0 0, .slice none 0 0, .slice none 0 0, .slice none 0 0] 29)) W0.heap.size #[.int .i64 x0, .int .i64 x1, .int .i64 0, .int .i64 0, .int .i64 0, .int .i64 0, .int .i64 0, .int .i64 0, .int .i64 0, .int .i64 0, .int .i64 x10, .int .i64 x11, .int .i64 ge, .int .i64 x15, .slice none 0 0, .slice none 0 0, .slice none 0 0, .slice none 0 0, .slice none 0 0, .slice none 0 0, .slice none 0 0, .slice none 0 0, .slice none 0 0]).below (bnew (brefl W0).drew _) (by simp) (fun x e _ => by have e' : x = W0.heap.size := e; omega)))
      · refine planAct_some (fun K hK => ?_)
        go_simp
        refine hK.out _ _ (ext_mem (bnew (brefl W0).drew _)) ?_
        clear hK K
        refine wpTree_one ?_
        simp only [pickOps, List.getElem?_cons_succ, List.getElem?_cons_zero, Option.elim_some]
        repeat (go_big_quiet_step (fail))
        refine wpQuiet_nil ?_
        refine planAct_some (fun K hK => ?_)
        go_simp
        refine ((HAT.out _ (bnew (brefl W0).drew _))).mono ?_
        rintro e w' ⟨rfl, rfl⟩
        go_wp2_with fail
        refine hK.out _ _ ⟨⟨_, (bnew (brefl W0).drew _)⟩, rfl⟩ ?_
        clear hK K
        refine wpTree_one ?_
        simp only [pickOps, List.getElem?_cons_succ, List.getElem?_cons_zero, Option.elim_some]
        repeat (go_big_quiet_step (fail))
        refine wpQuiet_nil ?_
        refine planAct_some (fun K hK => ?_)
        refine act_store_row rfl 29 (.tmp 4) (.tmp 40) rfl W0.heap.size _ rfl rfl 29 _ (Blk.new W0.drew _ _) (by kernel_rfl) (by simp) (by simp [Value.oneCell']) ?_
        refine hK.out _ _ (ext_mem ((keeps_row (W0.drew.alloc (.cells #[.int .i64 0, .int .i64 0, .int .i64 0, .int .i64 0, .int .i64 0, .int .i64 0, .int .i64 0, .int .i64 0, .int .i64 0, .int .i64 0, .int .i64 0, .int .i64 0, .int .i64 0, .int .i64 0, .slice none 0 0, .slice none 0 0, .slice none 0 0, .slice none 0 0, .slice none 0 0, .slice none 0 0, .slice none 0 0, .slice none 0 0, .slice none 0 0] 29)) W0.heap.size #[.int .i64 x0, .int .i64 x1, .int .i64 0, .int .i64 0, .int .i64 0, .int .i64 0, .int .i64 0, .int .i64 0, .int .i64 0, .int .i64 0, .int .i64 x10, .int .i64 x11, .int .i64 ge, .int .i64 x15, .slice none 0 0, .slice none 0 0, .slice none 0 0, .slice none 0 0, .slice none 0 0, .slice none 0 0, .slice none 0 0, .slice none 0 0, .slice none 0 0]).below (bnew (brefl W0).drew _) (by simp) (fun x e _ => by have e' : x = W0.heap.size := e; omega))) ?_
        clear hK K
        refine wpTree_fin ?_
        simp only [pickOps, List.getElem?_cons_succ, List.getElem?_cons_zero, Option.elim_some]
        repeat (go_big_quiet_step (fail))
        refine wpQuiet_nil ?_
        refine NoPanic.normal ?_
        clear hX hzz0
        go_wp2_with fail
        go_meet
        case rel =>
          refine ⟨by rw [HZ0.out], (keeps_row _ _ _).blk ((A0.drew).alloc _) (by have := HZ0.out; show a ≠ W0.heap.size; omega), ?_, ?_⟩
          · have h := (Blk.new W0.drew 29 #[.int .i64 0, .int .i64 0, .int .i64 0, .int .i64 0, .int .i64 0, .int .i64 0, .int .i64 0, .int .i64 0, .int .i64 0, .int .i64 0, .int .i64 0, .int .i64 0, .int .i64 0, .int .i64 0, .slice none 0 0, .slice none 0 0, .slice none 0 0, .slice none 0 0, .slice none 0 0, .slice none 0 0, .slice none 0 0, .slice none 0 0, .slice none 0 0]).row #[.int .i64 x0, .int .i64 x1, .int .i64 0, .int .i64 0, .int .i64 0, .int .i64 0, .int .i64 0, .int .i64 0, .int .i64 0, .int .i64 0, .int .i64 x10, .int .i64 x11, .int .i64 ge, .int .i64 x15, .slice none 0 0, .slice none 0 0, .slice none 0 0, .slice none 0 0, .slice none 0 0, .slice none 0 0, .slice none 0 0, .slice none 0 0, .slice none 0 0]
            rw [show W0.drew.heap.size = a + 1 from HZ0.out] at h
            rw [show W0.heap.size = a + 1 from HZ0.out]
            rw [← HX0.out, ← HX1.out, ← HX10.out, ← HX11.out, ← HX15.out, ← HG.out] at h ⊢
            exact h
          · exact bnext k0 (((keeps_row (W0.drew.alloc (.cells #[.int .i64 0, .int .i64 0, .int .i64 0, .int .i64 0, .int .i64 0, .int .i64 0, .int .i64 0, .int .i64 0, .int .i64 0, .int .i64 0, .int .i64 0, .int .i64 0, .int .i64 0, .int .i64 0, .slice none 0 0, .slice none 0 0, .slice none 0 0, .slice none 0 0, .slice none 0 0, .slice none 0 0, .slice none 0 0, .slice none 0 0, .slice none 0 0] 29)) W0.heap.size #[.int .i64 x0, .int .i64 x1, .int .i64 0, .int .i64 0, .int .i64 0, .int .i64 0, .int .i64 0, .int .i64 0, .int .i64 0, .int .i64 0, .int .i64 x10, .int .i64 x11, .int .i64 ge, .int .i64 x15, .slice none 0 0, .slice none 0 0, .slice none 0 0, .slice none 0 0, .slice none 0 0, .slice none 0 0, .slice none 0 0, .slice none 0 0, .slice none 0 0]).below (bnew (brefl W0).drew _) (by simp) (fun x e _ => by have e' : x = W0.heap.size := e; omega)))
    case rest =>
    obtain ⟨rfl, A1, B1, kb1⟩ := hcut
    clear y0 bu0 bv0 y1 bu1 bv1 y10 bu10 bv10 y11 bu11 bv11 y15 bu15 bv15 HAT hge1 hge3 HS0 q0 q1 q10 q11 q15 HX0 HX1 HX10 HX11 HX15 HG A0 k0 HZ0 hn16
    go_wp2_with fail
    go_loopg [5] 8 (fun gk s5 wr => ∃ (k : Nat), k + gk = 8 ∧ s5 = .int .i64 k ∧ Blk wr a 29 #[.int .i64 0, .int .i64 0, .int .i64 0, .int .i64 0, .int .i64 0, .int .i64 0, .int .i64 0, .int .i64 0, .int .i64 0, .int .i64 0, .int .i64 0, .int .i64 0, .int .i64 0, .int .i64 0, .slice none 0 0, .slice none 0 0, .slice none 0 0, .slice none 0 0, .slice none 0 0, .slice none 0 0, .slice none 0 0, .slice none 0 0, .slice none 0 0] ∧ Blk wr (a + 1) 29 (scc (cfK l k) nil8 (.slice none 0 0)).toArray ∧ Below w.heap.size w wr)
    case atStart => exact ⟨0, by omega, rfl, A1, B1, kb1⟩
    case round =>
      clear A1 B1 kb1
      obtain ⟨k, hk, rfl, A1, B1, kb1⟩ := hrel
      by_cases hlt : k < 8
      · have k0 : (0 : Int) ≤ (k : Int) := by omega
        have k8 : (k : Int) < 8 := by omega
        obtain ⟨y, u, v⟩ := (HS.out.below kb1).byte HB.out (i := 2 + k) (by have := HN16.out; omega)
        obtain ⟨x, hx⟩ : ∃ x, bt l (2 + k) = x := ⟨_, rfl⟩
        have HST := Lib.hid (cfK_step l hlt)
        obtain ⟨v0, hv0⟩ := cfK_at l hlt
        have C3 := (B1.cell (2 + k)).trans ((List.getElem?_toArray ..).trans hv0)
        have f3 := B1.frozen (2 + k)
        have z3 := B1.lt
        rw [hx] at y u v HST
        have j0 : (0 : Int) ≤ 2 + (k : Int) := by omega
        have j1 : 2 + (k : Int) < (n : Int) := by have := HN16.out; have := HN.out; omega
        have j2 : (2 + (k : Int)).toNat = 2 + k := by omega
        clear hv0 hx
        go_wp2_with fail
        go_roundg (gk - 1)
        case measure => omega
        case rel =>
          have D := B1.set_ (2 + k) (.int .i64 x)
          rw [List.setIfInBounds_toArray, HST.out] at D
          exact ⟨k + 1, by omega, by go_num, A1.far (p := ⟨a + 1, 2 + k, none⟩) (by show a ≠ a + 1; omega) _, D, bset kb1 (by show _ ≤ a + 1; omega) _⟩
      · obtain rfl : k = 8 := by omega
        have HC : Hid (cfK l 8 = confL l) := cfK_8 l
        rw [HC.out] at B1
        clear HC
        obtain ⟨c0, hcc⟩ : ∃ c0, confL l = c0 := ⟨_, rfl⟩
        rw [hcc] at B1
        have r0 : wr.rangeAt (a + 1) 0 [.int .i64 c0.lv, .int .i64 c0.th, .int .i64 c0.o0, .int .i64 c0.o1, .int .i64 c0.o2, .int .i64 c0.o3, .int .i64 c0.o4, .int .i64 c0.o5, .int .i64 c0.o6, .int .i64 c0.o7, .int .i64 c0.sl, .int .i64 c0.li, .int .i64 c0.ge, .int .i64 c0.qu] := range_blk B1 0 (scc_conf c0 _ _)
        have hmay := fun W => rmay_any c0 W
        go_upto_region 8 with (fail)
        cases hm : mayB c0 with
        | false =>
          have HE : Hid (pScript l = .error 2) := by rw [Hid, pScript, if_neg HNS.out, hcc, if_pos hm]
          rw [hm] at hmay
          clear hm hcc
          have tok1 : True := trivial
          go_upto_region 9 with (first | (have _t := tok1; refine wpList_load_mid (op := ⟨some 56, _, _, _, _, _⟩) rfl 24 (.tmp 55) rfl (a + 1) (0) rfl [.int .i64 c0.lv, .int .i64 c0.th, .int .i64 c0.o0, .int .i64 c0.o1, .int .i64 c0.o2, .int .i64 c0.o3, .int .i64 c0.o4, .int .i64 c0.o5, .int .i64 c0.o6, .int .i64 c0.o7, .int .i64 c0.sl, .int .i64 c0.li, .int .i64 c0.ge, .int .i64 c0.qu] _ r0 Tryd.underlying24 rfl (by kernel_rfl) ?_; clear tok1 _t) | (go_at_call 24; refine (hmay _).mono ?_; rintro e w2 ⟨rfl, hb2⟩))
          have kb2 := bnext kb1 hb2
          have A2 := A1.below_ hb2
          have tok9 : True := trivial
          go_wp2_with (first | (have _t := tok9; refine wpList_store_row (o := ⟨none, .store 29 (.tmp 2) (.tmp 59), _, _, _, _⟩) rfl 29 (.tmp 2) (.tmp 59) rfl a _ rfl rfl 29 _ A2 (by kernel_rfl) rfl (by simp [Value.oneCell']) ?_; clear tok9 _t))
          have kr := keeps_row w2 a #[.int .i64 0, .int .i64 0, .int .i64 0, .int .i64 0, .int .i64 0, .int .i64 0, .int .i64 0, .int .i64 0, .int .i64 0, .int .i64 0, .int .i64 0, .int .i64 0, .int .i64 0, .int .i64 0, .slice none 0 0, .slice none 0 0, .slice none 0 0, .slice none 0 0, .slice none 0 0, .slice none 0 0, .slice none 0 0, .slice none 0 0, .slice none 0 0]
          have HX : RTakeR w (pScript l) (.returned (.tuple #[.agg #[.int .i64 0, .int .i64 0, .int .i64 0, .int .i64 0, .int .i64 0, .int .i64 0, .int .i64 0, .int .i64 0, .int .i64 0, .int .i64 0, .int .i64 0, .int .i64 0, .int .i64 0, .int .i64 0, .slice none 0 0, .slice none 0 0, .slice none 0 0, .slice none 0 0, .slice none 0 0, .slice none 0 0, .slice none 0 0, .slice none 0 0, .slice none 0 0], .int .i64 2])) (w2.setRow a #[.int .i64 0, .int .i64 0, .int .i64 0, .int .i64 0, .int .i64 0, .int .i64 0, .int .i64 0, .int .i64 0, .int .i64 0, .int .i64 0, .int .i64 0, .int .i64 0, .int .i64 0, .int .i64 0, .slice none 0 0, .slice none 0 0, .slice none 0 0, .slice none 0 0, .slice none 0 0, .slice none 0 0, .slice none 0 0, .slice none 0 0, .slice none 0 0]) := by
            rw [HE.out]
            exact ⟨kr.below kb2 (by have := (kb2).size; omega) (fun x e _ => by omega), rfl⟩
          exact bodyPost_ret (v := .tuple #[.agg #[.int .i64 0, .int .i64 0, .int .i64 0, .int .i64 0, .int .i64 0, .int .i64 0, .int .i64 0, .int .i64 0, .int .i64 0, .int .i64 0, .int .i64 0, .int .i64 0, .int .i64 0, .int .i64 0, .slice none 0 0, .slice none 0 0, .slice none 0 0, .slice none 0 0, .slice none 0 0, .slice none 0 0, .slice none 0 0, .slice none 0 0, .slice none 0 0], .int .i64 2]) (results_ct (p1 := 2) (p2 := 3) (a := a) Tryd.results19 rfl rfl ((A2).row _) (by kernel_rfl)) rfl HX
        | true =>
          rw [hm] at hmay
          have hm' := of_decide_eq_true hm
          obtain ⟨m, hth⟩ : ∃ m : Nat, c0.th = (m : Int) := ⟨c0.th.toNat, by have := hm'.t1; omega⟩
          have hm8 : m ≤ 8 := by have := hm'.t2; omega
          have HP : Hid (pScript l = pEnd c0 (pProgs m 0 nilP (l.drop 16))) := by rw [Hid, pScript, if_neg HNS.out, hcc, if_neg (by rw [hm]; decide), hth]; rfl
          have HTH := Lib.hid hth
          clear hm hm' hcc hth
          have tok1 : True := trivial
          go_upto_region 10 with (first | (have _t := tok1; refine wpList_load_mid (op := ⟨some 56, _, _, _, _, _⟩) rfl 24 (.tmp 55) rfl (a + 1) (0) rfl [.int .i64 c0.lv, .int .i64 c0.th, .int .i64 c0.o0, .int .i64 c0.o1, .int .i64 c0.o2, .int .i64 c0.o3, .int .i64 c0.o4, .int .i64 c0.o5, .int .i64 c0.o6, .int .i64 c0.o7, .int .i64 c0.sl, .int .i64 c0.li, .int .i64 c0.ge, .int .i64 c0.qu] _ r0 Tryd.underlying24 rfl (by kernel_rfl) ?_; clear tok1 _t) | (go_at_call 24; refine (hmay _).mono ?_; rintro e w2 ⟨rfl, hb2⟩))
          have kb2 := bnext kb1 hb2
          have A2 := A1.below_ hb2
          have B2 := B1.below_ hb2
          clear A1 B1 kb1 hb2 hmay r0
          have hnl := HN.out
          have x1 : ∀ (us : List Value) (ev : Value), (scc c0 us ev).toArray[1]? = some (.int .i64 (m : Int)) := fun us ev => by rw [← HTH.out]; exact cell_one
          go_wp2_with fail
          go_loopg [6, 7] m (fun gk s6 s7 wr => ∃ (k i : Nat) (us : List Value) (ps : List (List CV)), k + gk = m ∧ s6 = .int .i64 i ∧ s7 = .int .i64 k ∧ Blk wr a 29 #[.int .i64 0, .int .i64 0, .int .i64 0, .int .i64 0, .int .i64 0, .int .i64 0, .int .i64 0, .int .i64 0, .int .i64 0, .int .i64 0, .int .i64 0, .int .i64 0, .int .i64 0, .int .i64 0, .slice none 0 0, .slice none 0 0, .slice none 0 0, .slice none 0 0, .slice none 0 0, .slice none 0 0, .slice none 0 0, .slice none 0 0, .slice none 0 0] ∧ Blk wr (a + 1) 29 (scc c0 us (.slice none 0 0)).toArray ∧ PIn (fun b => b ≤ a + 1) wr us ps ∧ Below w.heap.size w wr ∧ Hid (i ≤ n) ∧ Hid (pScript l = pEnd c0 (pProgs gk k ps (l.drop i))) ∧ Hid (∀ j, k ≤ j → j < 8 → us[j]? = some (.slice none 0 0)))
          case atStart => exact ⟨0, 16, nil8, nilP, by omega, rfl, rfl, A2, B2, PIn.none_ _ _, kb2, by have := HN16.out; show 16 ≤ n; omega, HP, fun j _ hj => by
            rcases (by omega : j = 0 ∨ j = 1 ∨ j = 2 ∨ j = 3 ∨ j = 4 ∨ j = 5 ∨ j = 6 ∨ j = 7) with rfl | rfl | rfl | rfl | rfl | rfl | rfl | rfl <;> rfl⟩
          case round =>
            clear A2 B2 kb2 HP
            obtain ⟨k, i, us, ps, hk, rfl, rfl, A2, B2, hP, kb2, hi, hp, hnl8⟩ := hrel
            have y1 := (B2.cell 1).trans (x1 _ _)
            have z1 := B2.lt
            by_cases hlt : k < m
            · obtain ⟨g, rfl⟩ : ∃ g, gk = g + 1 := ⟨gk - 1, by omega⟩
              have k0 : (0 : Int) ≤ (k : Int) := by omega
              have k1 : (k : Int) < (m : Int) := by omega
              by_cases hin : n ≤ i
              · have HE : Hid (pScript l = .error 4) := by rw [Hid, hp.out, pProgs_error (n := 4) (by rw [List.drop_eq_nil_of_le (by omega)]; rfl)]; rfl
                have t1 : (n : Int) ≤ (i : Int) := by omega
                clear hin hp
                go_upto_region 15 with (fail)
                have tok9 : True := trivial
                go_wp2_with (first | (have _t := tok9; refine wpList_store_row (o := ⟨none, .store 29 (.tmp 2) (.tmp 71), _, _, _, _⟩) rfl 29 (.tmp 2) (.tmp 71) rfl a _ rfl rfl 29 _ A2 (by kernel_rfl) rfl (by simp [Value.oneCell']) ?_; clear tok9 _t))
                have kr := keeps_row wr a #[.int .i64 0, .int .i64 0, .int .i64 0, .int .i64 0, .int .i64 0, .int .i64 0, .int .i64 0, .int .i64 0, .int .i64 0, .int .i64 0, .int .i64 0, .int .i64 0, .int .i64 0, .int .i64 0, .slice none 0 0, .slice none 0 0, .slice none 0 0, .slice none 0 0, .slice none 0 0, .slice none 0 0, .slice none 0 0, .slice none 0 0, .slice none 0 0]
                have HX : RTakeR w (pScript l) (.returned (.tuple #[.agg #[.int .i64 0, .int .i64 0, .int .i64 0, .int .i64 0, .int .i64 0, .int .i64 0, .int .i64 0, .int .i64 0, .int .i64 0, .int .i64 0, .int .i64 0, .int .i64 0, .int .i64 0, .int .i64 0, .slice none 0 0, .slice none 0 0, .slice none 0 0, .slice none 0 0, .slice none 0 0, .slice none 0 0, .slice none 0 0, .slice none 0 0, .slice none 0 0], .int .i64 4])) (wr.setRow a #[.int .i64 0, .int .i64 0, .int .i64 0, .int .i64 0, .int .i64 0, .int .i64 0, .int .i64 0, .int .i64 0, .int .i64 0, .int .i64 0, .int .i64 0, .int .i64 0, .int .i64 0, .int .i64 0, .slice none 0 0, .slice none 0 0, .slice none 0 0, .slice none 0 0, .slice none 0 0, .slice none 0 0, .slice none 0 0, .slice none 0 0, .slice none 0 0]) := by
                  rw [HE.out]
                  exact ⟨kr.below kb2 (by have := (kb2).size; omega) (fun x e _ => by omega), rfl⟩
                exact bodyPost_ret (v := .tuple #[.agg #[.int .i64 0, .int .i64 0, .int .i64 0, .int .i64 0, .int .i64 0, .int .i64 0, .int .i64 0, .int .i64 0, .int .i64 0, .int .i64 0, .int .i64 0, .int .i64 0, .int .i64 0, .int .i64 0, .slice none 0 0, .slice none 0 0, .slice none 0 0, .slice none 0 0, .slice none 0 0, .slice none 0 0, .slice none 0 0, .slice none 0 0, .slice none 0 0], .int .i64 4]) (results_ct (p1 := 2) (p2 := 3) (a := a) Tryd.results19 rfl rfl ((A2).row _) (by kernel_rfl)) rfl HX
              · have t1 : decide ((n : Int) ≤ (i : Int)) = false := decide_eq_false (by omega)
                have t1' : decide (n ≤ i) = false := decide_eq_false hin
                have i0 : (0 : Int) ≤ (i : Int) := by omega
                have i1 : (i : Int) < (n : Int) := by omega
                obtain ⟨yb, xb0, xb1⟩ := (HS.out.below kb2).byte HB.out (i := i) (by omega)
                obtain ⟨x, hx⟩ : ∃ x, bt l i = x := ⟨_, rfl⟩
                have hd : l.drop i = x :: l.drop (i + 1) := by rw [← hx]; exact drop_bt (by omega)
                rw [hx] at yb xb0 xb1
                by_cases h40 : 40 < x
                · have HE : Hid (pScript l = .error 5) := by rw [Hid, hp.out, pProgs_error (n := 5) (by rw [hd, pProg, if_pos h40])]; rfl
                  clear hd hp hx
                  go_upto_region 19 with (fail)
                  have tok9 : True := trivial
                  go_wp2_with (first | (have _t := tok9; refine wpList_store_row (o := ⟨none, .store 29 (.tmp 2) (.tmp 81), _, _, _, _⟩) rfl 29 (.tmp 2) (.tmp 81) rfl a _ rfl rfl 29 _ A2 (by kernel_rfl) rfl (by simp [Value.oneCell']) ?_; clear tok9 _t))
                  have kr := keeps_row wr a #[.int .i64 0, .int .i64 0, .int .i64 0, .int .i64 0, .int .i64 0, .int .i64 0, .int .i64 0, .int .i64 0, .int .i64 0, .int .i64 0, .int .i64 0, .int .i64 0, .int .i64 0, .int .i64 0, .slice none 0 0, .slice none 0 0, .slice none 0 0, .slice none 0 0, .slice none 0 0, .slice none 0 0, .slice none 0 0, .slice none 0 0, .slice none 0 0]
                  have HX : RTakeR w (pScript l) (.returned (.tuple #[.agg #[.int .i64 0, .int .i64 0, .int .i64 0, .int .i64 0, .int .i64 0, .int .i64 0, .int .i64 0, .int .i64 0, .int .i64 0, .int .i64 0, .int .i64 0, .int .i64 0, .int .i64 0, .int .i64 0, .slice none 0 0, .slice none 0 0, .slice none 0 0, .slice none 0 0, .slice none 0 0, .slice none 0 0, .slice none 0 0, .slice none 0 0, .slice none 0 0], .int .i64 5])) (wr.setRow a #[.int .i64 0, .int .i64 0, .int .i64 0, .int .i64 0, .int .i64 0, .int .i64 0, .int .i64 0, .int .i64 0, .int .i64 0, .int .i64 0, .int .i64 0, .int .i64 0, .int .i64 0, .int .i64 0, .slice none 0 0, .slice none 0 0, .slice none 0 0, .slice none 0 0, .slice none 0 0, .slice none 0 0, .slice none 0 0, .slice none 0 0, .slice none 0 0]) := by
                    rw [HE.out]
                    exact ⟨kr.below kb2 (by have := (kb2).size; omega) (fun x e _ => by omega), rfl⟩
                  exact bodyPost_ret (v := .tuple #[.agg #[.int .i64 0, .int .i64 0, .int .i64 0, .int .i64 0, .int .i64 0, .int .i64 0, .int .i64 0, .int .i64 0, .int .i64 0, .int .i64 0, .int .i64 0, .int .i64 0, .int .i64 0, .int .i64 0, .slice none 0 0, .slice none 0 0, .slice none 0 0, .slice none 0 0, .slice none 0 0, .slice none 0 0, .slice none 0 0, .slice none 0 0, .slice none 0 0], .int .i64 5]) (results_ct (p1 := 2) (p2 := 3) (a := a) Tryd.results19 rfl rfl ((A2).row _) (by kernel_rfl)) rfl HX
                · have t40 : decide (40 < x) = false := decide_eq_false h40
                  obtain ⟨m', hm'⟩ : ∃ m' : Nat, x = (m' : Int) := ⟨x.toNat, by omega⟩
                  subst hm'
                  have hpg : Hid (pProg (l.drop i) = pCalls m' (l.drop (i + 1))) := by rw [Hid, hd, pProg, if_neg h40, Int.toNat_natCast]
                  have hm40 : m' ≤ 40 := by omega
                  obtain ⟨iv, E2⟩ := elem_cv
                  clear hd hx h40 hin
                  obtain ⟨zk, hzk⟩ : ∃ zk, wr.heap.size = zk := ⟨_, rfl⟩
                  have HZK := Lib.hid hzk
                  have P0 := hP.or hP.old
                  have hak : a + 1 < zk := by omega
                  rw [hzk] at P0
                  have HA2 := Lib.hid A2
                  have HB2 := Lib.hid B2
                  have h8 := hP.u8
                  have hus : us.set k (.slice none 0 0) = us := by
                    have := hnl8.out k (Nat.le_refl _) (by omega)
                    obtain ⟨hlk, hv⟩ := List.getElem?_eq_some_iff.1 this
                    rw [← hv, List.set_getElem_self]
                  have HUS := Lib.hid hus
                  clear hzk hP A2 B2 hus
                  go_wp2_with fail
                  go_loopg [6, 9] m' (fun gk s6 s9 wr => ∃ (k2 j : Nat) (xs : List CV) (A : Option Addr) (c' : Nat), k2 + gk = m' ∧ s6 = .int .i64 j ∧ s9 = .int .i64 k2 ∧ Blk wr a 29 #[.int .i64 0, .int .i64 0, .int .i64 0, .int .i64 0, .int .i64 0, .int .i64 0, .int .i64 0, .int .i64 0, .int .i64 0, .int .i64 0, .int .i64 0, .int .i64 0, .int .i64 0, .int .i64 0, .slice none 0 0, .slice none 0 0, .slice none 0 0, .slice none 0 0, .slice none 0 0, .slice none 0 0, .slice none 0 0, .slice none 0 0, .slice none 0 0] ∧ Blk wr (a + 1) 29 (scc c0 (us.set k (.slice A k2 c')) (.slice none 0 0)).toArray ∧ wr.ownsRow zk 63 7 (.slice A k2 c') k2 (xs.flatMap cvc) ∧ PIn (fun b => b ≤ a + 1 ∨ zk ≤ b) wr us ps ∧ Below w.heap.size w wr ∧ Hid (j ≤ n) ∧ Hid (zk ≤ wr.heap.size) ∧ Hid (pProg (l.drop i) = pre xs (pCalls gk (l.drop j))))
                  case atStart => exact ⟨0, i + 1, [], none, 0, by omega, by go_num, rfl, HA2.out, by rw [HUS.out]; exact HB2.out, World.ownsRow_nil _ _ _ _, P0, kb2, by show i + 1 ≤ n; omega, by show zk ≤ _; rw [HZK.out]; exact Nat.le_refl _, by rw [Hid, hpg.out, pre_nil]⟩
                  case round =>
                    clear y1 z1 yb HA2 HB2 P0 kb2 HZK HUS hpg hi t1 i0 i1
                    obtain ⟨gr, hgr⟩ : ∃ g, g = gk := ⟨_, rfl⟩
                    subst hgr
                    obtain ⟨k2, j, xs, A, c', hk2, rfl, rfl, A2, B2, own, hP, kb2, hj, hzw, hpp⟩ := hrel
                    have hjn := hj.out
                    by_cases hlt2 : k2 < m'
                    · obtain ⟨g2, rfl⟩ : ∃ g2, gr = g2 + 1 := ⟨gr - 1, by omega⟩
                      have k20 : (0 : Int) ≤ (k2 : Int) := by omega
                      have k21 : (k2 : Int) < (m' : Int) := by omega
                      by_cases h35 : n - j < 35
                      · have HE : Hid (pScript l = .error 4) := by rw [Hid, hp.out, pProgs_error (n := 4) (by rw [hpp.out, pCalls, if_pos (by rw [List.length_drop]; omega)]; rfl)]; rfl
                        have t35 : (n : Int) - (j : Int) < 35 := by omega
                        clear h35 hp hpp
                        go_upto_region 24 with (fail)
                        have tok9 : True := trivial
                        go_wp2_with (first | (have _t := tok9; refine wpList_store_row (o := ⟨none, .store 29 (.tmp 2) (.tmp 92), _, _, _, _⟩) rfl 29 (.tmp 2) (.tmp 92) rfl a _ rfl rfl 29 _ A2 (by kernel_rfl) rfl (by simp [Value.oneCell']) ?_; clear tok9 _t))
                        have kr := keeps_row wr a #[.int .i64 0, .int .i64 0, .int .i64 0, .int .i64 0, .int .i64 0, .int .i64 0, .int .i64 0, .int .i64 0, .int .i64 0, .int .i64 0, .int .i64 0, .int .i64 0, .int .i64 0, .int .i64 0, .slice none 0 0, .slice none 0 0, .slice none 0 0, .slice none 0 0, .slice none 0 0, .slice none 0 0, .slice none 0 0, .slice none 0 0, .slice none 0 0]
                        have HX : RTakeR w (pScript l) (.returned (.tuple #[.agg #[.int .i64 0, .int .i64 0, .int .i64 0, .int .i64 0, .int .i64 0, .int .i64 0, .int .i64 0, .int .i64 0, .int .i64 0, .int .i64 0, .int .i64 0, .int .i64 0, .int .i64 0, .int .i64 0, .slice none 0 0, .slice none 0 0, .slice none 0 0, .slice none 0 0, .slice none 0 0, .slice none 0 0, .slice none 0 0, .slice none 0 0, .slice none 0 0], .int .i64 4])) (wr.setRow a #[.int .i64 0, .int .i64 0, .int .i64 0, .int .i64 0, .int .i64 0, .int .i64 0, .int .i64 0, .int .i64 0, .int .i64 0, .int .i64 0, .int .i64 0, .int .i64 0, .int .i64 0, .int .i64 0, .slice none 0 0, .slice none 0 0, .slice none 0 0, .slice none 0 0, .slice none 0 0, .slice none 0 0, .slice none 0 0, .slice none 0 0, .slice none 0 0]) := by
                          rw [HE.out]
                          exact ⟨kr.below kb2 (by have := (kb2).size; omega) (fun x e _ => by omega), rfl⟩
                        exact bodyPost_ret (v := .tuple #[.agg #[.int .i64 0, .int .i64 0, .int .i64 0, .int .i64 0, .int .i64 0, .int .i64 0, .int .i64 0, .int .i64 0, .int .i64 0, .int .i64 0, .int .i64 0, .int .i64 0, .int .i64 0, .int .i64 0, .slice none 0 0, .slice none 0 0, .slice none 0 0, .slice none 0 0, .slice none 0 0, .slice none 0 0, .slice none 0 0, .slice none 0 0, .slice none 0 0], .int .i64 4]) (results_ct (p1 := 2) (p2 := 3) (a := a) Tryd.results19 rfl rfl ((A2).row _) (by kernel_rfl)) rfl HX
                      · have t35 : decide ((n : Int) - (j : Int) < 35) = false := decide_eq_false (by omega)
                        have hjl : j + 35 ≤ l.length := by omega
                        obtain ⟨y0, p0, r0⟩ := (HS.out.below kb2).byte HB.out (i := j) (by omega)
                        obtain ⟨v0, hv0⟩ : ∃ v, bt l (j) = v := ⟨_, rfl⟩
                        rw [hv0] at y0 p0 r0
                        have j0a : (0 : Int) ≤ (j : Int) := by omega
                        have j0b : (j : Int) < (n : Int) := by omega
                        obtain ⟨y1, p1, r1⟩ := (HS.out.below kb2).byte HB.out (i := j + 1) (by omega)
                        obtain ⟨v1, hv1⟩ : ∃ v, bt l (j + 1) = v := ⟨_, rfl⟩
                        rw [hv1] at y1 p1 r1
                        have j1a : (0 : Int) ≤ (j : Int) + 1 := by omega
                        have j1b : (j : Int) + 1 < (n : Int) := by omega
                        have j1c : ((j : Int) + 1).toNat = j + 1 := by omega
                        obtain ⟨y2, p2, r2⟩ := (HS.out.below kb2).byte HB.out (i := j + 2) (by omega)
                        obtain ⟨v2, hv2⟩ : ∃ v, bt l (j + 2) = v := ⟨_, rfl⟩
                        rw [hv2] at y2 p2 r2
                        have j2a : (0 : Int) ≤ (j : Int) + 2 := by omega
                        have j2b : (j : Int) + 2 < (n : Int) := by omega
                        have j2c : ((j : Int) + 2).toNat = j + 2 := by omega
                        have HAT3 := Lib.hid (fun W (hW : Below wr.heap.size wr W) => at_any (i := j + 3) (sz := 8) ((HS.out.below kb2).below hW) HB.out (by omega) (by omega) (by omega) (by omega))
                        obtain ⟨n3, hn3⟩ : ∃ z, numR ((l.drop (j + 3)).take 8) = z := ⟨_, rfl⟩
                        have hu3 : U64 n3 := by rw [← hn3]; exact numR_u (fun x hx => HB.out x (List.mem_of_mem_drop (List.mem_of_mem_take hx))) (by rw [List.length_take]; omega)
                        rw [hn3, show ((j + 3 : Nat) : Int) = (j : Int) + 3 by omega] at HAT3
                        have HAT11 := Lib.hid (fun W (hW : Below wr.heap.size wr W) => at_any (i := j + 11) (sz := 8) ((HS.out.below kb2).below hW) HB.out (by omega) (by omega) (by omega) (by omega))
                        obtain ⟨n11, hn11⟩ : ∃ z, numR ((l.drop (j + 11)).take 8) = z := ⟨_, rfl⟩
                        have hu11 : U64 n11 := by rw [← hn11]; exact numR_u (fun x hx => HB.out x (List.mem_of_mem_drop (List.mem_of_mem_take hx))) (by rw [List.length_take]; omega)
                        rw [hn11, show ((j + 11 : Nat) : Int) = (j : Int) + 11 by omega] at HAT11
                        have HAT19 := Lib.hid (fun W (hW : Below wr.heap.size wr W) => at_any (i := j + 19) (sz := 8) ((HS.out.below kb2).below hW) HB.out (by omega) (by omega) (by omega) (by omega))
                        obtain ⟨n19, hn19⟩ : ∃ z, numR ((l.drop (j + 19)).take 8) = z := ⟨_, rfl⟩
                        have hu19 : U64 n19 := by rw [← hn19]; exact numR_u (fun x hx => HB.out x (List.mem_of_mem_drop (List.mem_of_mem_take hx))) (by rw [List.length_take]; omega)
                        rw [hn19, show ((j + 19 : Nat) : Int) = (j : Int) + 19 by omega] at HAT19
                        have HAT27 := Lib.hid (fun W (hW : Below wr.heap.size wr W) => at_any (i := j + 27) (sz := 8) ((HS.out.below kb2).below hW) HB.out (by omega) (by omega) (by omega) (by omega))
                        obtain ⟨n27, hn27⟩ : ∃ z, numR ((l.drop (j + 27)).take 8) = z := ⟨_, rfl⟩
                        have hu27 : U64 n27 := by rw [← hn27]; exact numR_u (fun x hx => HB.out x (List.mem_of_mem_drop (List.mem_of_mem_take hx))) (by rw [List.length_take]; omega)
                        rw [hn27, show ((j + 27 : Nat) : Int) = (j : Int) + 27 by omega] at HAT27
                        have HXC : Hid (callL (l.drop j) = ⟨v0, v1, wrap64 n3, n11, n19, n27, v2⟩) := by rw [Hid, callL_drop, hv0, hv1, hv2, hn3, hn11, hn19, hn27]
                        have HFN := Lib.hid (fun W => rfnum_any hu3 W)
                        have HU := Lib.hid (And.intro hu11 (And.intro hu19 hu27))
                        have HJL := Lib.hid hjl
                        clear hv0 hv1 hv2 hn3 hn11 hn19 hn27 hjl hjn h35 hu3 hu11 hu19 hu27
                        obtain ⟨zc, hzc⟩ : ∃ zc, wr.heap.size = zc := ⟨_, rfl⟩
                        have HZC := Lib.hid hzc
                        clear hzc
                        go_upto_region 25 with (fail)
                        go_cut [10] (fun s10 w' => s10 = .pointer (some ⟨zc, 0, none⟩) ∧ Blk w' zc 63 #[.int .i64 v0, .int .i64 v1, .int .i64 (wrap64 n3), .int .u64 n11, .int .u64 n19, .int .u64 n27, .int .i64 v2] ∧ Below wr.heap.size wr w')
                        case first =>
                          have hX := @Ext.cell wr
                          have hzz0 := block_lt_of_cell y0
                          refine wp_region_noPanic ?_
                          refine wp_region_tree (fun w' => ∃ x : Ext wr, w' = x.w) (PT.two [0, 1, 2, 3, 4, 5, 6, 7, 8, 9, 10, 11, 12, 13, 14, 15, 16, 17, 18, 19, 22, 23, 24, 26, 27, 28, 31, 32, 33] 20 (PT.two [] 21 (PT.two [] 25 (PT.two [] 29 (PT.two [30] 34 (PT.one [35] 36 (PT.one [] 37 (PT.fin []))) 36 (PT.one [] 34 (PT.one [35] 37 (PT.fin [])))) 36 (PT.one [] 29 (PT.one [30] 34 (PT.one [35] 37 (PT.fin []))))) 36 (PT.one [] 25 (PT.one [] 29 (PT.one [30] 34 (PT.one [35] 37 (PT.fin [])))))) 36 (PT.one [] 21 (PT.one [] 25 (PT.one [] 29 (PT.one [30] 34 (PT.one [35] 37 (PT.fin []))))))) 36 (PT.one [] 20 (PT.one [] 21 (PT.one [] 25 (PT.one [] 29 (PT.one [30] 34 (PT.one [35] 37 (PT.fin [])))))))) (by kernel_rfl) (by kernel_rfl) (by kernel_rfl) (fun _ _ _ _ _ h => h) ⟨⟨_, (brefl wr).drew⟩, rfl⟩ ?_
                          refine wpTree_two ?_
                          simp only [pickOps, List.getElem?_cons_succ, List.getElem?_cons_zero, Option.elim_some]
                          repeat (go_big_quiet_step (fail))
                          refine wpQuiet_nil ?_
                          refine ⟨?_, ?_⟩
                          · refine planAct_some (fun K hK => ?_)
                            go_simp
                            refine ((HAT3.out _ (brefl wr).drew)).mono ?_
                            rintro e w' ⟨rfl, rfl⟩
                            go_wp2_with fail
                            refine hK.out _ _ ⟨⟨_, (brefl wr).drew⟩, rfl⟩ ?_
                            clear hK K
                            refine wpTree_two ?_
                            simp only [pickOps, List.getElem?_cons_succ, List.getElem?_cons_zero, Option.elim_some]
                            repeat (go_big_quiet_step (fail))
                            refine wpQuiet_nil ?_
                            refine ⟨?_, ?_⟩
                            · refine planAct_some (fun K hK => ?_)
                              go_simp
                              refine ((HFN.out _)).mono ?_
                              rintro e w' ⟨rfl, rfl⟩
                              go_wp2_with fail
                              refine hK.out _ _ ⟨⟨_, (brefl wr).drew⟩, rfl⟩ ?_
                              clear hK K
                              refine wpTree_two ?_
                              simp only [pickOps, List.getElem?_cons_succ, List.getElem?_cons_zero, Option.elim_some]
                              repeat (go_big_quiet_step (fail))
                              refine wpQuiet_nil ?_
                              refine ⟨?_, ?_⟩
                              · refine planAct_some (fun K hK => ?_)
                                go_simp
                                refine ((HAT11.out _ (brefl wr).drew)).mono ?_
                                rintro e w' ⟨rfl, rfl⟩
                                go_wp2_with fail
                                refine hK.out _ _ ⟨⟨_, (brefl wr).drew⟩, rfl⟩ ?_
                                clear hK K
                                refine wpTree_two ?_
                                simp only [pickOps, List.getElem?_cons_succ, List.getElem?_cons_zero, Option.elim_some]
                                repeat (go_big_quiet_step (fail))
                                refine wpQuiet_nil ?_
                                refine ⟨?_, ?_⟩
                                · refine planAct_some (fun K hK => ?_)
                                  go_simp
                                  refine ((HAT19.out _ (brefl wr).drew)).mono ?_
                                  rintro e w' ⟨rfl, rfl⟩
                                  go_wp2_with fail
                                  refine hK.out _ _ ⟨⟨_, (brefl wr).drew⟩, rfl⟩ ?_
                                  clear hK K
                                  refine wpTree_two ?_
                                  simp only [pickOps, List.getElem?_cons_succ, List.getElem?_cons_zero, Option.elim_some]
                                  repeat (go_big_quiet_step (fail))
                                  refine wpQuiet_nil ?_
                                  refine ⟨?_, ?_⟩
                                  · refine planAct_some (fun K hK => ?_)
                                    go_simp
                                    refine ((HAT27.out _ (brefl wr).drew)).mono ?_
                                    rintro e w' ⟨rfl, rfl⟩
                                    go_wp2_with fail
                                    refine hK.out _ _ ⟨⟨_, (brefl wr).drew⟩, rfl⟩ ?_
                                    clear hK K
                                    refine wpTree_one ?_
                                    simp only [pickOps, List.getElem?_cons_succ, List.getElem?_cons_zero, Option.elim_some]
                                    repeat (go_big_quiet_step (fail))
                                    refine wpQuiet_nil ?_
                                    refine planAct_some (fun K hK => ?_)
                                    go_simp
                                    refine hK.out _ _ (ext_mem (bnew (brefl wr).drew _)) ?_
                                    clear hK K
                                    refine wpTree_one ?_
                                    simp only [pickOps, List.getElem?_cons_succ, List.getElem?_cons_zero, Option.elim_some]
                                    repeat (go_big_quiet_step (fail))
                                    refine wpQuiet_nil ?_
                                    refine planAct_some (fun K hK => ?_)
                                    refine act_store_row rfl 63 (.tmp 10) (.tmp 128) rfl wr.heap.size _ rfl rfl 63 _ (Blk.new wr.drew _ _) (by kernel_rfl) (by simp) (by simp [Value.oneCell']) ?_
                                    refine hK.out _ _ (ext_mem ((keeps_row (wr.drew.alloc (.cells #[.int .i64 0, .int .i64 0, .int .i64 0, .int .u64 0, .int .u64 0, .int .u64 0, .int .i64 0] 63)) wr.heap.size #[.int .i64 v0, .int .i64 v1, .int .i64 (wrap64 n3), .int .u64 n11, .int .u64 n19, .int .u64 n27, .int .i64 v2]).below (bnew (brefl wr).drew _) (by simp) (fun x e _ => by have e' : x = wr.heap.size := e; omega))) ?_
                                    clear hK K
                                    refine wpTree_fin ?_
                                    simp only [pickOps, List.getElem?_cons_succ, List.getElem?_cons_zero, Option.elim_some]
                                    repeat (go_big_quiet_step (fail))
                                    refine wpQuiet_nil ?_
                                    refine NoPanic.normal ?_
                                    clear hX hzz0
                                    go_wp2_with fail
                                    go_meet
                                    case rel =>
                                      refine ⟨by rw [HZC.out], ?_, ((keeps_row (wr.drew.alloc (.cells #[.int .i64 0, .int .i64 0, .int .i64 0, .int .u64 0, .int .u64 0, .int .u64 0, .int .i64 0] 63)) wr.heap.size #[.int .i64 v0, .int .i64 v1, .int .i64 (wrap64 n3), .int .u64 n11, .int .u64 n19, .int .u64 n27, .int .i64 v2]).below (bnew (brefl wr).drew _) (by simp) (fun x e _ => by have e' : x = wr.heap.size := e; omega))⟩
                                      have h := (Blk.new wr.drew 63 #[.int .i64 0, .int .i64 0, .int .i64 0, .int .u64 0, .int .u64 0, .int .u64 0, .int .i64 0]).row #[.int .i64 v0, .int .i64 v1, .int .i64 (wrap64 n3), .int .u64 n11, .int .u64 n19, .int .u64 n27, .int .i64 v2]
                                      rw [show wr.drew.heap.size = zc from HZC.out] at h
                                      rw [show wr.heap.size = zc from HZC.out]
                                      exact h
                                  · refine planAct_some (fun K hK => ?_)
                                    go_simp
                                    refine hK.out _ _ (ext_mem (bnew (brefl wr).drew _)) ?_
                                    clear hK K
                                    refine wpTree_one ?_
                                    simp only [pickOps, List.getElem?_cons_succ, List.getElem?_cons_zero, Option.elim_some]
                                    repeat (go_big_quiet_step (fail))
                                    refine wpQuiet_nil ?_
                                    refine planAct_some (fun K hK => ?_)
                                    go_simp
                                    refine ((HAT27.out _ (bnew (brefl wr).drew _))).mono ?_
                                    rintro e w' ⟨rfl, rfl⟩
                                    go_wp2_with fail
                                    refine hK.out _ _ ⟨⟨_, (bnew (brefl wr).drew _)⟩, rfl⟩ ?_
                                    clear hK K
                                    refine wpTree_one ?_
                                    simp only [pickOps, List.getElem?_cons_succ, List.getElem?_cons_zero, Option.elim_some]
                                    repeat (go_big_quiet_step (fail))
                                    refine wpQuiet_nil ?_
                                    refine planAct_some (fun K hK => ?_)
                                    refine act_store_row rfl 63 (.tmp 10) (.tmp 128) rfl wr.heap.size _ rfl rfl 63 _ (Blk.new wr.drew _ _) (by kernel_rfl) (by simp) (by simp [Value.oneCell']) ?_
                                    refine hK.out _ _ (ext_mem ((keeps_row (wr.drew.alloc (.cells #[.int .i64 0, .int .i64 0, .int .i64 0, .int .u64 0, .int .u64 0, .int .u64 0, .int .i64 0] 63)) wr.heap.size #[.int .i64 v0, .int .i64 v1, .int .i64 (wrap64 n3), .int .u64 n11, .int .u64 n19, .int .u64 n27, .int .i64 v2]).below (bnew (brefl wr).drew _) (by simp) (fun x e _ => by have e' : x = wr.heap.size := e; omega))) ?_
                                    clear hK K
                                    refine wpTree_fin ?_
                                    simp only [pickOps, List.getElem?_cons_succ, List.getElem?_cons_zero, Option.elim_some]
                                    repeat (go_big_quiet_step (fail))
                                    refine wpQuiet_nil ?_
                                    refine NoPanic.normal ?_
                                    clear hX hzz0
                                    go_wp2_with fail
                                    go_meet
                                    case rel =>
                                      refine ⟨by rw [HZC.out], ?_, ((keeps_row (wr.drew.alloc (.cells #[.int .i64 0, .int .i64 0, .int .i64 0, .int .u64 0, .int .u64 0, .int .u64 0, .int .i64 0] 63)) wr.heap.size #[.int .i64 v0, .int .i64 v1, .int .i64 (wrap64 n3), .int .u64 n11, .int .u64 n19, .int .u64 n27, .int .i64 v2]).below (bnew (brefl wr).drew _) (by simp) (fun x e _ => by have e' : x = wr.heap.size := e; omega))⟩
                                      have h := (Blk.new wr.drew 63 #[.int .i64 0, .int .i64 0, .int .i64 0, .int .u64 0, .int .u64 0, .int .u64 0, .int .i64 0]).row #[.int .i64 v0, .int .i64 v1, .int .i64 (wrap64 n3), .int .u64 n11, .int .u64 n19, .int .u64 n27, .int .i64 v2]
                                      rw [show wr.drew.heap.size = zc from HZC.out] at h
                                      rw [show wr.heap.size = zc from HZC.out]
                                      exact h
                                · refine planAct_some (fun K hK => ?_)
                                  go_simp
                                  refine hK.out _ _ (ext_mem (bnew (brefl wr).drew _)) ?_
                                  clear hK K
                                  refine wpTree_one ?_
                                  simp only [pickOps, List.getElem?_cons_succ, List.getElem?_cons_zero, Option.elim_some]
                                  repeat (go_big_quiet_step (fail))
                                  refine wpQuiet_nil ?_
                                  refine planAct_some (fun K hK => ?_)
                                  go_simp
                                  refine ((HAT19.out _ (bnew (brefl wr).drew _))).mono ?_
                                  rintro e w' ⟨rfl, rfl⟩
                                  go_wp2_with fail
                                  refine hK.out _ _ ⟨⟨_, (bnew (brefl wr).drew _)⟩, rfl⟩ ?_
                                  clear hK K
                                  refine wpTree_one ?_
                                  simp only [pickOps, List.getElem?_cons_succ, List.getElem?_cons_zero, Option.elim_some]
                                  repeat (go_big_quiet_step (fail))
                                  refine wpQuiet_nil ?_
                                  refine planAct_some (fun K hK => ?_)
                                  go_simp
                                  refine ((HAT27.out _ (bnew (brefl wr).drew _))).mono ?_
                                  rintro e w' ⟨rfl, rfl⟩
                                  go_wp2_with fail
                                  refine hK.out _ _ ⟨⟨_, (bnew (brefl wr).drew _)⟩, rfl⟩ ?_
                                  clear hK K
                                  refine wpTree_one ?_
                                  simp only [pickOps, List.getElem?_cons_succ, List.getElem?_cons_zero, Option.elim_some]
                                  repeat (go_big_quiet_step (fail))
                                  refine wpQuiet_nil ?_
                                  refine planAct_some (fun K hK => ?_)
                                  refine act_store_row rfl 63 (.tmp 10) (.tmp 128) rfl wr.heap.size _ rfl rfl 63 _ (Blk.new wr.drew _ _) (by kernel_rfl) (by simp) (by simp [Value.oneCell']) ?_
                                  refine hK.out _ _ (ext_mem ((keeps_row (wr.drew.alloc (.cells #[.int .i64 0, .int .i64 0, .int .i64 0, .int .u64 0, .int .u64 0, .int .u64 0, .int .i64 0] 63)) wr.heap.size #[.int .i64 v0, .int .i64 v1, .int .i64 (wrap64 n3), .int .u64 n11, .int .u64 n19, .int .u64 n27, .int .i64 v2]).below (bnew (brefl wr).drew _) (by simp) (fun x e _ => by have e' : x = wr.heap.size := e; omega))) ?_
                                  clear hK K
                                  refine wpTree_fin ?_
                                  simp only [pickOps, List.getElem?_cons_succ, List.getElem?_cons_zero, Option.elim_some]
                                  repeat (go_big_quiet_step (fail))
                                  refine wpQuiet_nil ?_
                                  refine NoPanic.normal ?_
                                  clear hX hzz0
                                  go_wp2_with fail
                                  go_meet
                                  case rel =>
                                    refine ⟨by rw [HZC.out], ?_, ((keeps_row (wr.drew.alloc (.cells #[.int .i64 0, .int .i64 0, .int .i64 0, .int .u64 0, .int .u64 0, .int .u64 0, .int .i64 0] 63)) wr.heap.size #[.int .i64 v0, .int .i64 v1, .int .i64 (wrap64 n3), .int .u64 n11, .int .u64 n19, .int .u64 n27, .int .i64 v2]).below (bnew (brefl wr).drew _) (by simp) (fun x e _ => by have e' : x = wr.heap.size := e; omega))⟩
                                    have h := (Blk.new wr.drew 63 #[.int .i64 0, .int .i64 0, .int .i64 0, .int .u64 0, .int .u64 0, .int .u64 0, .int .i64 0]).row #[.int .i64 v0, .int .i64 v1, .int .i64 (wrap64 n3), .int .u64 n11, .int .u64 n19, .int .u64 n27, .int .i64 v2]
                                    rw [show wr.drew.heap.size = zc from HZC.out] at h
                                    rw [show wr.heap.size = zc from HZC.out]
                                    exact h
                              · refine planAct_some (fun K hK => ?_)
                                go_simp
                                refine hK.out _ _ (ext_mem (bnew (brefl wr).drew _)) ?_
                                clear hK K
                                refine wpTree_one ?_
                                simp only [pickOps, List.getElem?_cons_succ, List.getElem?_cons_zero, Option.elim_some]
                                repeat (go_big_quiet_step (fail))
                                refine wpQuiet_nil ?_
                                refine planAct_some (fun K hK => ?_)
                                go_simp
                                refine ((HAT11.out _ (bnew (brefl wr).drew _))).mono ?_
                                rintro e w' ⟨rfl, rfl⟩
                                go_wp2_with fail
                                refine hK.out _ _ ⟨⟨_, (bnew (brefl wr).drew _)⟩, rfl⟩ ?_
                                clear hK K
                                refine wpTree_one ?_
                                simp only [pickOps, List.getElem?_cons_succ, List.getElem?_cons_zero, Option.elim_some]
                                repeat (go_big_quiet_step (fail))
                                refine wpQuiet_nil ?_
                                refine planAct_some (fun K hK => ?_)
                                go_simp
                                refine ((HAT19.out _ (bnew (brefl wr).drew _))).mono ?_
                                rintro e w' ⟨rfl, rfl⟩
                                go_wp2_with fail
                                refine hK.out _ _ ⟨⟨_, (bnew (brefl wr).drew _)⟩, rfl⟩ ?_
                                clear hK K
                                refine wpTree_one ?_
                                simp only [pickOps, List.getElem?_cons_succ, List.getElem?_cons_zero, Option.elim_some]
                                repeat (go_big_quiet_step (fail))
                                refine wpQuiet_nil ?_
                                refine planAct_some (fun K hK => ?_)
                                go_simp
                                refine ((HAT27.out _ (bnew (brefl wr).drew _))).mono ?_
                                rintro e w' ⟨rfl, rfl⟩
                                go_wp2_with fail
                                refine hK.out _ _ ⟨⟨_, (bnew (brefl wr).drew _)⟩, rfl⟩ ?_
                                clear hK K
                                refine wpTree_one ?_
                                simp only [pickOps, List.getElem?_cons_succ, List.getElem?_cons_zero, Option.elim_some]
                                repeat (go_big_quiet_step (fail))
                                refine wpQuiet_nil ?_
                                refine planAct_some (fun K hK => ?_)
                                refine act_store_row rfl 63 (.tmp 10) (.tmp 128) rfl wr.heap.size _ rfl rfl 63 _ (Blk.new wr.drew _ _) (by kernel_rfl) (by simp) (by simp [Value.oneCell']) ?_
                                refine hK.out _ _ (ext_mem ((keeps_row (wr.drew.alloc (.cells #[.int .i64 0, .int .i64 0, .int .i64 0, .int .u64 0, .int .u64 0, .int .u64 0, .int .i64 0] 63)) wr.heap.size #[.int .i64 v0, .int .i64 v1, .int .i64 (wrap64 n3), .int .u64 n11, .int .u64 n19, .int .u64 n27, .int .i64 v2]).below (bnew (brefl wr).drew _) (by simp) (fun x e _ => by have e' : x = wr.heap.size := e; omega))) ?_
                                clear hK K
                                refine wpTree_fin ?_
                                simp only [pickOps, List.getElem?_cons_succ, List.getElem?_cons_zero, Option.elim_some]
                                repeat (go_big_quiet_step (fail))
                                refine wpQuiet_nil ?_
                                refine NoPanic.normal ?_
                                clear hX hzz0
                                go_wp2_with fail
                                go_meet
                                case rel =>
                                  refine ⟨by rw [HZC.out], ?_, ((keeps_row (wr.drew.alloc (.cells #[.int .i64 0, .int .i64 0, .int .i64 0, .int .u64 0, .int .u64 0, .int .u64 0, .int .i64 0] 63)) wr.heap.size #[.int .i64 v0, .int .i64 v1, .int .i64 (wrap64 n3), .int .u64 n11, .int .u64 n19, .int .u64 n27, .int .i64 v2]).below (bnew (brefl wr).drew _) (by simp) (fun x e _ => by have e' : x = wr.heap.size := e; omega))⟩
                                  have h := (Blk.new wr.drew 63 #[.int .i64 0, .int .i64 0, .int .i64 0, .int .u64 0, .int .u64 0, .int .u64 0, .int .i64 0]).row #[.int .i64 v0, .int .i64 v1, .int .i64 (wrap64 n3), .int .u64 n11, .int .u64 n19, .int .u64 n27, .int .i64 v2]
                                  rw [show wr.drew.heap.size = zc from HZC.out] at h
                                  rw [show wr.heap.size = zc from HZC.out]
                                  exact h
                            · refine planAct_some (fun K hK => ?_)
                              go_simp
                              refine hK.out _ _ (ext_mem (bnew (brefl wr).drew _)) ?_
                              clear hK K
                              refine wpTree_one ?_
                              simp only [pickOps, List.getElem?_cons_succ, List.getElem?_cons_zero, Option.elim_some]
                              repeat (go_big_quiet_step (fail))
                              refine wpQuiet_nil ?_
                              refine planAct_some (fun K hK => ?_)
                              go_simp
                              refine ((HFN.out _)).mono ?_
                              rintro e w' ⟨rfl, rfl⟩
                              go_wp2_with fail
                              refine hK.out _ _ ⟨⟨_, (bnew (brefl wr).drew _)⟩, rfl⟩ ?_
                              clear hK K
                              refine wpTree_one ?_
                              simp only [pickOps, List.getElem?_cons_succ, List.getElem?_cons_zero, Option.elim_some]
                              repeat (go_big_quiet_step (fail))
                              refine wpQuiet_nil ?_
                              refine planAct_some (fun K hK => ?_)
                              go_simp
                              refine ((HAT11.out _ (bnew (brefl wr).drew _))).mono ?_
                              rintro e w' ⟨rfl, rfl⟩
                              go_wp2_with fail
                              refine hK.out _ _ ⟨⟨_, (bnew (brefl wr).drew _)⟩, rfl⟩ ?_
                              clear hK K
                              refine wpTree_one ?_
                              simp only [pickOps, List.getElem?_cons_succ, List.getElem?_cons_zero, Option.elim_some]
                              repeat (go_big_quiet_step (fail))
                              refine wpQuiet_nil ?_
                              refine planAct_some (fun K hK => ?_)
                              go_simp
                              refine ((HAT19.out _ (bnew (brefl wr).drew _))).mono ?_
                              rintro e w' ⟨rfl, rfl⟩
                              go_wp2_with fail
                              refine hK.out _ _ ⟨⟨_, (bnew (brefl wr).drew _)⟩, rfl⟩ ?_
                              clear hK K
                              refine wpTree_one ?_
                              simp only [pickOps, List.getElem?_cons_succ, List.getElem?_cons_zero, Option.elim_some]
                              repeat (go_big_quiet_step (fail))
                              refine wpQuiet_nil ?_
                              refine planAct_some (fun K hK => ?_)
                              go_simp
                              refine ((HAT27.out _ (bnew (brefl wr).drew _))).mono ?_
                              rintro e w' ⟨rfl, rfl⟩
                              go_wp2_with fail
                              refine hK.out _ _ ⟨⟨_, (bnew (brefl wr).drew _)⟩, rfl⟩ ?_
                              clear hK K
                              refine wpTree_one ?_
                              simp only [pickOps, List.getElem?_cons_succ, List.getElem?_cons_zero, Option.elim_some]
                              repeat (go_big_quiet_step (fail))
                              refine wpQuiet_nil ?_
                              refine planAct_some (fun K hK => ?_)
                              refine act_store_row rfl 63 (.tmp 10) (.tmp 128) rfl wr.heap.size _ rfl rfl 63 _ (Blk.new wr.drew _ _) (by kernel_rfl) (by simp) (by simp [Value.oneCell']) ?_
                              refine hK.out _ _ (ext_mem ((keeps_row (wr.drew.alloc (.cells #[.int .i64 0, .int .i64 0, .int .i64 0, .int .u64 0, .int .u64 0, .int .u64 0, .int .i64 0] 63)) wr.heap.size #[.int .i64 v0, .int .i64 v1, .int .i64 (wrap64 n3), .int .u64 n11, .int .u64 n19, .int .u64 n27, .int .i64 v2]).below (bnew (brefl wr).drew _) (by simp) (fun x e _ => by have e' : x = wr.heap.size := e; omega))) ?_
                              clear hK K
                              refine wpTree_fin ?_
                              simp only [pickOps, List.getElem?_cons_succ, List.getElem?_cons_zero, Option.elim_some]
                              repeat (go_big_quiet_step (fail))
                              refine wpQuiet_nil ?_
                              refine NoPanic.normal ?_
                              clear hX hzz0
                              go_wp2_with fail
                              go_meet
                              case rel =>
                                refine ⟨by rw [HZC.out], ?_, ((keeps_row (wr.drew.alloc (.cells #[.int .i64 0, .int .i64 0, .int .i64 0, .int .u64 0, .int .u64 0, .int .u64 0, .int .i64 0] 63)) wr.heap.size #[.int .i64 v0, .int .i64 v1, .int .i64 (wrap64 n3), .int .u64 n11, .int .u64 n19, .int .u64 n27, .int .i64 v2]).below (bnew (brefl wr).drew _) (by simp) (fun x e _ => by have e' : x = wr.heap.size := e; omega))⟩
                                have h := (Blk.new wr.drew 63 #[.int .i64 0, .int .i64 0, .int .i64 0, .int .u64 0, .int .u64 0, .int .u64 0, .int .i64 0]).row #[.int .i64 v0, .int .i64 v1, .int .i64 (wrap64 n3), .int .u64 n11, .int .u64 n19, .int .u64 n27, .int .i64 v2]
                                rw [show wr.drew.heap.size = zc from HZC.out] at h
                                rw [show wr.heap.size = zc from HZC.out]
                                exact h
                          · refine planAct_some (fun K hK => ?_)
                            go_simp
                            refine hK.out _ _ (ext_mem (bnew (brefl wr).drew _)) ?_
                            clear hK K
                            refine wpTree_one ?_
                            simp only [pickOps, List.getElem?_cons_succ, List.getElem?_cons_zero, Option.elim_some]
                            repeat (go_big_quiet_step (fail))
                            refine wpQuiet_nil ?_
                            refine planAct_some (fun K hK => ?_)
                            go_simp
                            refine ((HAT3.out _ (bnew (brefl wr).drew _))).mono ?_
                            rintro e w' ⟨rfl, rfl⟩
                            go_wp2_with fail
                            refine hK.out _ _ ⟨⟨_, (bnew (brefl wr).drew _)⟩, rfl⟩ ?_
                            clear hK K
                            refine wpTree_one ?_
                            simp only [pickOps, List.getElem?_cons_succ, List.getElem?_cons_zero, Option.elim_some]
                            repeat (go_big_quiet_step (fail))
                            refine wpQuiet_nil ?_
                            refine planAct_some (fun K hK => ?_)
                            go_simp
                            refine ((HFN.out _)).mono ?_
                            rintro e w' ⟨rfl, rfl⟩
                            go_wp2_with fail
                            refine hK.out _ _ ⟨⟨_, (bnew (brefl wr).drew _)⟩, rfl⟩ ?_
                            clear hK K
                            refine wpTree_one ?_
                            simp only [pickOps, List.getElem?_cons_succ, List.getElem?_cons_zero, Option.elim_some]
                            repeat (go_big_quiet_step (fail))
                            refine wpQuiet_nil ?_
                            refine planAct_some (fun K hK => ?_)
                            go_simp
                            refine ((HAT11.out _ (bnew (brefl wr).drew _))).mono ?_
                            rintro e w' ⟨rfl, rfl⟩
                            go_wp2_with fail
                            refine hK.out _ _ ⟨⟨_, (bnew (brefl wr).drew _)⟩, rfl⟩ ?_
                            clear hK K
                            refine wpTree_one ?_
                            simp only [pickOps, List.getElem?_cons_succ, List.getElem?_cons_zero, Option.elim_some]
                            repeat (go_big_quiet_step (fail))
                            refine wpQuiet_nil ?_
                            refine planAct_some (fun K hK => ?_)
                            go_simp
                            refine ((HAT19.out _ (bnew (brefl wr).drew _))).mono ?_
                            rintro e w' ⟨rfl, rfl⟩
                            go_wp2_with fail
                            refine hK.out _ _ ⟨⟨_, (bnew (brefl wr).drew _)⟩, rfl⟩ ?_
                            clear hK K
                            refine wpTree_one ?_
                            simp only [pickOps, List.getElem?_cons_succ, List.getElem?_cons_zero, Option.elim_some]
                            repeat (go_big_quiet_step (fail))
                            refine wpQuiet_nil ?_
                            refine planAct_some (fun K hK => ?_)
                            go_simp
                            refine ((HAT27.out _ (bnew (brefl wr).drew _))).mono ?_
                            rintro e w' ⟨rfl, rfl⟩
                            go_wp2_with fail
                            refine hK.out _ _ ⟨⟨_, (bnew (brefl wr).drew _)⟩, rfl⟩ ?_
                            clear hK K
                            refine wpTree_one ?_
                            simp only [pickOps, List.getElem?_cons_succ, List.getElem?_cons_zero, Option.elim_some]
                            repeat (go_big_quiet_step (fail))
                            refine wpQuiet_nil ?_
                            refine planAct_some (fun K hK => ?_)
                            refine act_store_row rfl 63 (.tmp 10) (.tmp 128) rfl wr.heap.size _ rfl rfl 63 _ (Blk.new wr.drew _ _) (by kernel_rfl) (by simp) (by simp [Value.oneCell']) ?_
                            refine hK.out _ _ (ext_mem ((keeps_row (wr.drew.alloc (.cells #[.int .i64 0, .int .i64 0, .int .i64 0, .int .u64 0, .int .u64 0, .int .u64 0, .int .i64 0] 63)) wr.heap.size #[.int .i64 v0, .int .i64 v1, .int .i64 (wrap64 n3), .int .u64 n11, .int .u64 n19, .int .u64 n27, .int .i64 v2]).below (bnew (brefl wr).drew _) (by simp) (fun x e _ => by have e' : x = wr.heap.size := e; omega))) ?_
                            clear hK K
                            refine wpTree_fin ?_
                            simp only [pickOps, List.getElem?_cons_succ, List.getElem?_cons_zero, Option.elim_some]
                            repeat (go_big_quiet_step (fail))
                            refine wpQuiet_nil ?_
                            refine NoPanic.normal ?_
                            clear hX hzz0
                            go_wp2_with fail
                            go_meet
                            case rel =>
                              refine ⟨by rw [HZC.out], ?_, ((keeps_row (wr.drew.alloc (.cells #[.int .i64 0, .int .i64 0, .int .i64 0, .int .u64 0, .int .u64 0, .int .u64 0, .int .i64 0] 63)) wr.heap.size #[.int .i64 v0, .int .i64 v1, .int .i64 (wrap64 n3), .int .u64 n11, .int .u64 n19, .int .u64 n27, .int .i64 v2]).below (bnew (brefl wr).drew _) (by simp) (fun x e _ => by have e' : x = wr.heap.size := e; omega))⟩
                              have h := (Blk.new wr.drew 63 #[.int .i64 0, .int .i64 0, .int .i64 0, .int .u64 0, .int .u64 0, .int .u64 0, .int .i64 0]).row #[.int .i64 v0, .int .i64 v1, .int .i64 (wrap64 n3), .int .u64 n11, .int .u64 n19, .int .u64 n27, .int .i64 v2]
                              rw [show wr.drew.heap.size = zc from HZC.out] at h
                              rw [show wr.heap.size = zc from HZC.out]
                              exact h
                        case rest =>
                        obtain ⟨rfl, D3, hb3⟩ := hcut
                        have hzlt : a + 1 < zc := by have := B2.lt; have := HZC.out; omega
                        have hzkc : zk ≤ zc := by have := HZC.out; have := hzw.out; omega
                        have A3 := A2.below_ hb3
                        have B3 := B2.below_ hb3
                        have own3 := (Keeps.of_below (S := fun _ => False) hb3).own own (fun _ _ h => h)
                        have HLT : Hid (∀ k', (Value.slice A k2 c').ownBlock = some k' → k' < zc) := fun k' q => by have := own_ltb own k' q; have := HZC.out; omega
                        have P3 := hP.below hb3
                        have kb3 := bnext kb2 hb3
                        have hz3 := hb3.size
                        obtain ⟨xc, hxc⟩ : ∃ xc, callL (l.drop j) = xc := ⟨_, rfl⟩
                        have D4 : Blk wc zc 63 (cvc xc).toArray := by rw [← hxc, HXC.out]; exact D3
                        have hcm := fun W => rcmay_any xc W
                        have hi7 := info_cvc xc
                        have HOW := Lib.hid own3
                        have HZ3 := Lib.hid hz3
                        clear y0 p0 r0 y1 p1 r1 y2 p2 r2 HAT3 HAT11 HAT19 HAT27 HFN A2 B2 own hP kb2 hb3 D3 HXC j1a j1b j1c j2a j2b j2c j0a j0b t35 own3 hz3 HU
                        have hzq := D4.lt
                        cases hok : okC xc with
                        | false =>
                          have HE : Hid (pScript l = .error 14) := by rw [Hid, hp.out, pProgs_error (n := 14) (by rw [hpp.out, pCalls, if_neg (by rw [List.length_drop]; have := HJL.out; omega), if_pos (by rw [hxc]; exact hok)]; rfl)]; rfl
                          rw [hok] at hcm
                          clear hok hxc hp hpp
                          have tok1 : True := trivial
                          go_upto_region 27 with (first | (have _t := tok1; refine wpList_load_row (o := ⟨some 129, _, _, _, _, _⟩) rfl 63 (.tmp 10) rfl zc rfl 63 _ _ _ D4 Tryd.underlying63 rfl hi7 ?_; clear tok1 _t) | (go_at_call 26; refine (hcm _).mono ?_; rintro e w5 ⟨rfl, hb5⟩))
                          have kb5 := bnext kb3 hb5
                          have A5 := A3.below_ hb5
                          have tok9 : True := trivial
                          go_wp2_with (first | (have _t := tok9; refine wpList_store_row (o := ⟨none, .store 29 (.tmp 2) (.tmp 132), _, _, _, _⟩) rfl 29 (.tmp 2) (.tmp 132) rfl a _ rfl rfl 29 _ A5 (by kernel_rfl) rfl (by simp [Value.oneCell']) ?_; clear tok9 _t))
                          have kr := keeps_row w5 a #[.int .i64 0, .int .i64 0, .int .i64 0, .int .i64 0, .int .i64 0, .int .i64 0, .int .i64 0, .int .i64 0, .int .i64 0, .int .i64 0, .int .i64 0, .int .i64 0, .int .i64 0, .int .i64 0, .slice none 0 0, .slice none 0 0, .slice none 0 0, .slice none 0 0, .slice none 0 0, .slice none 0 0, .slice none 0 0, .slice none 0 0, .slice none 0 0]
                          have HX : RTakeR w (pScript l) (.returned (.tuple #[.agg #[.int .i64 0, .int .i64 0, .int .i64 0, .int .i64 0, .int .i64 0, .int .i64 0, .int .i64 0, .int .i64 0, .int .i64 0, .int .i64 0, .int .i64 0, .int .i64 0, .int .i64 0, .int .i64 0, .slice none 0 0, .slice none 0 0, .slice none 0 0, .slice none 0 0, .slice none 0 0, .slice none 0 0, .slice none 0 0, .slice none 0 0, .slice none 0 0], .int .i64 14])) (w5.setRow a #[.int .i64 0, .int .i64 0, .int .i64 0, .int .i64 0, .int .i64 0, .int .i64 0, .int .i64 0, .int .i64 0, .int .i64 0, .int .i64 0, .int .i64 0, .int .i64 0, .int .i64 0, .int .i64 0, .slice none 0 0, .slice none 0 0, .slice none 0 0, .slice none 0 0, .slice none 0 0, .slice none 0 0, .slice none 0 0, .slice none 0 0, .slice none 0 0]) := by
                            rw [HE.out]
                            exact ⟨kr.below kb5 (by have := (kb5).size; omega) (fun x e _ => by omega), rfl⟩
                          exact bodyPost_ret (v := .tuple #[.agg #[.int .i64 0, .int .i64 0, .int .i64 0, .int .i64 0, .int .i64 0, .int .i64 0, .int .i64 0, .int .i64 0, .int .i64 0, .int .i64 0, .int .i64 0, .int .i64 0, .int .i64 0, .int .i64 0, .slice none 0 0, .slice none 0 0, .slice none 0 0, .slice none 0 0, .slice none 0 0, .slice none 0 0, .slice none 0 0, .slice none 0 0, .slice none 0 0], .int .i64 14]) (results_ct (p1 := 2) (p2 := 3) (a := a) Tryd.results19 rfl rfl ((A5).row _) (by kernel_rfl)) rfl HX
                        | true =>
                          have HPP1 : Hid (pProg (l.drop i) = pre (xs ++ [xc]) (pCalls g2 (l.drop (j + 35)))) := by
                            have := pre_step xs g2 (l.drop j) (by rw [List.length_drop]; have := HJL.out; omega) (by rw [hxc]; exact hok)
                            rw [Hid, hpp.out, this, hxc, List.drop_drop]
                          have HF : Hid ((xs ++ [xc]).flatMap cvc = xs.flatMap cvc ++ cvc xc) := by rw [Hid, List.flatMap_append]; simp
                          rw [hok] at hcm
                          clear hok hxc hpp
                          have tok1 : True := trivial
                          go_upto_region 28 with (first | (have _t := tok1; refine wpList_load_row (o := ⟨some 129, _, _, _, _, _⟩) rfl 63 (.tmp 10) rfl zc rfl 63 _ _ _ D4 Tryd.underlying63 rfl hi7 ?_; clear tok1 _t) | (go_at_call 26; refine (hcm _).mono ?_; rintro e w5 ⟨rfl, hb5⟩))
                          have kb5 := bnext kb3 hb5
                          have A5 := A3.below_ hb5
                          have B5 := B3.below_ hb5
                          have D5 := D4.below_ hb5
                          have own5 := (Keeps.of_below (S := fun _ => False) hb5).own HOW.out (fun _ _ h => h)
                          have P5 := P3.below hb5
                          have hz5 := hb5.size
                          have hzk5 : zk ≤ w5.heap.size := by have := HZ3.out; have := hzw.out; omega
                          clear A3 B3 D4 P3 kb3 hb5 hcm HOW hzq hz5 HZ3
                          have D6 : Blk w5 zc 63 #[.int .i64 xc.op, .int .i64 xc.lv, .int .i64 xc.key, .int .u64 xc.a, .int .u64 xc.b, .int .u64 xc.h, .int .i64 xc.rg] := D5
                          have hu8 : (us.set k (.slice A k2 c')).length = 8 := by rw [List.length_set]; exact h8
                          have hck : (scc c0 (us.set k (.slice A k2 c')) (.slice none 0 0)).toArray[14 + k]? = some (.slice A k2 c') := by rw [List.getElem?_toArray]; exact scc_get (List.getElem?_set_self (by omega))
                          have k8i : (k : Int) < 8 := by omega
                          clear D5
                          obtain ⟨cs, hcs⟩ : ∃ cs, (scc c0 (us.set k (.slice A k2 c')) (.slice none 0 0)).toArray = cs := ⟨_, rfl⟩
                          rw [hcs] at B5 hck
                          have HCS := Lib.hid hcs
                          clear hcs
                          have nE : Nonempty (ExtB2 (a + 1) 29 cs zc 63 #[.int .i64 xc.op, .int .i64 xc.lv, .int .i64 xc.key, .int .u64 xc.a, .int .u64 xc.b, .int .u64 xc.h, .int .i64 xc.rg]) := ⟨⟨w5, B5, D6⟩⟩
                          have hqz := B5.lt
                          have hX : ∀ y : ExtB2 (a + 1) 29 cs zc 63 #[.int .i64 xc.op, .int .i64 xc.lv, .int .i64 xc.key, .int .u64 xc.a, .int .u64 xc.b, .int .u64 xc.h, .int .i64 xc.rg], y.w.cell? ⟨a + 1, 14 + k, none⟩ = some (.slice A k2 c') := fun y => (y.k.cell (14 + k)).trans hck
                          refine wp_region_noPanic ?_
                          refine wp_region_lastU (fun w' => ∃ x : ExtB2 (a + 1) 29 cs zc 63 #[.int .i64 xc.op, .int .i64 xc.lv, .int .i64 xc.key, .int .u64 xc.a, .int .u64 xc.b, .int .u64 xc.h, .int .i64 xc.rg], w' = x.w) 10 (PG.one [0, 1, 2, 3, 4, 5, 8] 6 (PG.one [] 7 (PG.fin [9]))) (by kernel_rfl) (by kernel_rfl) (by kernel_rfl) (fun _ _ _ _ _ h => h) (ext2_mem B5.drew D6.drew) ?_
                          refine wpG_one ?_
                          simp only [pickOps, List.getElem?_cons_succ, List.getElem?_cons_zero, Option.elim_some]
                          go_big_quiet_step (fail)
                          go_big_quiet_step (fail)
                          go_big_quiet_step (fail)
                          go_big_quiet_step (fail)
                          go_big_quiet_step (fail)
                          refine wpQuiet_load_row rfl 63 (.tmp 10) rfl zc rfl 63 _ _ (fun w ⟨x, e⟩ => e ▸ x.k') Tryd.underlying63 rfl hi7 ?_; simp only [Act.put, List.setIfInBounds_toArray, List.set_cons_succ, List.set_cons_zero]
                          go_big_quiet_step (fail)
                          refine wpQuiet_nil ?_
                          refine planAct_some (fun K hK => ?_)
                          go_simp
                          refine hK.out _ _ (ext2_mem (B5.alloc _) (D6.alloc _)) ?_
                          clear hK K
                          refine wpG_one ?_
                          simp only [pickOps, List.getElem?_cons_succ, List.getElem?_cons_zero, Option.elim_some]
                          repeat (go_big_quiet_step (fail))
                          refine wpQuiet_nil ?_
                          refine planAct_some (fun K hK => ?_)
                          refine step_app (ys := [.int .i64 xc.op, .int .i64 xc.lv, .int .i64 xc.key, .int .u64 xc.a, .int .u64 xc.b, .int .u64 xc.h, .int .i64 xc.rg]) (m := 1) E2 rfl (.tmp 137) (.tmp 139) rfl zk rfl (own5.alloc _ :) rfl rfl (Rd.new _ _ _ rfl) (by simp [Value.oneCell']) (by unfold maxLen; omega) (by omega) (by simp; omega) ?_
                          intro A8 c8 w8 own8 hg8 _
                          have G8 := (B5.alloc (.cells #[.int .i64 xc.op, .int .i64 xc.lv, .int .i64 xc.key, .int .u64 xc.a, .int .u64 xc.b, .int .u64 xc.h, .int .i64 xc.rg] 63)).drew.grown hg8 (fun q1 => own_ne_blk own5 B5 (by decide) q1.symm)
                          go_simp
                          refine hK.out _ _ (ext2_mem G8 ?G2) ?_
                          case G2 => exact (D6.alloc (.cells #[.int .i64 xc.op, .int .i64 xc.lv, .int .i64 xc.key, .int .u64 xc.a, .int .u64 xc.b, .int .u64 xc.h, .int .i64 xc.rg] 63)).drew.grown hg8 (fun q1 => by have := HLT.out zc q1.symm; omega)
                          clear hK K
                          have f8 := G8.frozen (14 + k)
                          have v8 := (G8.cell (14 + k)).trans hck
                          have z8 := G8.lt
                          refine wpG_fin ?_
                          simp only [pickOps, List.getElem?_cons_succ, List.getElem?_cons_zero, Option.elim_some]
                          repeat (go_big_quiet_step (fail))
                          refine wpQuiet_nil ?_
                          refine lastG_some (fun K hK => ?_)
                          go_simp
                          refine hK.out _ _ ?_
                          clear hK K
                          refine NoPanic.normal ?_
                          clear hX
                          obtain ⟨V, hV, A9, B9, own9, P9, kb9, z9⟩ : ∃ V, w8.setCell ⟨a + 1, 14 + k, none⟩ (.slice A8 (k2 + 1) c8) = V ∧ Blk V a 29 #[.int .i64 0, .int .i64 0, .int .i64 0, .int .i64 0, .int .i64 0, .int .i64 0, .int .i64 0, .int .i64 0, .int .i64 0, .int .i64 0, .int .i64 0, .int .i64 0, .int .i64 0, .int .i64 0, .slice none 0 0, .slice none 0 0, .slice none 0 0, .slice none 0 0, .slice none 0 0, .slice none 0 0, .slice none 0 0, .slice none 0 0, .slice none 0 0] ∧ Blk V (a + 1) 29 (scc c0 (us.set k (.slice A8 (k2 + 1) c8)) (.slice none 0 0)).toArray ∧ V.ownsRow zk 63 7 (.slice A8 (k2 + 1) c8) (k2 + 1) (xs.flatMap cvc ++ [.int .i64 xc.op, .int .i64 xc.lv, .int .i64 xc.key, .int .u64 xc.a, .int .u64 xc.b, .int .u64 xc.h, .int .i64 xc.rg]) ∧ PIn (fun b => b ≤ a + 1 ∨ zk ≤ b) V us ps ∧ Below w.heap.size w V ∧ zk ≤ V.heap.size := by
                            have kg : Keeps (fun b => zk ≤ b) w5 w8 := (((Keeps.refl (fun b => zk ≤ b) w5).alloc (.cells #[.int .i64 xc.op, .int .i64 xc.lv, .int .i64 xc.key, .int .u64 xc.a, .int .u64 xc.b, .int .u64 xc.h, .int .i64 xc.rg] 63)).drew).grown hg8 (fun k' h _ => own_ge own5 k' h)
                            have k4 := (Keeps.refl (fun b => b = a + 1) w8).setCell (p := ⟨a + 1, 14 + k, none⟩) (fun _ => rfl) (.slice A8 (k2 + 1) c8)
                            have G9 := G8.set_ (14 + k) (.slice A8 (k2 + 1) c8)
                            rw [← HCS.out, List.setIfInBounds_toArray, scc_set (by omega), List.set_set] at G9
                            have s2 := kg.size
                            have kg2 := kg.below kb5 (by have := kb5.size; omega) (fun x e _ => by have e' : zk ≤ x := e; omega)
                            refine ⟨_, rfl, ?_, G9, ?_, ?_, ?_, ?_⟩
                            · exact (kg.blk A5 (by show ¬ zk ≤ a; omega)).far (p := ⟨a + 1, 14 + k, none⟩) (by show a ≠ a + 1; omega) _
                            · exact k4.own own8 (fun k' h e => by have := own_ge own8 k' h; have e' : k' = a + 1 := e; omega)
                            · exact ((P5.keeps (kg.mono (S' := fun b => b ≤ a + 1 ∨ zk ≤ b) (fun b e _ => .inr e))).keeps (k4.mono (S' := fun b => b ≤ a + 1 ∨ zk ≤ b) (fun b e _ => .inl (by have e' : b = a + 1 := e; omega))))
                            · exact bset kg2 (by show _ ≤ a + 1; omega) _
                            · exact Nat.le_trans (by omega) k4.size
                          rw [hV]
                          have own10 : V.ownsRow zk 63 7 (.slice A8 (k2 + 1) c8) (k2 + 1) ((xs ++ [xc]).flatMap cvc) := by rw [HF.out]; exact own9
                          clear hV own8 hg8 G8 f8 v8 z8 own5 own9 A5 B5 D6 P5 kb5 hck hqz HLT
                          have hj35 : (j : Int) ≤ 900000 := by have := hj.out; omega
                          go_wp2_with fail
                          go_roundg g2
                          case measure => omega
                          case rel => exact ⟨k2 + 1, j + 35, xs ++ [xc], A8, c8, by omega, by go_num, by go_num, A9, B9, own10, P9, kb9, by have := HJL.out; show j + 35 ≤ n; omega, z9, HPP1⟩
                    · obtain rfl : k2 = m' := by omega
                      obtain rfl : gr = 0 := by omega
                      have t9 : decide (k2 < k2) = false := decide_eq_false (by omega)
                      have hpg : pProg (l.drop i) = .ok (xs, l.drop j) := by rw [hpp.out]; simp [pCalls, pre]
                      have HP1 : Hid (pScript l = pEnd c0 (pProgs g (k + 1) (ps.set k xs) (l.drop j))) := by rw [Hid, hp.out, pProgs_ok hpg]
                      have HOW := Lib.hid own
                      have HP5 := Lib.hid hP
                      clear hp hpp hpg own hP
                      go_wp2_with fail
                      go_roundg g
                      case measure => omega
                      case rel =>
                        refine ⟨k + 1, j, _, _, by omega, rfl, by go_num, A2, B2, (HP5.out.weak (S' := fun b => b ≤ a + 1) (fun b h => .inl h)).setP (Sl.of_own cvc_len (by decide) HOW.out) (fun ad e h => by have := own_gt HOW.out ad e; have h' : ad.block ≤ a + 1 := h; omega), kb2, hj, HP1, fun j' h1 h2 => ?_⟩
                        rw [List.getElem?_set_ne (by omega)]
                        exact hnl8.out j' (by omega) h2
            · obtain rfl : k = m := by omega
              obtain rfl : gk = 0 := by omega
              have t9 : decide (k < k) = false := decide_eq_false (by omega)
              have HP2 : Hid (pScript l = pEnd2 c0 ps (pEnts c0 [] (l.drop i))) := hp.out
              obtain ⟨q1, hq1⟩ : ∃ q1, wr.heap.size = q1 := ⟨_, rfl⟩
              have h8 := hP.u8
              have P5 := hP.or hP.old
              rw [hq1] at P5
              have HQ1 := Lib.hid hq1
              have hqq1 : a + 1 < q1 := by omega
              have HB2 := Lib.hid B2
              have HA2 := Lib.hid A2
              clear hp hP hq1 A2 B2 hnl8
              obtain ⟨i2, E3⟩ := elem_en
              have hin := hi.out
              go_wp2_with fail
              go_loopg [6] (n - i) (fun gk s6 wr => ∃ (j : Nat) (es : List En) (EA : Option Addr) (ec : Nat), j + gk = n ∧ s6 = .int .i64 j ∧ Blk wr a 29 #[.int .i64 0, .int .i64 0, .int .i64 0, .int .i64 0, .int .i64 0, .int .i64 0, .int .i64 0, .int .i64 0, .int .i64 0, .int .i64 0, .int .i64 0, .int .i64 0, .int .i64 0, .int .i64 0, .slice none 0 0, .slice none 0 0, .slice none 0 0, .slice none 0 0, .slice none 0 0, .slice none 0 0, .slice none 0 0, .slice none 0 0, .slice none 0 0] ∧ Blk wr (a + 1) 29 (scc c0 us (.slice EA es.length ec)).toArray ∧ wr.ownsRow q1 51 2 (.slice EA es.length ec) es.length (es.flatMap enc_) ∧ PIn (fun b => b ≤ a + 1 ∨ q1 ≤ b) wr us ps ∧ Below w.heap.size w wr ∧ Hid (q1 ≤ wr.heap.size) ∧ Hid (pScript l = pEnd2 c0 ps (pEnts c0 es (l.drop j))) ∧ Hid (es.length ≤ 60000))
              case atStart => exact ⟨i, [], none, 0, by omega, rfl, HA2.out, HB2.out, World.ownsRow_nil _ _ _ _, P5, kb2, by rw [HQ1.out]; exact Nat.le_refl _, HP2, Nat.zero_le _⟩
              case round =>
                clear HA2 HB2 P5 kb2 HQ1 HP2 y1 z1 hi hin
                obtain ⟨j, es, EA, ec, hj, rfl, A2, B2, own, hP, kb2, hsz, hp, he60⟩ := hrel
                have y1 := (B2.cell 1).trans (x1 _ _)
                have y22 := (B2.cell 22).trans ((List.getElem?_toArray ..).trans (scc_last h8))
                have z1 := B2.lt
                by_cases hjn : j < n
                · obtain ⟨g, rfl⟩ : ∃ g, gk = g + 1 := ⟨gk - 1, by omega⟩
                  have i0 : (0 : Int) ≤ (j : Int) := by omega
                  have i1 : (j : Int) < (n : Int) := by omega
                  have i3 : (j : Int) ≤ 900000 := by omega
                  obtain ⟨yb, xb0, xb1⟩ := (HS.out.below kb2).byte HB.out (i := j) (by omega)
                  obtain ⟨x, hx⟩ : ∃ x, bt l j = x := ⟨_, rfl⟩
                  have hd : l.drop j = x :: l.drop (j + 1) := by rw [← hx]; exact drop_bt (by omega)
                  rw [hx] at yb xb0 xb1
                  obtain ⟨en, hen⟩ : ∃ en, es.length = en := ⟨_, rfl⟩
                  have HB2 := Lib.hid B2
                  rw [hen] at own HB2 y22
                  have HEN := Lib.hid hen
                  have HOW := Lib.hid own
                  have hr8 : x.tmod 8 = x % 8 := Int.tmod_eq_emod_of_nonneg xb0
                  have hq8 : x.tdiv 8 = x / 8 := Int.tdiv_eq_ediv_of_nonneg xb0
                  clear own B2 hx
                  by_cases h60 : en = 60000
                  · have HE : Hid (pScript l = .error 5) := by rw [Hid, hp.out, hd, pEnts, if_pos (by rw [hen, h60]; omega)]; rfl
                    have t60 : ((en : Int) == 60000) = true := by simp [h60]
                    have t60' : (en == 60000) = true := by simp [h60]
                    clear hd hp hen h60
                    go_upto_region 32 with (fail)
                    have tok9 : True := trivial
                    go_wp2_with (first | (have _t := tok9; refine wpList_store_row (o := ⟨none, .store 29 (.tmp 2) (.tmp 153), _, _, _, _⟩) rfl 29 (.tmp 2) (.tmp 153) rfl a _ rfl rfl 29 _ A2 (by kernel_rfl) rfl (by simp [Value.oneCell']) ?_; clear tok9 _t))
                    have kr := keeps_row wr a #[.int .i64 0, .int .i64 0, .int .i64 0, .int .i64 0, .int .i64 0, .int .i64 0, .int .i64 0, .int .i64 0, .int .i64 0, .int .i64 0, .int .i64 0, .int .i64 0, .int .i64 0, .int .i64 0, .slice none 0 0, .slice none 0 0, .slice none 0 0, .slice none 0 0, .slice none 0 0, .slice none 0 0, .slice none 0 0, .slice none 0 0, .slice none 0 0]
                    have HX : RTakeR w (pScript l) (.returned (.tuple #[.agg #[.int .i64 0, .int .i64 0, .int .i64 0, .int .i64 0, .int .i64 0, .int .i64 0, .int .i64 0, .int .i64 0, .int .i64 0, .int .i64 0, .int .i64 0, .int .i64 0, .int .i64 0, .int .i64 0, .slice none 0 0, .slice none 0 0, .slice none 0 0, .slice none 0 0, .slice none 0 0, .slice none 0 0, .slice none 0 0, .slice none 0 0, .slice none 0 0], .int .i64 5])) (wr.setRow a #[.int .i64 0, .int .i64 0, .int .i64 0, .int .i64 0, .int .i64 0, .int .i64 0, .int .i64 0, .int .i64 0, .int .i64 0, .int .i64 0, .int .i64 0, .int .i64 0, .int .i64 0, .int .i64 0, .slice none 0 0, .slice none 0 0, .slice none 0 0, .slice none 0 0, .slice none 0 0, .slice none 0 0, .slice none 0 0, .slice none 0 0, .slice none 0 0]) := by
                      rw [HE.out]
                      exact ⟨kr.below kb2 (by have := (kb2).size; omega) (fun x e _ => by omega), rfl⟩
                    exact bodyPost_ret (v := .tuple #[.agg #[.int .i64 0, .int .i64 0, .int .i64 0, .int .i64 0, .int .i64 0, .int .i64 0, .int .i64 0, .int .i64 0, .int .i64 0, .int .i64 0, .int .i64 0, .int .i64 0, .int .i64 0, .int .i64 0, .slice none 0 0, .slice none 0 0, .slice none 0 0, .slice none 0 0, .slice none 0 0, .slice none 0 0, .slice none 0 0, .slice none 0 0, .slice none 0 0], .int .i64 5]) (results_ct (p1 := 2) (p2 := 3) (a := a) Tryd.results19 rfl rfl ((A2).row _) (by kernel_rfl)) rfl HX
                  · have t60 : ((en : Int) == 60000) = false := by simp; omega
                    have t60' : (en == 60000) = false := by simp [h60]
                    have h60n : ¬ 60000 ≤ es.length := by have := he60.out; omega
                    by_cases h31 : 31 < x
                    · have HE : Hid (pScript l = .error 3) := by
                        have ho : okE c0 x = false := by
                          rw [okE, Bool.and_eq_false_iff]
                          exact .inr (decide_eq_false (by omega))
                        rw [Hid, hp.out, hd, pEnts, if_neg h60n, if_neg (by rw [ho]; decide)]; rfl
                      clear hd hp hen h60 h60n
                      go_upto_region 35 with (fail)
                      have tok9 : True := trivial
                      go_wp2_with (first | (have _t := tok9; refine wpList_store_row (o := ⟨none, .store 29 (.tmp 2) (.tmp 169), _, _, _, _⟩) rfl 29 (.tmp 2) (.tmp 169) rfl a _ rfl rfl 29 _ A2 (by kernel_rfl) rfl (by simp [Value.oneCell']) ?_; clear tok9 _t))
                      have kr := keeps_row wr a #[.int .i64 0, .int .i64 0, .int .i64 0, .int .i64 0, .int .i64 0, .int .i64 0, .int .i64 0, .int .i64 0, .int .i64 0, .int .i64 0, .int .i64 0, .int .i64 0, .int .i64 0, .int .i64 0, .slice none 0 0, .slice none 0 0, .slice none 0 0, .slice none 0 0, .slice none 0 0, .slice none 0 0, .slice none 0 0, .slice none 0 0, .slice none 0 0]
                      have HX : RTakeR w (pScript l) (.returned (.tuple #[.agg #[.int .i64 0, .int .i64 0, .int .i64 0, .int .i64 0, .int .i64 0, .int .i64 0, .int .i64 0, .int .i64 0, .int .i64 0, .int .i64 0, .int .i64 0, .int .i64 0, .int .i64 0, .int .i64 0, .slice none 0 0, .slice none 0 0, .slice none 0 0, .slice none 0 0, .slice none 0 0, .slice none 0 0, .slice none 0 0, .slice none 0 0, .slice none 0 0], .int .i64 3])) (wr.setRow a #[.int .i64 0, .int .i64 0, .int .i64 0, .int .i64 0, .int .i64 0, .int .i64 0, .int .i64 0, .int .i64 0, .int .i64 0, .int .i64 0, .int .i64 0, .int .i64 0, .int .i64 0, .int .i64 0, .slice none 0 0, .slice none 0 0, .slice none 0 0, .slice none 0 0, .slice none 0 0, .slice none 0 0, .slice none 0 0, .slice none 0 0, .slice none 0 0]) := by
                        rw [HE.out]
                        exact ⟨kr.below kb2 (by have := (kb2).size; omega) (fun x e _ => by omega), rfl⟩
                      exact bodyPost_ret (v := .tuple #[.agg #[.int .i64 0, .int .i64 0, .int .i64 0, .int .i64 0, .int .i64 0, .int .i64 0, .int .i64 0, .int .i64 0, .int .i64 0, .int .i64 0, .int .i64 0, .int .i64 0, .int .i64 0, .int .i64 0, .slice none 0 0, .slice none 0 0, .slice none 0 0, .slice none 0 0, .slice none 0 0, .slice none 0 0, .slice none 0 0, .slice none 0 0, .slice none 0 0], .int .i64 3]) (results_ct (p1 := 2) (p2 := 3) (a := a) Tryd.results19 rfl rfl ((A2).row _) (by kernel_rfl)) rfl HX
                    · have t31 : decide (31 < x) = false := decide_eq_false h31
                      by_cases hth : (k : Int) ≤ x % 8
                      · have HE : Hid (pScript l = .error 3) := by
                          have ho : okE c0 x = false := by
                            rw [okE, Bool.and_eq_false_iff]
                            exact .inl (decide_eq_false (by rw [HTH.out]; omega))
                          rw [Hid, hp.out, hd, pEnts, if_neg h60n, if_neg (by rw [ho]; decide)]; rfl
                        clear hd hp hen h60 h60n h31
                        go_upto_region 35 with (fail)
                        have tok9 : True := trivial
                        go_wp2_with (first | (have _t := tok9; refine wpList_store_row (o := ⟨none, .store 29 (.tmp 2) (.tmp 169), _, _, _, _⟩) rfl 29 (.tmp 2) (.tmp 169) rfl a _ rfl rfl 29 _ A2 (by kernel_rfl) rfl (by simp [Value.oneCell']) ?_; clear tok9 _t))
                        have kr := keeps_row wr a #[.int .i64 0, .int .i64 0, .int .i64 0, .int .i64 0, .int .i64 0, .int .i64 0, .int .i64 0, .int .i64 0, .int .i64 0, .int .i64 0, .int .i64 0, .int .i64 0, .int .i64 0, .int .i64 0, .slice none 0 0, .slice none 0 0, .slice none 0 0, .slice none 0 0, .slice none 0 0, .slice none 0 0, .slice none 0 0, .slice none 0 0, .slice none 0 0]
                        have HX : RTakeR w (pScript l) (.returned (.tuple #[.agg #[.int .i64 0, .int .i64 0, .int .i64 0, .int .i64 0, .int .i64 0, .int .i64 0, .int .i64 0, .int .i64 0, .int .i64 0, .int .i64 0, .int .i64 0, .int .i64 0, .int .i64 0, .int .i64 0, .slice none 0 0, .slice none 0 0, .slice none 0 0, .slice none 0 0, .slice none 0 0, .slice none 0 0, .slice none 0 0, .slice none 0 0, .slice none 0 0], .int .i64 3])) (wr.setRow a #[.int .i64 0, .int .i64 0, .int .i64 0, .int .i64 0, .int .i64 0, .int .i64 0, .int .i64 0, .int .i64 0, .int .i64 0, .int .i64 0, .int .i64 0, .int .i64 0, .int .i64 0, .int .i64 0, .slice none 0 0, .slice none 0 0, .slice none 0 0, .slice none 0 0, .slice none 0 0, .slice none 0 0, .slice none 0 0, .slice none 0 0, .slice none 0 0]) := by
                          rw [HE.out]
                          exact ⟨kr.below kb2 (by have := (kb2).size; omega) (fun x e _ => by omega), rfl⟩
                        exact bodyPost_ret (v := .tuple #[.agg #[.int .i64 0, .int .i64 0, .int .i64 0, .int .i64 0, .int .i64 0, .int .i64 0, .int .i64 0, .int .i64 0, .int .i64 0, .int .i64 0, .int .i64 0, .int .i64 0, .int .i64 0, .int .i64 0, .slice none 0 0, .slice none 0 0, .slice none 0 0, .slice none 0 0, .slice none 0 0, .slice none 0 0, .slice none 0 0, .slice none 0 0, .slice none 0 0], .int .i64 3]) (results_ct (p1 := 2) (p2 := 3) (a := a) Tryd.results19 rfl rfl ((A2).row _) (by kernel_rfl)) rfl HX
                      · have tth : decide ((k : Int) ≤ x % 8) = false := decide_eq_false hth
                        have HP1 : Hid (pScript l = pEnd2 c0 ps (pEnts c0 (es ++ [entX x]) (l.drop (j + 1)))) := by
                          have ho : okE c0 x = true := by
                            rw [okE, Bool.and_eq_true]
                            exact ⟨decide_eq_true (by rw [HTH.out]; omega), decide_eq_true (by omega)⟩
                          rw [Hid, hp.out, hd, pEnts, if_neg h60n, if_pos ho]
                        have hx4 : x / 8 % 4 = x / 8 := by omega
                        have H61 : Hid ((es ++ [entX x]).length ≤ 60000) := by rw [Hid, List.length_append]; simp only [List.length_cons, List.length_nil]; omega
                        have HLE : Hid ((es ++ [entX x]).length = en + 1) := by rw [Hid, List.length_append, hen]; rfl
                        have HFM : Hid ((es ++ [entX x]).flatMap enc_ = es.flatMap enc_ ++ [.int .i64 (x % 8), .int .i64 (x / 8)]) := by rw [Hid, List.flatMap_append, ← hx4]; rfl
                        have hen6 : en < 60000 := by have := he60.out; omega
                        have hq1s : q1 ≤ wr.heap.size := hsz.out
                        clear hd hp hen h60 h60n h31 hx4 he60
                        go_upto_region 36 with (fail)
                        have tok1 : True := trivial
                        go_upto_region 37 with (have _t := tok1; at_builtin; refine wpList_app (o := ⟨some 178, _, _, _, _, _⟩) (ys := [.int .i64 (x % 8), .int .i64 (x / 8)]) (m := 1) E3 rfl (.tmp 171) (.tmp 177) rfl q1 rfl (HOW.out.alloc _ :) rfl rfl (Rd.new _ _ _ rfl) (by simp [Value.oneCell']) (by unfold maxLen; omega) (by omega) (by simp; omega) ?_; intro A8 c8 w8 own8 hg8 hz8; have G8 := (HB2.out.alloc (.cells #[.int .i64 (x % 8), .int .i64 (x / 8)] 51)).grown hg8 (fun q1 => own_ne_blk HOW.out HB2.out (by decide) q1.symm); have f8 := G8.frozen 22; have v8 := (G8.cell 22).trans ((List.getElem?_toArray ..).trans (scc_last h8)); have z8 := G8.lt; clear tok1 _t)
                        obtain ⟨V, hV, A9, B9, own9, P9, kb9, z9⟩ : ∃ V, w8.setCell ⟨a + 1, 22, none⟩ (.slice A8 (en + 1) c8) = V ∧ Blk V a 29 #[.int .i64 0, .int .i64 0, .int .i64 0, .int .i64 0, .int .i64 0, .int .i64 0, .int .i64 0, .int .i64 0, .int .i64 0, .int .i64 0, .int .i64 0, .int .i64 0, .int .i64 0, .int .i64 0, .slice none 0 0, .slice none 0 0, .slice none 0 0, .slice none 0 0, .slice none 0 0, .slice none 0 0, .slice none 0 0, .slice none 0 0, .slice none 0 0] ∧ Blk V (a + 1) 29 (scc c0 us (.slice A8 (en + 1) c8)).toArray ∧ V.ownsRow q1 51 2 (.slice A8 (en + 1) c8) (en + 1) (es.flatMap enc_ ++ [.int .i64 (x % 8), .int .i64 (x / 8)]) ∧ PIn (fun b => b ≤ a + 1 ∨ q1 ≤ b) V us ps ∧ Below w.heap.size w V ∧ q1 ≤ V.heap.size := by
                          have kg : Keeps (fun b => q1 ≤ b) wr w8 := ((Keeps.refl (fun b => q1 ≤ b) wr).alloc (.cells #[.int .i64 (x % 8), .int .i64 (x / 8)] 51)).grown hg8 (fun k' h _ => own_ge HOW.out k' h)
                          have k4 := (Keeps.refl (fun b => b = a + 1) w8).setCell (p := ⟨a + 1, 22, none⟩) (fun _ => rfl) (.slice A8 (en + 1) c8)
                          have G9 := G8.set_ 22 (.slice A8 (en + 1) c8)
                          rw [List.setIfInBounds_toArray, scc_setl h8] at G9
                          have s2 := kg.size
                          have kg2 := kg.below kb2 (by have := kb2.size; omega) (fun x e _ => by have e' : q1 ≤ x := e; omega)
                          refine ⟨_, rfl, ?_, G9, ?_, ?_, ?_, ?_⟩
                          · exact (kg.blk A2 (by show ¬ q1 ≤ a; omega)).far (p := ⟨a + 1, 22, none⟩) (by show a ≠ a + 1; omega) _
                          · exact k4.own own8 (fun k' h e => by have := own_ge own8 k' h; have e' : k' = a + 1 := e; omega)
                          · exact ((hP.keeps (kg.mono (S' := fun b => b ≤ a + 1 ∨ q1 ≤ b) (fun b e _ => .inr e))).keeps (k4.mono (S' := fun b => b ≤ a + 1 ∨ q1 ≤ b) (fun b e _ => .inl (by have e' : b = a + 1 := e; omega))))
                          · exact bset kg2 (by show _ ≤ a + 1; omega) _
                          · exact Nat.le_trans (by omega) k4.size
                        rw [hV]
                        have own10 : V.ownsRow q1 51 2 (.slice A8 (en + 1) c8) (en + 1) ((es ++ [entX x]).flatMap enc_) := by rw [HFM.out]; exact own9
                        clear hV own8 hg8 hz8 G8 f8 v8 z8 own9 HOW HB2 A2 hP kb2 y1 y22
                        go_wp2_with fail
                        go_roundg g
                        case measure => omega
                        case rel =>
                          refine ⟨j + 1, es ++ [entX x], A8, c8, by omega, by go_num, A9, ?_, ?_, P9, kb9, z9, HP1, H61⟩
                          · rw [HLE.out]; exact B9
                          · rw [HLE.out]; exact own10
                · obtain rfl : j = n := by omega
                  have t9 : decide (j < j) = false := decide_eq_false (by omega)
                  have HE : Hid (pScript l = .ok ⟨c0, ps, es⟩) := by rw [Hid, hp.out, List.drop_eq_nil_of_le (by omega), pEnts]; rfl
                  have hi23 := info_scc (c := c0) (us := us) (ev := .slice EA es.length ec) h8
                  obtain ⟨en, hen⟩ : ∃ en, es.length = en := ⟨_, rfl⟩
                  have hold : (#[.int .i64 0, .int .i64 0, .int .i64 0, .int .i64 0, .int .i64 0, .int .i64 0, .int .i64 0, .int .i64 0, .int .i64 0, .int .i64 0, .int .i64 0, .int .i64 0, .int .i64 0, .int .i64 0, .slice none 0 0, .slice none 0 0, .slice none 0 0, .slice none 0 0, .slice none 0 0, .slice none 0 0, .slice none 0 0, .slice none 0 0, .slice none 0 0] : Array Value).size = (scc c0 us (.slice EA en ec)).toArray.size := by show 23 = _; rw [List.size_toArray, scc_len h8]
                  have hone := scc_one (c := c0) hP EA en ec
                  rw [hen] at B2 hi23 own
                  have HEN := Lib.hid hen
                  obtain ⟨cs, hcs⟩ : ∃ cs, scc c0 us (.slice EA en ec) = cs := ⟨_, rfl⟩
                  rw [hcs] at B2 hi23 hold hone
                  have HCS := Lib.hid hcs
                  have HOW := Lib.hid own
                  clear hcs hen hp own y1 y22 hjn
                  have tok1 : True := trivial
                  have tok2 : True := trivial
                  go_wp2_with (first | (have _t := tok1; refine wpList_load_row (o := ⟨some 182, _, _, _, _, _⟩) rfl 29 (.tmp 4) rfl (a + 1) rfl 29 _ _ _ B2 Tryd.underlying29 rfl hi23 ?_; clear tok1 _t) | (have _t := tok2; refine wpList_store_row (o := ⟨none, .store 29 (.tmp 2) (.tmp 182), _, _, _, _⟩) rfl 29 (.tmp 2) (.tmp 182) rfl a _ rfl rfl 29 _ A2 hi23 hold hone ?_; clear tok2 _t))
                  have kr := keeps_row wr a cs.toArray
                  have HX : RTakeR w (.ok ⟨c0, ps, es⟩) (.returned (.tuple #[.agg cs.toArray, .int .i64 0])) (wr.setRow a cs.toArray) := by
                    refine ⟨kr.below kb2 (by have := kb2.size; omega) (fun x e _ => by omega), us, EA, ec, ?_, ?_, ?_⟩
                    · show _ = Ending.returned (.tuple #[.agg (scc c0 us (.slice EA es.length ec)).toArray, .int .i64 0])
                      rw [HEN.out, HCS.out]
                    · exact ((hP.weak (S' := fun b => b ≤ a + 1) (fun b h => .inl h)).keeps (kr.mono (S' := fun b => b ≤ a + 1) (fun b e _ => by have e' : b = a := e; show b ≤ a + 1; omega))).weak (fun b h => by have h' : b < w.heap.size := h; show b ≤ a + 1; omega)
                    · show Sl enc_ _ EA es.length ec es
                      rw [HEN.out]
                      exact kr.sl (Sl.of_own enc__len (by decide) HOW.out) (fun ad e h => by have := own_gt HOW.out ad e; have h' : ad.block = a := h; omega)
                  rw [← HE.out] at HX
                  exact bodyPost_ret (v := .tuple #[.agg cs.toArray, .int .i64 0]) (results_ct (p1 := 2) (p2 := 3) (a := a) Tryd.results19 rfl rfl (A2.row _) hi23) rfl HX
end Go.Proofs.YtknngjdcbldmgaaDoor
