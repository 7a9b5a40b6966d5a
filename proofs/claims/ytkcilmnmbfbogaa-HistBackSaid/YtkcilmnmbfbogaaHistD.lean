/- Histories: the iterator over the events, and what it hands to each round. -/
import Derived.Test.YtkcilmnmbfbogaaHistB
import Derived.Test.YtkcilmnmbfbogaaTurns
import Derived.OwnWalkIn
import Derived.WalkKit
import Derived.Shelf.Abstract
import Derived.Shelf.RegionOpen
import Derived.TacticsInMore
namespace Go.Proofs.Ytkcilmnmbfbogaa
set_option linter.unusedVariables false
set_option linter.unusedSimpArgs false
open Go.RowKit

attribute [local go_sem] Oper.semAt_some
/-- What round k is handed. -/
def encE (l : List Ev) (k : Nat) : Array Value := match l[k]? with
  | some e => #[.agg (evc e).toArray, .bool (okE (l.take k) e)]
  | none => #[.bool false, .bool false]
theorem encE_size (l : List Ev) (k : Nat) : (encE l k).size = 2 := by unfold encE; split <;> rfl
theorem encE_some {l : List Ev} {k : Nat} {e : Ev} (h : l[k]? = some e) : encE l k = #[.agg (evc e).toArray, .bool (okE (l.take k) e)] := by unfold encE; rw [h]
theorem okUp_snoc {l : List Ev} {k : Nat} {e : Ev} (h : okUp l k) (he : l[k]? = some e) (hk : okE (l.take k) e = true) : okUp l (k + 1) := fun i e' hi he' => by
  by_cases hik : i < k
  · exact h i e' hik he'
  · obtain rfl : i = k := by omega
    rw [he] at he'
    cases he'
    exact hk
/-- In a fence: a load of a whole block. -/
theorem wpListIn_load_row {F : Fence} {n : Nat} {P : Program} {ops : Array Oper} {Q : Exit → Act → World → Prop} {rest : List Oper} {o : Oper} {a : Act} {w : World} (hgd : o.guard = none) (ty : TypeId) (x : Operand) (ho : o.op = .load ty x)
    (g : Nat) (hx : a.eval x = .pointer (some ⟨g, 0, none⟩)) (t : TypeId) (cs : Array Value) (d : TypeDesc) (hg : Blk w g t cs)
    (hu : P.underlying ty = some d) (hd : (match d with | .struct _ | .array _ _ => true | _ => false) = true) (hi : (P.info? ty).map (·.size) = some cs.size)
    (h : wpListIn F n P ops Q rest (a.put o.dst (.agg cs)) w) : wpListIn F n P ops Q (o :: rest) a w := by
  refine wpListIn_plain hgd fun K hK => ?_
  unfold Oper.wpIn
  refine ⟨by simp [Oper.about, ho], ?_⟩
  rw [Oper.semAt_plain F _ _ (by rw [ho]; intro c hc'; cases hc')]
  simp only [execOp, ho, hx, Instr.loadAt, Instr.sureAddr, Sem.run_bind, Sem.run_pure, Result.andThen_ok, run_loadVar_row w g t ty cs (0, 0) d hg hu hd hi]
  exact hK _ _ h
def endsAt (l : List Ev) (n k : Nat) : Prop := k = n ∨ ∃ j e, k = j + 1 ∧ l[j]? = some e ∧ okE (l.take j) e = false
theorem info_E (e : Ev) : (Try.prog.info? 45).map (·.size) = some (evc e).toArray.size := by rw [List.size_toArray, evc_len]; kernel_rfl

set_option maxHeartbeats 4000000 in
set_option maxRecDepth 100000 in
theorem turns_rounds {w : World} {A : Option Addr} {n c : Nat} {l : List Ev} {bx : Nat} {Z : Nat → Prop} (h : Sl evc w A n c l) (hn : n ≤ 1000000) (hbx : Blk w bx 22 #[.slice A n c]) (hZb : ¬ Z bx) (hZA : 0 < n → ∀ ad, A = some ad → ¬ Z ad.block) (hZ : ∀ b, Z b → b < w.heap.size) (m : Nat) :
    Rounds Fence.wide m Try.prog 22 #[.pointer (some ⟨bx, 0, none⟩)] (encE l) Z (endsAt l n) n w := by
  intro L J Jx W hb hsz hJ hJx hY h0
  have hlen := h.len
  have hbw : 0 < n → ∀ ad, A = some ad → ad.block < w.heap.size := fun h0 => h.rd.lt (by intro e; have := congrArg List.length e; rw [flat_len evc_len] at this; simp at this; omega)
  have hbxw := hbx.lt
  have hbx := hbx.below_ hb
  have h := h.below hb
  refine callsIn_wide.2 ?_
  show Calls _ _ #[.func (.yield L) #[] #[], .pointer (some ⟨bx, 0, none⟩)] _ _
  go_enter Try.func22, Try.ntmps22
  go_upto_region 1 with (fail)
  obtain ⟨W0, hW0, hB, h0', hJ0, hx0, kb⟩ : ∃ W0, W.alloc (.cells #[.bool false, .bool false, .bool false, .bool false, .bool false, .bool false, .bool false, .bool false] 51) = W0 ∧ Blk W0 W.heap.size 51 (wl (l.take 0)).toArray ∧ Sl evc W0 A n c l ∧ J 0 W0 ∧ W0.cell? ⟨bx, 0, none⟩ = some (.slice A n c) ∧ Below W.heap.size W W0 := ⟨_, rfl, Blk.new _ _ _, h.alloc _, hJ 0 _ _ h0 (bnew (brefl W) _), (hbx.alloc _).cell 0, bnew (brefl W) _⟩
  rw [hW0]
  clear hW0 h hbx
  go_wp2_with fail
  clear hx0
  go_loopg [9] n (fun gk i wr => ∃ k : Nat, k + gk = n ∧ i = .int .i64 k ∧ Blk wr W.heap.size 51 (wl (l.take k)).toArray ∧ Hid (okUp l k) ∧ J k wr ∧ Sl evc wr A n c l)
  case atStart => exact ⟨0, by omega, rfl, hB, fun i e hi _ => by omega, hJ0, h0'⟩
  case round =>
    clear hB h0' kb hJ0 h0
    obtain ⟨k, hk, rfl, hB, hok, hjw, hs⟩ := hrel
    by_cases hlt : k < n
    · obtain ⟨b, o', rfl, _, hc⟩ := hs.base evc_len (by decide) (by omega)
      have hAb : b < w.heap.size := hbw (by omega) _ rfl
      have hAZ : ¬ Z b := hZA (by omega) _ rfl
      obtain ⟨e, he⟩ : ∃ e, l[k]? = some e := ⟨l[k]'(by omega), List.getElem?_eq_getElem (i := k) _⟩
      have hrg : wr.rangeAt b (o' + k * 15) [.int .i64 e.th, .bool e.bk, .int .i64 e.c.op, .int .i64 e.c.lv, .int .i64 e.c.key, .int .u64 e.c.a, .int .u64 e.c.b, .int .u64 e.c.h, .int .i64 e.c.rg, .int .i64 e.a.er, .int .u64 e.a.ra, .int .u64 e.a.rb, .int .u64 e.a.rh, .int .i64 e.a.n, .int .i64 e.a.k] := range_sl evc_len hs he
      have b0 : (0 : Int) ≤ (k : Int) := by omega
      have b1 : (k : Int) < (n : Int) := by omega
      have HS : Hid (l.take (k + 1) = l.take k ++ [e]) := by rw [Hid, List.take_add_one, he]; rfl
      have HE := Lib.hid he
      clear hc he hbw
      go_upto_region 4 with (refine wpList_load_mid (op := ⟨some 12, _, _, _, _, _⟩) rfl 45 (.tmp 11) rfl b (o' + k * 15) rfl [.int .i64 e.th, .bool e.bk, .int .i64 e.c.op, .int .i64 e.c.lv, .int .i64 e.c.key, .int .u64 e.c.a, .int .u64 e.c.b, .int .u64 e.c.h, .int .i64 e.c.rg, .int .i64 e.a.er, .int .u64 e.a.ra, .int .u64 e.a.rb, .int .u64 e.a.rh, .int .i64 e.a.n, .int .i64 e.a.k] _ hrg Try.underlying45 rfl (by kernel_rfl) ?_)
      obtain ⟨W1, hW1, hB1, hE1, hs1, hj1⟩ : ∃ W1, wr.alloc (.cells #[.int .i64 e.th, .bool e.bk, .int .i64 e.c.op, .int .i64 e.c.lv, .int .i64 e.c.key, .int .u64 e.c.a, .int .u64 e.c.b, .int .u64 e.c.h, .int .i64 e.c.rg, .int .i64 e.a.er, .int .u64 e.a.ra, .int .u64 e.a.rb, .int .u64 e.a.rh, .int .i64 e.a.n, .int .i64 e.a.k] 45) = W1 ∧ Blk W1 W.heap.size 51 (wl (l.take k)).toArray ∧ Blk W1 wr.heap.size 45 (evc e).toArray ∧ Sl evc W1 (some ⟨b, o', none⟩) n c l ∧ J k W1 := ⟨_, rfl, hB.alloc _, Blk.new _ _ _, hs.alloc _, hJ k _ _ hjw ((brefl wr).mono (Nat.le_of_lt hB.lt) |>.alloc (Nat.le_of_lt hB.lt) _)⟩
      rw [hW1]
      have hBw := hB.lt
      clear hW1 hB hs hrg hjw
      have hle : wr.heap.size ≠ W.heap.size := by omega
      generalize wr.heap.size = q at *
      have d0 : W1.cell? ⟨q, 0, none⟩ = some (.int .i64 e.th) := hE1.cell 0
      have d1 : W1.cell? ⟨q, 1, none⟩ = some (.bool e.bk) := hE1.cell 1
      have hzE := hE1.lt
      have hzB := hB1.lt
      have hiE := info_E e
      have hright : ∀ w : World, Calls Try.prog 23 #[.agg (evc e).toArray] w fun r w' => r = .returned (.bool (rightE e)) ∧ Below w.heap.size w w' := right_any e
      have henc := encE_some HE.out
      have HOE : Hid (okE (l.take k) e = (rightE e && (wi (l.take k) e.th == e.bk))) := rfl
      by_cases hr : rightE e = true
      · rw [hr, Bool.true_and] at HOE
        rw [hr] at hright
        have hth : 0 ≤ e.th ∧ e.th ≤ 7 := by
          unfold rightE at hr
          rw [Bool.and_eq_true] at hr
          exact of_decide_eq_true hr.1
        obtain ⟨j, hj⟩ : ∃ j : Nat, e.th = (j : Int) := ⟨e.th.toNat, by omega⟩
        have hj8 : j < 8 := by omega
        have cj : W1.cell? ⟨W.heap.size, j, none⟩ = some (.bool (wi (l.take k) (j : Int))) := (hB1.cell j).trans (by rw [List.getElem?_toArray]; exact wl_get _ hj8)
        have bj0 : (0 : Int) ≤ (j : Int) := by omega
        have bj1 : (j : Int) < 8 := by omega
        have HJ := Lib.hid hj
        rw [hj] at d0
        have HBN : Hid (∀ w : World, Blk w W.heap.size 51 (wl (l.take k)).toArray → Blk (w.setCell ⟨W.heap.size, j, none⟩ (.bool (!e.bk))) W.heap.size 51 (wl (l.take (k + 1))).toArray) := fun w hw => by
          rw [HS.out, ← wl_snoc _ e hj8 HJ.out]
          exact hw.set_ _ _
        clear hr hth hj
        rw [HJ.out] at HOE
        generalize hQ : wi (l.take k) (j : Int) = Qv at *
        clear hQ
        generalize hBK : e.bk = B at *
        clear hBK
        generalize (evc e).toArray = cs at *
        cases Qv <;> cases B
        · have hok1 : okE (l.take k) e = true := HOE.out
          rw [hok1] at henc
          have HOK := Lib.hid (okUp_snoc hok.out HE.out hok1)
          clear hok1 hok HOE
          have hX := @Ext.cell W1
          have hzz0 := block_lt_of_cell d0
          have hzz1 := block_lt_of_cell cj
          refine wp_region_noPanic ?_
          refine wp_region_plan (fun w' => ∃ x : Ext W1, w' = x.w) [([0], 1)] [2, 3, 4, 5, 6, 7, 8, 9, 10, 11] (by kernel_rfl) (by kernel_rfl) (by kernel_rfl) (fun _ _ _ _ _ h => h) ⟨⟨_, (brefl W1).drew⟩, rfl⟩ ?_
          refine wpPlan_cons ?_
          simp only [pickOps, List.getElem?_cons_succ, List.getElem?_cons_zero, Option.elim_some]
          refine wpQuiet_load_row rfl 45 (.tmp 5) rfl q rfl 45 _ _ (blk_ext hE1) Try.underlying45 rfl hiE ?_
          refine wpQuiet_nil ?_
          refine planAct_some (fun K hK => ?_)
          go_simp
          refine (hright _).mono ?_
          rintro e1 wa ⟨rfl, hba⟩
          go_wp2_with fail
          refine hK.out _ _ ⟨⟨_, (bnext (brefl W1).drew hba)⟩, rfl⟩ ?_
          clear hK K
          refine wpPlan_last ?_
          simp only [pickOps, List.getElem?_cons_succ, List.getElem?_cons_zero, Option.elim_some]
          repeat (go_big_quiet_step (fail))
          refine wpQuiet_nil ?_
          refine NoPanic.normal ?_
          clear hX hzz0 hzz1
          replace hba := bnext (brefl W1).drew hba
          have hja := hJ k _ _ hj1 (hba.mono (Nat.le_of_lt hzB))
          have hBa := hB1.below_ hba
          have hEa := hE1.below_ hba
          have hsa := hs1.below hba
          have c0 := keep_below d0 hba
          have c1 := keep_below d1 hba
          have hbk := block_lt_of_cell c0
          obtain ⟨fn, tmps, assign, body, hy, hR⟩ := hY k wa hlt hja
          rw [henc] at hy
          clear hB1 hE1 hs1 hj1 d0 d1 hright hba hzE hzB cj
          go_upto_region 5 with (fail)
          refine (wpIn_wide (n := m)).1 ?_
          gi_wp2_with (refine wpListIn_load_row rfl 45 (.tmp 5) rfl q rfl 45 _ _ hEa Try.underlying45 rfl hiE ?_)
          refine ⟨fun h => (by cases h), ?_⟩
          refine hR.mono ?_
          clear hR hy
          have nq : ∀ x, W.heap.size ≤ x → ¬ (Z x ∨ w.heap.size ≤ x ∧ x < w.heap.size + 2) := fun x hx h => by rcases h with h | h; exact absurd (hZ x h) (by omega); omega
          rintro e' W' (⟨rfl, hJ', hk'⟩ | ⟨rfl, hJx'⟩)
          · have hb' := hk'.blk hBa (nq _ (Nat.le_refl _))
            have hs' := hk'.sl hsa (fun ad hA => by cases hA; dsimp only; intro h; rcases h with h | h; exact hAZ h; omega)
            have e0 := hk'.cell c0 (nq q (by omega))
            have e1 := hk'.cell c1 (nq q (by omega))
            have ej := hb'.frozen j
            obtain ⟨vj, cj⟩ : ∃ v, W'.cell? ⟨W.heap.size, j, none⟩ = some (.bool v) := ⟨_, (hb'.cell j).trans (by rw [List.getElem?_toArray]; exact wl_get _ hj8)⟩
            have eb := hb'.lt
            have HB2 := HBN.out _ hb'
            have HJ2 := hJ _ _ _ hJ' ((Below.refl W.heap.size W').setCell (p := ⟨W.heap.size, j, none⟩) (Nat.le_refl _) (.bool (!false)))
            have HS2 := hs'.setCell (p := ⟨W.heap.size, j, none⟩) (fun ad hA => by cases hA; dsimp only; omega) (.bool (!false))
            simp only [Bool.not_true, Bool.not_false] at HB2 HJ2 HS2
            clear hb' hs' hk' hBa hEa hsa hja c0 c1 HBN hJ hY hJx nq
            gi_wp2
            go_wp2
            go_roundg (gk - 1)
            case measure => omega
            case rel => exact ⟨k + 1, by omega, by go_num, HB2, HOK.out, HJ2, HS2⟩
          · clear hBa hEa hsa hja c0 c1 HBN hJ hY hJx nq
            gi_wp2
            go_wp2
            refine bodyPost_ret (results_none rfl _ _ _) rfl ?_
            first | exact .inr hJx' | exact ⟨⟨_, rfl⟩, .inr hJx'⟩
        · have hok1 : okE (l.take k) e = false := HOE.out
          rw [hok1] at henc
          have HOK := Lib.hid hok1
          clear hok1 hok HOE
          have hX := @Ext.cell W1
          have hzz0 := block_lt_of_cell d0
          have hzz1 := block_lt_of_cell cj
          refine wp_region_noPanic ?_
          refine wp_region_plan (fun w' => ∃ x : Ext W1, w' = x.w) [([0], 1)] [2, 3, 4, 5, 6, 7, 8, 9, 10, 11] (by kernel_rfl) (by kernel_rfl) (by kernel_rfl) (fun _ _ _ _ _ h => h) ⟨⟨_, (brefl W1).drew⟩, rfl⟩ ?_
          refine wpPlan_cons ?_
          simp only [pickOps, List.getElem?_cons_succ, List.getElem?_cons_zero, Option.elim_some]
          refine wpQuiet_load_row rfl 45 (.tmp 5) rfl q rfl 45 _ _ (blk_ext hE1) Try.underlying45 rfl hiE ?_
          refine wpQuiet_nil ?_
          refine planAct_some (fun K hK => ?_)
          go_simp
          refine (hright _).mono ?_
          rintro e1 wa ⟨rfl, hba⟩
          go_wp2_with fail
          refine hK.out _ _ ⟨⟨_, (bnext (brefl W1).drew hba)⟩, rfl⟩ ?_
          clear hK K
          refine wpPlan_last ?_
          simp only [pickOps, List.getElem?_cons_succ, List.getElem?_cons_zero, Option.elim_some]
          repeat (go_big_quiet_step (fail))
          refine wpQuiet_nil ?_
          refine NoPanic.normal ?_
          clear hX hzz0 hzz1
          replace hba := bnext (brefl W1).drew hba
          have hja := hJ k _ _ hj1 (hba.mono (Nat.le_of_lt hzB))
          have hBa := hB1.below_ hba
          have hEa := hE1.below_ hba
          have hsa := hs1.below hba
          have c0 := keep_below d0 hba
          have c1 := keep_below d1 hba
          have hbk := block_lt_of_cell c0
          obtain ⟨fn, tmps, assign, body, hy, hR⟩ := hY k wa hlt hja
          rw [henc] at hy
          clear hB1 hE1 hs1 hj1 d0 d1 hright hba hzE hzB cj
          go_upto_region 5 with (fail)
          refine (wpIn_wide (n := m)).1 ?_
          gi_wp2_with (refine wpListIn_load_row rfl 45 (.tmp 5) rfl q rfl 45 _ _ hEa Try.underlying45 rfl hiE ?_)
          refine ⟨fun h => (by cases h), ?_⟩
          refine hR.mono ?_
          clear hR hy
          have nq : ∀ x, W.heap.size ≤ x → ¬ (Z x ∨ w.heap.size ≤ x ∧ x < w.heap.size + 2) := fun x hx h => by rcases h with h | h; exact absurd (hZ x h) (by omega); omega
          rintro e' W' (⟨rfl, hJ', hk'⟩ | ⟨rfl, hJx'⟩)
          · clear hBa hEa hsa hja c0 c1 HBN hJ hY hJx nq
            gi_wp2
            go_wp2
            refine bodyPost_ret (results_none rfl _ _ _) rfl ?_
            have HH : (∃ k, endsAt l n k ∧ J k W') ∨ Jx W' := .inl ⟨k + 1, .inr ⟨k, e, rfl, HE.out, HOK.out⟩, hJ'⟩
            first | exact HH | exact ⟨⟨_, rfl⟩, HH⟩
          · clear hBa hEa hsa hja c0 c1 HBN hJ hY hJx nq
            gi_wp2
            go_wp2
            refine bodyPost_ret (results_none rfl _ _ _) rfl ?_
            first | exact .inr hJx' | exact ⟨⟨_, rfl⟩, .inr hJx'⟩
        · have hok1 : okE (l.take k) e = false := HOE.out
          rw [hok1] at henc
          have HOK := Lib.hid hok1
          clear hok1 hok HOE
          have hX := @Ext.cell W1
          have hzz0 := block_lt_of_cell d0
          have hzz1 := block_lt_of_cell cj
          refine wp_region_noPanic ?_
          refine wp_region_plan (fun w' => ∃ x : Ext W1, w' = x.w) [([0], 1)] [2, 3, 4, 5, 6, 7, 8, 9, 10, 11] (by kernel_rfl) (by kernel_rfl) (by kernel_rfl) (fun _ _ _ _ _ h => h) ⟨⟨_, (brefl W1).drew⟩, rfl⟩ ?_
          refine wpPlan_cons ?_
          simp only [pickOps, List.getElem?_cons_succ, List.getElem?_cons_zero, Option.elim_some]
          refine wpQuiet_load_row rfl 45 (.tmp 5) rfl q rfl 45 _ _ (blk_ext hE1) Try.underlying45 rfl hiE ?_
          refine wpQuiet_nil ?_
          refine planAct_some (fun K hK => ?_)
          go_simp
          refine (hright _).mono ?_
          rintro e1 wa ⟨rfl, hba⟩
          go_wp2_with fail
          refine hK.out _ _ ⟨⟨_, (bnext (brefl W1).drew hba)⟩, rfl⟩ ?_
          clear hK K
          refine wpPlan_last ?_
          simp only [pickOps, List.getElem?_cons_succ, List.getElem?_cons_zero, Option.elim_some]
          repeat (go_big_quiet_step (fail))
          refine wpQuiet_nil ?_
          refine NoPanic.normal ?_
          clear hX hzz0 hzz1
          replace hba := bnext (brefl W1).drew hba
          have hja := hJ k _ _ hj1 (hba.mono (Nat.le_of_lt hzB))
          have hBa := hB1.below_ hba
          have hEa := hE1.below_ hba
          have hsa := hs1.below hba
          have c0 := keep_below d0 hba
          have c1 := keep_below d1 hba
          have hbk := block_lt_of_cell c0
          obtain ⟨fn, tmps, assign, body, hy, hR⟩ := hY k wa hlt hja
          rw [henc] at hy
          clear hB1 hE1 hs1 hj1 d0 d1 hright hba hzE hzB cj
          go_upto_region 5 with (fail)
          refine (wpIn_wide (n := m)).1 ?_
          gi_wp2_with (refine wpListIn_load_row rfl 45 (.tmp 5) rfl q rfl 45 _ _ hEa Try.underlying45 rfl hiE ?_)
          refine ⟨fun h => (by cases h), ?_⟩
          refine hR.mono ?_
          clear hR hy
          have nq : ∀ x, W.heap.size ≤ x → ¬ (Z x ∨ w.heap.size ≤ x ∧ x < w.heap.size + 2) := fun x hx h => by rcases h with h | h; exact absurd (hZ x h) (by omega); omega
          rintro e' W' (⟨rfl, hJ', hk'⟩ | ⟨rfl, hJx'⟩)
          · clear hBa hEa hsa hja c0 c1 HBN hJ hY hJx nq
            gi_wp2
            go_wp2
            refine bodyPost_ret (results_none rfl _ _ _) rfl ?_
            have HH : (∃ k, endsAt l n k ∧ J k W') ∨ Jx W' := .inl ⟨k + 1, .inr ⟨k, e, rfl, HE.out, HOK.out⟩, hJ'⟩
            first | exact HH | exact ⟨⟨_, rfl⟩, HH⟩
          · clear hBa hEa hsa hja c0 c1 HBN hJ hY hJx nq
            gi_wp2
            go_wp2
            refine bodyPost_ret (results_none rfl _ _ _) rfl ?_
            first | exact .inr hJx' | exact ⟨⟨_, rfl⟩, .inr hJx'⟩
        · have hok1 : okE (l.take k) e = true := HOE.out
          rw [hok1] at henc
          have HOK := Lib.hid (okUp_snoc hok.out HE.out hok1)
          clear hok1 hok HOE
          have hX := @Ext.cell W1
          have hzz0 := block_lt_of_cell d0
          have hzz1 := block_lt_of_cell cj
          refine wp_region_noPanic ?_
          refine wp_region_plan (fun w' => ∃ x : Ext W1, w' = x.w) [([0], 1)] [2, 3, 4, 5, 6, 7, 8, 9, 10, 11] (by kernel_rfl) (by kernel_rfl) (by kernel_rfl) (fun _ _ _ _ _ h => h) ⟨⟨_, (brefl W1).drew⟩, rfl⟩ ?_
          refine wpPlan_cons ?_
          simp only [pickOps, List.getElem?_cons_succ, List.getElem?_cons_zero, Option.elim_some]
          refine wpQuiet_load_row rfl 45 (.tmp 5) rfl q rfl 45 _ _ (blk_ext hE1) Try.underlying45 rfl hiE ?_
          refine wpQuiet_nil ?_
          refine planAct_some (fun K hK => ?_)
          go_simp
          refine (hright _).mono ?_
          rintro e1 wa ⟨rfl, hba⟩
          go_wp2_with fail
          refine hK.out _ _ ⟨⟨_, (bnext (brefl W1).drew hba)⟩, rfl⟩ ?_
          clear hK K
          refine wpPlan_last ?_
          simp only [pickOps, List.getElem?_cons_succ, List.getElem?_cons_zero, Option.elim_some]
          repeat (go_big_quiet_step (fail))
          refine wpQuiet_nil ?_
          refine NoPanic.normal ?_
          clear hX hzz0 hzz1
          replace hba := bnext (brefl W1).drew hba
          have hja := hJ k _ _ hj1 (hba.mono (Nat.le_of_lt hzB))
          have hBa := hB1.below_ hba
          have hEa := hE1.below_ hba
          have hsa := hs1.below hba
          have c0 := keep_below d0 hba
          have c1 := keep_below d1 hba
          have hbk := block_lt_of_cell c0
          obtain ⟨fn, tmps, assign, body, hy, hR⟩ := hY k wa hlt hja
          rw [henc] at hy
          clear hB1 hE1 hs1 hj1 d0 d1 hright hba hzE hzB cj
          go_upto_region 5 with (fail)
          refine (wpIn_wide (n := m)).1 ?_
          gi_wp2_with (refine wpListIn_load_row rfl 45 (.tmp 5) rfl q rfl 45 _ _ hEa Try.underlying45 rfl hiE ?_)
          refine ⟨fun h => (by cases h), ?_⟩
          refine hR.mono ?_
          clear hR hy
          have nq : ∀ x, W.heap.size ≤ x → ¬ (Z x ∨ w.heap.size ≤ x ∧ x < w.heap.size + 2) := fun x hx h => by rcases h with h | h; exact absurd (hZ x h) (by omega); omega
          rintro e' W' (⟨rfl, hJ', hk'⟩ | ⟨rfl, hJx'⟩)
          · have hb' := hk'.blk hBa (nq _ (Nat.le_refl _))
            have hs' := hk'.sl hsa (fun ad hA => by cases hA; dsimp only; intro h; rcases h with h | h; exact hAZ h; omega)
            have e0 := hk'.cell c0 (nq q (by omega))
            have e1 := hk'.cell c1 (nq q (by omega))
            have ej := hb'.frozen j
            obtain ⟨vj, cj⟩ : ∃ v, W'.cell? ⟨W.heap.size, j, none⟩ = some (.bool v) := ⟨_, (hb'.cell j).trans (by rw [List.getElem?_toArray]; exact wl_get _ hj8)⟩
            have eb := hb'.lt
            have HB2 := HBN.out _ hb'
            have HJ2 := hJ _ _ _ hJ' ((Below.refl W.heap.size W').setCell (p := ⟨W.heap.size, j, none⟩) (Nat.le_refl _) (.bool (!true)))
            have HS2 := hs'.setCell (p := ⟨W.heap.size, j, none⟩) (fun ad hA => by cases hA; dsimp only; omega) (.bool (!true))
            simp only [Bool.not_true, Bool.not_false] at HB2 HJ2 HS2
            clear hb' hs' hk' hBa hEa hsa hja c0 c1 HBN hJ hY hJx nq
            gi_wp2
            go_wp2
            go_roundg (gk - 1)
            case measure => omega
            case rel => exact ⟨k + 1, by omega, by go_num, HB2, HOK.out, HJ2, HS2⟩
          · clear hBa hEa hsa hja c0 c1 HBN hJ hY hJx nq
            gi_wp2
            go_wp2
            refine bodyPost_ret (results_none rfl _ _ _) rfl ?_
            first | exact .inr hJx' | exact ⟨⟨_, rfl⟩, .inr hJx'⟩
      · have hr' : rightE e = false := by simpa using hr
        rw [hr'] at hright HOE
        have hok1 : okE (l.take k) e = false := HOE.out
        rw [hok1] at henc
        have HOK := Lib.hid hok1
        clear hok1 hok HOE hr hr'
        generalize (evc e).toArray = cs at *
        generalize e.th = th at *
        generalize e.bk = B at *
        have hX := @Ext.cell W1
        have hzz0 := block_lt_of_cell d0
        refine wp_region_noPanic ?_
        refine wp_region_plan (fun w' => ∃ x : Ext W1, w' = x.w) [([0], 1)] [2, 3, 4, 5, 6, 7, 8, 9, 10, 11] (by kernel_rfl) (by kernel_rfl) (by kernel_rfl) (fun _ _ _ _ _ h => h) ⟨⟨_, (brefl W1).drew⟩, rfl⟩ ?_
        refine wpPlan_cons ?_
        simp only [pickOps, List.getElem?_cons_succ, List.getElem?_cons_zero, Option.elim_some]
        refine wpQuiet_load_row rfl 45 (.tmp 5) rfl q rfl 45 _ _ (blk_ext hE1) Try.underlying45 rfl hiE ?_
        refine wpQuiet_nil ?_
        refine planAct_some (fun K hK => ?_)
        go_simp
        refine (hright _).mono ?_
        rintro e1 wa ⟨rfl, hba⟩
        go_wp2_with fail
        refine hK.out _ _ ⟨⟨_, (bnext (brefl W1).drew hba)⟩, rfl⟩ ?_
        clear hK K
        refine wpPlan_last ?_
        simp only [pickOps, List.getElem?_cons_succ, List.getElem?_cons_zero, Option.elim_some]
        repeat (go_big_quiet_step (fail))
        refine wpQuiet_nil ?_
        refine NoPanic.normal ?_
        clear hX hzz0
        replace hba := bnext (brefl W1).drew hba
        have hja := hJ k _ _ hj1 (hba.mono (Nat.le_of_lt hzB))
        have hBa := hB1.below_ hba
        have hEa := hE1.below_ hba
        have hsa := hs1.below hba
        obtain ⟨fn, tmps, assign, body, hy, hR⟩ := hY k wa hlt hja
        rw [henc] at hy
        clear hB1 hE1 hs1 hj1 d0 d1 hright hba hzE hzB
        go_upto_region 5 with (fail)
        refine (wpIn_wide (n := m)).1 ?_
        gi_wp2_with (refine wpListIn_load_row rfl 45 (.tmp 5) rfl q rfl 45 _ _ hEa Try.underlying45 rfl hiE ?_)
        refine ⟨fun h => (by cases h), ?_⟩
        refine hR.mono ?_
        clear hR hy
        have nq : ∀ x, W.heap.size ≤ x → ¬ (Z x ∨ w.heap.size ≤ x ∧ x < w.heap.size + 2) := fun x hx h => by rcases h with h | h; exact absurd (hZ x h) (by omega); omega
        rintro e' W' (⟨rfl, hJ', hk'⟩ | ⟨rfl, hJx'⟩)
        · clear hBa hEa hsa hja hJ hY hJx nq
          gi_wp2
          go_wp2
          refine bodyPost_ret (results_none rfl _ _ _) rfl ?_
          have HH : (∃ k, endsAt l n k ∧ J k W') ∨ Jx W' := .inl ⟨k + 1, .inr ⟨k, e, rfl, HE.out, HOK.out⟩, hJ'⟩
          first | exact HH | exact ⟨⟨_, rfl⟩, HH⟩
        · clear hBa hEa hsa hja hJ hY hJx nq
          gi_wp2
          go_wp2
          refine bodyPost_ret (results_none rfl _ _ _) rfl ?_
          first | exact .inr hJx' | exact ⟨⟨_, rfl⟩, .inr hJx'⟩
    · have hge : ¬ ((k : Int) < (n : Int)) := by omega
      have hke : k = n := by omega
      have HJn : Hid (J n wr) := by rw [← hke]; exact hjw
      clear hs hB hjw hok hbw hke
      go_wp2
      go_end0
      have HH : (∃ k, endsAt l n k ∧ J k wr) ∨ Jx wr := .inl ⟨n, .inl rfl, HJn.out⟩
      first | exact HH | exact ⟨⟨_, rfl⟩, HH⟩
end Go.Proofs.Ytkcilmnmbfbogaa
