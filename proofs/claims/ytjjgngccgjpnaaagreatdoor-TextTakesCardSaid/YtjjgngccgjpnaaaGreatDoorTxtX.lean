/- A call of a line's words, by the document. -/
import Derived.Test.YtjjgngccgjpnaaaGreatDoorTxtW
namespace Go.Proofs.YtjjgngccgjpnaaaGreatDoor
set_option linter.unusedVariables false
set_option linter.unusedSimpArgs false
open Go.RowKit

theorem opL_inj : ∀ i : Fin 13, ∀ j : Fin 13, opL.getD i.val ⟨#[]⟩ = opL.getD j.val ⟨#[]⟩ → i = j := by decide
theorem opG_none (s : ByteArray) : ∀ g k, (∀ j, k ≤ j → j < k + g → opL.getD j ⟨#[]⟩ ≠ s) → opG g k s = none
  | 0, _, _ => rfl
  | g + 1, k, h => by
    rw [opG, if_neg (h k (Nat.le_refl _) (by omega))]
    exact opG_none s g (k + 1) fun j h1 h2 => h j (by omega) (by omega)
theorem opG_some (s : ByteArray) (j : Nat) (hs : opL.getD j ⟨#[]⟩ = s) (hj : j < 13) : ∀ g k, k ≤ j → j < k + g → k + g ≤ 13 → opG g k s = some j
  | 0, k, h1, h2, _ => by omega
  | g + 1, k, h1, h2, h3 => by
    rw [opG]
    by_cases hq : opL.getD k ⟨#[]⟩ = s
    · rw [if_pos hq]
      have := opL_inj ⟨k, by omega⟩ ⟨j, hj⟩ (hq.trans hs.symm)
      have : k = j := congrArg Fin.val this
      rw [this]
    · rw [if_neg hq]
      exact opG_some s j hs hj g (k + 1) (by
        rcases Nat.lt_or_ge k j with q | q
        · exact q
        · obtain rfl : k = j := by omega
          exact absurd hs hq) (by omega) (by omega)
/-- What the search has found so far. -/
def opInv (k : Nat) (o : Int) (s : ByteArray) : Prop := (o = -1 ∧ ∀ j, j < k → opL.getD j ⟨#[]⟩ ≠ s) ∨ ∃ j : Nat, j < k ∧ o = (j : Int) ∧ opL.getD j ⟨#[]⟩ = s
theorem opInv_end {o : Int} {s : ByteArray} (h : opInv 13 o s) : (o = -1 ∧ opOf s = none) ∨ ∃ j : Nat, j < 13 ∧ o = (j : Int) ∧ opOf s = some j := by
  rcases h with ⟨h1, h2⟩ | ⟨j, h1, h2, h3⟩
  · exact .inl ⟨h1, opG_none s 13 0 fun j _ h => h2 j (by omega)⟩
  · exact .inr ⟨j, h1, h2, opG_some s j h3 h1 13 0 (by omega) (by omega) (by omega)⟩
/-- The thread and the call that a line's words name. -/
def rCall (ws : Wd) : Option (Int × CV) := if ws.length = 9 then (opOf (bstr (ws.getD 2 []))).bind fun op => (numsI [ws.getD 1 [], ws.getD 3 [], ws.getD 4 [], ws.getD 8 []]).bind fun ns => (refU (ws.getD 5 [])).bind fun a => (refU (ws.getD 6 [])).bind fun b => (refU (ws.getD 7 [])).bind fun h => some (ns.getD 0 0, ⟨(op : Int), ns.getD 1 0, ns.getD 2 0, (a : Int), (b : Int), (h : Int), ns.getD 3 0⟩) else none
/-- What the numbers of four words are. -/
def NumO (w : World) (nv : Value) (bn : Bool) (l : Wd) : Prop := match numsI l with
  | none => bn = false
  | some ns => bn = true ∧ ∃ g d, nv = .slice (some ⟨g, 0, none⟩) 4 d ∧ 4 ≤ d ∧ ns.length = 4 ∧ ∀ (k : Nat) (v : Int), ns[k]? = some v → w.cell? ⟨g, k, none⟩ = some (.int .i64 v)
def RCallR (w : World) (ws : Wd) (e : Ending) (w' : World) : Prop := Below w.heap.size w w' ∧ match rCall ws with
  | none => e = .returned (.tuple #[.int .i64 0, .agg #[.int .i64 0, .int .i64 0, .int .i64 0, .int .u64 0, .int .u64 0, .int .u64 0, .int .i64 0], .bool false])
  | some x => e = .returned (.tuple #[.int .i64 x.1, .agg (cvc x.2).toArray, .bool true])
theorem results_call {fn : Func} {p q1 q2 : Tmp} {tmps : Array Value} {w : World} {a : Nat} {cs : Array Value} {x y : Value} (h : fn.results = #[.tmp q1, .cell p 51, .tmp q2]) (h1 : tmps.getD p undef = .pointer (some ⟨a, 0, none⟩)) (h2 : tmps.getD q1 undef = x) (h3 : tmps.getD q2 undef = y) (ha : Blk w a 51 cs) (hs : (Tryz.prog.info? 51).map (·.size) = some cs.size) : (results fn tmps).run Tryz.prog w = .ok (.tuple #[x, .agg cs, y]) w := by
  have h1' : tmps[p]?.getD undef = .pointer (some ⟨a, 0, none⟩) := by simpa using h1
  have h2' : tmps[q1]?.getD undef = x := by simpa using h2
  have h3' : tmps[q2]?.getD undef = y := by simpa using h3
  have hl := run_loadVar_row w a 51 51 cs (0, 0) _ ha Tryz.underlying51 rfl hs
  simp [results, h, h1', h2', h3', asAddr, hl]
theorem act_store_row {P : Program} {ops : Array Oper} {w : World} {o : Oper} {a : Act} {K : Act → World → Prop} {Q : Exit → Act → World → Prop} {L : Prop} (hgd : o.guard = none) (ty : TypeId) (x y : Operand) (ho : o.op = .store ty x y)
    (g : Nat) (cells : Array Value) (hx : a.eval x = .pointer (some ⟨g, 0, none⟩)) (hy : a.eval y = .agg cells) (t : TypeId) (old : Array Value) (hg : Blk w g t old) (hi : (P.info? ty).map (·.size) = some cells.size)
    (hold : old.size = cells.size) (h1 : cells.all (·.oneCell') = true) (h : K (a.put o.dst undef) (w.setRow g cells)) : if Region.wanted o (yielded ops a.tmps) = true then Oper.wp P o a w K Q else L := by
  rw [if_pos (by simp [Region.wanted, hgd])]
  exact wp_store_row ty x y ho g cells hx hy t old hg hi hold h1 h
set_option maxHeartbeats 4000000 in
set_option maxRecDepth 100000 in
theorem rcallw_any {w : World} {A : Option Addr} {n c : Nat} {ws : Wd} (h : Sl strc w A n c ws) (hl : ∀ x, x ∈ ws → x.length ≤ 1000000) : Calls Tryz.prog 69 #[.slice A n c] w (RCallR w ws) := by
  obtain ⟨a, ha⟩ : ∃ a, w.heap.size = a := ⟨_, rfl⟩
  have hlen := Lib.hid h.len
  have HS := Lib.hid h
  have HLW := Lib.hid hl
  clear h hl
  go_enter Tryz.func69, Tryz.ntmps69
  go_upto_region 1 with (fail)
  obtain ⟨W0, hW0, A0, k0⟩ : ∃ W0, w.alloc (.cells #[.int .i64 0, .int .i64 0, .int .i64 0, .int .u64 0, .int .u64 0, .int .u64 0, .int .i64 0] 51) = W0 ∧ Blk W0 a 51 #[.int .i64 0, .int .i64 0, .int .i64 0, .int .u64 0, .int .u64 0, .int .u64 0, .int .i64 0] ∧ Below w.heap.size w W0 := by
    have h1 := Blk.new w 51 #[.int .i64 0, .int .i64 0, .int .i64 0, .int .u64 0, .int .u64 0, .int .u64 0, .int .i64 0]
    rw [ha] at h1
    exact ⟨_, rfl, h1, bnew (brefl w) _⟩
  rw [hW0]
  clear hW0
  have HA := Lib.hid A0
  clear A0
  by_cases h9 : n = 9
  · subst h9
    have HE0 : Hid (rCall ws = (opOf (bstr (ws.getD 2 []))).bind fun op => (numsI [ws.getD 1 [], ws.getD 3 [], ws.getD 4 [], ws.getD 8 []]).bind fun ns => (refU (ws.getD 5 [])).bind fun a => (refU (ws.getD 6 [])).bind fun b => (refU (ws.getD 7 [])).bind fun h => some (ns.getD 0 0, ⟨(op : Int), ns.getD 1 0, ns.getD 2 0, (a : Int), (b : Int), (h : Int), ns.getD 3 0⟩)) := by rw [Hid, rCall, if_pos hlen.out]
    obtain ⟨b, o', rfl, hbb, hcc⟩ := HS.out.base strc_len (by decide) (by omega)
    have hx : ∀ i : Nat, i < 9 → ws[i]? = some (ws.getD i []) := fun i hi => by
      rw [List.getD_eq_getElem?_getD, List.getElem?_eq_getElem (by rw [hlen.out]; exact hi)]
      rfl
    have HLX : Hid (∀ i : Nat, i < 9 → (ws.getD i []).length ≤ 1000000) := fun i hi => HLW.out _ (List.mem_of_getElem? (hx i hi))
    have HCX : Hid (∀ i : Nat, i < 9 → W0.cell? ⟨b, o' + i, none⟩ = some (.string (bstr (ws.getD i [])))) := fun i hi => keep_below (by
      have := hcc i _ 0 _ (hx i hi) rfl
      rwa [Nat.mul_one, Nat.add_zero] at this) k0
    clear hcc hx
    obtain ⟨x1, hx1⟩ : ∃ x, ws.getD 1 [] = x := ⟨_, rfl⟩
    obtain ⟨x2, hx2⟩ : ∃ x, ws.getD 2 [] = x := ⟨_, rfl⟩
    obtain ⟨x3, hx3⟩ : ∃ x, ws.getD 3 [] = x := ⟨_, rfl⟩
    obtain ⟨x4, hx4⟩ : ∃ x, ws.getD 4 [] = x := ⟨_, rfl⟩
    obtain ⟨x5, hx5⟩ : ∃ x, ws.getD 5 [] = x := ⟨_, rfl⟩
    obtain ⟨x6, hx6⟩ : ∃ x, ws.getD 6 [] = x := ⟨_, rfl⟩
    obtain ⟨x7, hx7⟩ : ∃ x, ws.getD 7 [] = x := ⟨_, rfl⟩
    obtain ⟨x8, hx8⟩ : ∃ x, ws.getD 8 [] = x := ⟨_, rfl⟩
    have c1 := HCX.out 1 (by omega)
    rw [hx1] at c1
    have c2 := HCX.out 2 (by omega)
    rw [hx2] at c2
    have c3 := HCX.out 3 (by omega)
    rw [hx3] at c3
    have c4 := HCX.out 4 (by omega)
    rw [hx4] at c4
    have c5 := HCX.out 5 (by omega)
    rw [hx5] at c5
    have c6 := HCX.out 6 (by omega)
    rw [hx6] at c6
    have c7 := HCX.out 7 (by omega)
    rw [hx7] at c7
    have c8 := HCX.out 8 (by omega)
    rw [hx8] at c8
    have HL1 : Hid (x1.length ≤ 1000000) := hx1 ▸ HLX.out 1 (by omega)
    have HL2 : Hid (x2.length ≤ 1000000) := hx2 ▸ HLX.out 2 (by omega)
    have HL3 : Hid (x3.length ≤ 1000000) := hx3 ▸ HLX.out 3 (by omega)
    have HL4 : Hid (x4.length ≤ 1000000) := hx4 ▸ HLX.out 4 (by omega)
    have HL5 : Hid (x5.length ≤ 1000000) := hx5 ▸ HLX.out 5 (by omega)
    have HL6 : Hid (x6.length ≤ 1000000) := hx6 ▸ HLX.out 6 (by omega)
    have HL7 : Hid (x7.length ≤ 1000000) := hx7 ▸ HLX.out 7 (by omega)
    have HL8 : Hid (x8.length ≤ 1000000) := hx8 ▸ HLX.out 8 (by omega)
    rw [hx1, hx2, hx3, hx4, hx5, hx6, hx7, hx8] at HE0
    clear hx1 hx2 hx3 hx4 hx5 hx6 hx7 hx8 HCX HLX
    obtain ⟨S1, hS1⟩ : ∃ S, bstr x1 = S := ⟨_, rfl⟩
    rw [hS1] at c1
    have HS1 := Lib.hid hS1
    obtain ⟨S2, hS2⟩ : ∃ S, bstr x2 = S := ⟨_, rfl⟩
    rw [hS2] at c2
    have HS2 := Lib.hid hS2
    obtain ⟨S3, hS3⟩ : ∃ S, bstr x3 = S := ⟨_, rfl⟩
    rw [hS3] at c3
    have HS3 := Lib.hid hS3
    obtain ⟨S4, hS4⟩ : ∃ S, bstr x4 = S := ⟨_, rfl⟩
    rw [hS4] at c4
    have HS4 := Lib.hid hS4
    obtain ⟨S5, hS5⟩ : ∃ S, bstr x5 = S := ⟨_, rfl⟩
    rw [hS5] at c5
    have HS5 := Lib.hid hS5
    obtain ⟨S6, hS6⟩ : ∃ S, bstr x6 = S := ⟨_, rfl⟩
    rw [hS6] at c6
    have HS6 := Lib.hid hS6
    obtain ⟨S7, hS7⟩ : ∃ S, bstr x7 = S := ⟨_, rfl⟩
    rw [hS7] at c7
    have HS7 := Lib.hid hS7
    obtain ⟨S8, hS8⟩ : ∃ S, bstr x8 = S := ⟨_, rfl⟩
    rw [hS8] at c8
    have HS8 := Lib.hid hS8
    rw [hS2] at HE0
    clear hS1 hS2 hS3 hS4 hS5 hS6 hS7 hS8
    go_upto_region 5 with (fail)
    go_loopg [5, 6] 13 (fun gk s5 s6 wr => ∃ (k : Nat) (o : Int), k + gk = 13 ∧ s6 = .int .i64 k ∧ s5 = .int .i64 o ∧ Hid (opInv k o S2) ∧ Below W0.heap.size W0 wr)
    case atStart => exact ⟨0, -1, rfl, rfl, rfl, .inl ⟨rfl, fun j hj => by omega⟩, brefl W0⟩
    case round =>
      obtain ⟨k, o, hk, rfl, rfl, hO, hbr⟩ := hrel
      by_cases hlt : k < 13
      · have i0 : (k : Int) < 13 := by omega
        have ck : IntKind.i64.wrap ((k : Int) + 1) = (k : Int) + 1 := IntWalk.i64_in _ (by omega)
        have d2 := keep_below c2 hbr
        have hw0 : wordS (k : Int) = opL.getD k ⟨#[]⟩ := by
          rw [wordS, if_pos ⟨by omega, by omega⟩, Int.toNat_natCast]
        have HW0 := Lib.hid (fun W => rword_any (w := W) (k : Int) ⟨by omega, by omega⟩)
        rw [hw0] at HW0
        by_cases hq : opL.getD k ⟨#[]⟩ = S2
        · rw [hq] at HW0
          have HWD : Hid (∀ W : World, Calls Tryz.prog 51 #[.int .i64 (k : Int)] W fun e w' => e = .returned (.string S2) ∧ Below W.heap.size W w') := HW0
          have hO2 : Hid (opInv (k + 1) (k : Int) S2) := .inr ⟨k, by omega, rfl, hq⟩
          have hss : (S2.toList == S2.toList) = true := beq_self_eq_true _
          clear hw0 HW0 hO hq
          go_upto_region 7 with (fail)
          have hX := @Ext.cell wr
          have hzz0 := block_lt_of_cell d2
          refine wp_region_noPanic ?_
          refine NC.wp_region_plan (fun w' => ∃ x : Ext wr, w' = x.w) [([0, 2, 3, 4], 1)] [5] (by kernel_rfl) (by kernel_rfl) (by kernel_rfl) (fun _ _ _ _ _ h => h) ⟨⟨_, (brefl wr).drew⟩, rfl⟩ ?_
          refine NC.wpPlan_cons ?_
          simp only [NC.pickOps, List.getElem?_cons_succ, List.getElem?_cons_zero, Option.elim_some]
          repeat (go_big_quiet_step (fail))
          refine wpQuiet_nil ?_
          refine NC.planAct_some (fun K hK => ?_)
          go_simp
          refine (HWD.out (wr.drew)).mono ?_
          rintro e w2 ⟨rfl, hb2⟩; have m1 := bnext (brefl wr).drew hb2
          go_wp2_with fail
          refine hK.out _ _ ⟨⟨_, m1⟩, rfl⟩ ?_
          clear hK K
          refine NC.wpPlan_last ?_
          simp only [NC.pickOps, List.getElem?_cons_succ, List.getElem?_cons_zero, Option.elim_some]
          repeat (go_big_quiet_step (fail))
          refine wpQuiet_nil ?_
          refine NoPanic.normal ?_
          clear hX hzz0
          go_wp2_with fail
          go_roundg (gk - 1)
          case measure => omega
          case rel => exact ⟨k + 1, (k : Int), by omega, by go_num, rfl, hO2, bnext hbr m1⟩
        · have hO2 : Hid (opInv (k + 1) o S2) := by
            rcases hO.out with ⟨h1, h2⟩ | ⟨j, h1, h2, h3⟩
            · refine .inl ⟨h1, fun j hj => ?_⟩
              rcases Nat.lt_or_ge j k with q | q
              · exact h2 j q
              · obtain rfl : j = k := by omega
                exact hq
            · exact .inr ⟨j, by omega, h2, h3⟩
          have tq := str_ne hq
          obtain ⟨D, hD⟩ : ∃ D, opL.getD k ⟨#[]⟩ = D := ⟨_, rfl⟩
          rw [hD] at HW0 tq
          have HWD : Hid (∀ W : World, Calls Tryz.prog 51 #[.int .i64 (k : Int)] W fun e w' => e = .returned (.string D) ∧ Below W.heap.size W w') := HW0
          clear hw0 HW0 hO hq hD
          go_upto_region 7 with (fail)
          have hX := @Ext.cell wr
          have hzz0 := block_lt_of_cell d2
          refine wp_region_noPanic ?_
          refine NC.wp_region_plan (fun w' => ∃ x : Ext wr, w' = x.w) [([0, 2, 3, 4], 1)] [5] (by kernel_rfl) (by kernel_rfl) (by kernel_rfl) (fun _ _ _ _ _ h => h) ⟨⟨_, (brefl wr).drew⟩, rfl⟩ ?_
          refine NC.wpPlan_cons ?_
          simp only [NC.pickOps, List.getElem?_cons_succ, List.getElem?_cons_zero, Option.elim_some]
          repeat (go_big_quiet_step (fail))
          refine wpQuiet_nil ?_
          refine NC.planAct_some (fun K hK => ?_)
          go_simp
          refine (HWD.out (wr.drew)).mono ?_
          rintro e w2 ⟨rfl, hb2⟩; have m1 := bnext (brefl wr).drew hb2
          go_wp2_with fail
          refine hK.out _ _ ⟨⟨_, m1⟩, rfl⟩ ?_
          clear hK K
          refine NC.wpPlan_last ?_
          simp only [NC.pickOps, List.getElem?_cons_succ, List.getElem?_cons_zero, Option.elim_some]
          repeat (go_big_quiet_step (fail))
          refine wpQuiet_nil ?_
          refine NoPanic.normal ?_
          clear hX hzz0
          go_wp2_with fail
          go_roundg (gk - 1)
          case measure => omega
          case rel => exact ⟨k + 1, o, by omega, by go_num, rfl, hO2, bnext hbr m1⟩
      · obtain rfl : k = 13 := by omega
        obtain rfl : gk = 0 := by omega
        have hO2 := Lib.hid (opInv_end hO.out)
        clear hO
        go_upto_region 9 with fail
        have HNB : Hid (∀ W : World, Blk W wr.heap.size 9 #[.string S1, .string S3, .string S4, .string S8] → Calls Tryz.prog 68 #[.slice (some ⟨wr.heap.size, 0, none⟩) 4 4] W fun e w' => Below W.heap.size W w' ∧ ∃ nv bn, e = .returned (.tuple #[nv, .bool bn]) ∧ NumO w' nv bn [x1, x3, x4, x8]) := fun W hB => by
          have hs : Sl strc W (some ⟨wr.heap.size, 0, none⟩) 4 4 [x1, x3, x4, x8] := ⟨rfl, Nat.le_refl _, by
            have := hB.rd
            rw [← HS1.out, ← HS3.out, ← HS4.out, ← HS8.out] at this
            exact this, fun q => by cases q⟩
          refine (rnumbers_any hs (by omega) (fun x hx => ?_)).mono fun e w' q => ?_
          · simp only [List.mem_cons, List.not_mem_nil, or_false] at hx
            rcases hx with rfl | rfl | rfl | rfl
            · exact HL1.out
            · exact HL3.out
            · exact HL4.out
            · exact HL8.out
          · refine ⟨q.1, ?_⟩
            have q2 := q.2
            unfold NumO
            cases hn : numsI [x1, x3, x4, x8] with
            | none =>
              rw [hn] at q2
              exact ⟨_, _, q2, rfl⟩
            | some ns =>
              rw [hn] at q2
              obtain ⟨A', d, he, own⟩ := q2
              have hl4 : ns.length = 4 := (numsI_some hn).1
              rw [hl4] at he own
              have hnd := (Sl.of_own ic_len (by decide) own).cap
              obtain ⟨g, rfl, hg1, hg2, hgf, hgc⟩ := own_form1 own (by omega)
              refine ⟨_, _, he, rfl, g, d, rfl, hnd, hl4, fun k v hk => hgc k _ ?_⟩
              have := flat_get ic_len ns k 0 v (.int .i64 v) hk rfl
              rwa [Nat.mul_one, Nat.add_zero] at this
        obtain ⟨va, hva⟩ : ∃ v : Nat, (refU x5).getD 0 = v := ⟨_, rfl⟩
        obtain ⟨vb, hvb⟩ : ∃ v : Nat, (refU x6).getD 0 = v := ⟨_, rfl⟩
        obtain ⟨vh, hvh⟩ : ∃ v : Nat, (refU x7).getD 0 = v := ⟨_, rfl⟩
        obtain ⟨ba, hba⟩ : ∃ v, (refU x5).isSome = v := ⟨_, rfl⟩
        obtain ⟨bb, hbb2⟩ : ∃ v, (refU x6).isSome = v := ⟨_, rfl⟩
        obtain ⟨bh, hbh⟩ : ∃ v, (refU x7).isSome = v := ⟨_, rfl⟩
        have HB5 : Hid (∀ W : World, Calls Tryz.prog 19 #[.string S5] W fun e w' => W = w' ∧ e = .returned (.tuple #[.int .u64 (va : Int), .bool ba])) := fun W => by
          have := rbits_any (w := W) (bstr x5) (by rw [bstr_size]; exact HL5.out)
          rw [HS5.out] at this
          rw [← hva, ← hba]
          rw [← HS5.out] at this ⊢
          exact this
        have HB6 : Hid (∀ W : World, Calls Tryz.prog 19 #[.string S6] W fun e w' => W = w' ∧ e = .returned (.tuple #[.int .u64 (vb : Int), .bool bb])) := fun W => by
          have := rbits_any (w := W) (bstr x6) (by rw [bstr_size]; exact HL6.out)
          rw [← hvb, ← hbb2, ← HS6.out]
          exact this
        have HB7 : Hid (∀ W : World, Calls Tryz.prog 19 #[.string S7] W fun e w' => W = w' ∧ e = .returned (.tuple #[.int .u64 (vh : Int), .bool bh])) := fun W => by
          have := rbits_any (w := W) (bstr x7) (by rw [bstr_size]; exact HL7.out)
          rw [← hvh, ← hbh, ← HS7.out]
          exact this
        have HVA : Hid (∀ u, refU x5 = some u → va = u) := fun u q => by rw [← hva, q]; rfl
        have HVB : Hid (∀ u, refU x6 = some u → vb = u) := fun u q => by rw [← hvb, q]; rfl
        have HVH : Hid (∀ u, refU x7 = some u → vh = u) := fun u q => by rw [← hvh, q]; rfl
        have HBA := Lib.hid hba
        have HBB := Lib.hid hbb2
        have HBH := Lib.hid hbh
        have d1 := keep_below c1 hbr
        have d3 := keep_below c3 hbr
        have d4 := keep_below c4 hbr
        have d8 := keep_below c8 hbr
        clear hva hvb hvh hba hbb2 hbh
        have hX := @Ext.cell wr
        have hzz0 := block_lt_of_cell d1
        have hzz1 := block_lt_of_cell d3
        refine wp_region_noPanic ?_
        refine NC.wp_region_plan (fun w' => ∃ x : Ext wr, w' = x.w) [([0, 1, 2, 3, 4, 5, 6, 7, 8, 9, 10, 11], 12), ([], 13)] [14, 15, 16, 17, 18] (by kernel_rfl) (by kernel_rfl) (by kernel_rfl) (fun _ _ _ _ _ h => h) ⟨⟨_, (brefl wr).drew⟩, rfl⟩ ?_
        refine NC.wpPlan_cons ?_
        simp only [NC.pickOps, List.getElem?_cons_succ, List.getElem?_cons_zero, Option.elim_some]
        repeat (go_big_quiet_step (fail))
        refine wpQuiet_nil ?_
        refine NC.planAct_some (fun K hK => ?_)
        go_simp
        refine hK.out _ _ ⟨⟨_, (by repeat (first | exact brefl _ | refine Below.drew ?_ | refine bnew ?_ _))⟩, rfl⟩ ?_
        clear hK K
        refine NC.wpPlan_cons ?_
        simp only [NC.pickOps, List.getElem?_cons_succ, List.getElem?_cons_zero, Option.elim_some]
        repeat (go_big_quiet_step (fail))
        refine wpQuiet_nil ?_
        refine NC.planAct_some (fun K hK => ?_)
        go_simp
        refine (HNB.out _ (by first | exact Blk.new wr _ _ | exact (Blk.new wr _ _).drew)).mono ?_
        rintro e w5 ⟨hb5, nv, bn, rfl, hno⟩; have m1 := bnext (by repeat (first | exact brefl _ | refine Below.drew ?_ | refine bnew ?_ _) : Below wr.heap.size wr _) hb5; have HNO := Lib.hid hno; clear hno
        go_wp2_with fail
        refine hK.out _ _ ⟨⟨_, m1⟩, rfl⟩ ?_
        clear hK K
        refine NC.wpPlan_last ?_
        simp only [NC.pickOps, List.getElem?_cons_succ, List.getElem?_cons_zero, Option.elim_some]
        repeat (go_big_quiet_step (fail))
        refine wpQuiet_nil ?_
        refine NoPanic.normal ?_
        clear hX hzz0 hzz1
        have e5 := keep_below c5 (bnext hbr m1)
        have e6 := keep_below c6 (bnext hbr m1)
        have e7 := keep_below c7 (bnext hbr m1)
        have k5 := bnext k0 (bnext hbr m1)
        have A5 := HA.out.below_ (bnext hbr m1)
        clear c1 c2 c3 c4 c5 c6 c7 c8 d1 d3 d4 d8
        have tok1 : True := trivial; have tok2 : True := trivial; have tok3 : True := trivial
        go_upto_region 13 with (first | (have _t := tok1; go_at_call 19; refine (HB5.out _).mono ?_; rintro e w6 ⟨rfl, rfl⟩; clear tok1 _t) | (have _t := tok2; go_at_call 19; refine (HB6.out _).mono ?_; rintro e w6 ⟨rfl, rfl⟩; clear tok2 _t) | (have _t := tok3; go_at_call 19; refine (HB7.out _).mono ?_; rintro e w6 ⟨rfl, rfl⟩; clear tok3 _t))
        clear e5 e6 e7
        have HBad : Hid ((o = -1 ∨ bn = false ∨ ba = false ∨ bb = false ∨ bh = false) → rCall ws = none) := fun q => by
          rw [HE0.out]
          rcases q with q | q | q | q | q
          · rcases hO2.out with ⟨_, h2⟩ | ⟨j, _, h1, _⟩
            · rw [h2]; rfl
            · omega
          · rcases hO2.out with ⟨_, h2⟩ | ⟨j, _, _, h2⟩
            · rw [h2]; rfl
            · rw [h2, Option.bind_some]
              have := HNO.out
              unfold NumO at this
              cases hn : numsI [x1, x3, x4, x8] with
              | none => rfl
              | some ns =>
                rw [hn] at this
                rw [q] at this
                exact absurd this.1 (by decide)
          all_goals
            rcases hO2.out with ⟨_, h2⟩ | ⟨j, _, _, h2⟩
            · rw [h2]; rfl
            · rw [h2, Option.bind_some]
              cases hn : numsI [x1, x3, x4, x8] with
              | none => rfl
              | some ns =>
                rw [Option.bind_some]
                cases h5 : refU x5 with
                | none => rfl
                | some u5 =>
                  rw [Option.bind_some]
                  cases h6 : refU x6 with
                  | none => rfl
                  | some u6 =>
                    rw [Option.bind_some]
                    cases h7 : refU x7 with
                    | none => rfl
                    | some u7 =>
                      have b5 := HBA.out
                      have b6 := HBB.out
                      have b7 := HBH.out
                      rw [h5] at b5
                      rw [h6] at b6
                      rw [h7] at b7
                      rw [q] at *
                      simp_all
        rcases hO2.out with ⟨ho, hop⟩ | ⟨j, hj, ho, hop⟩
        · have hE : Hid (rCall ws = none) := HBad.out (.inl ho)
          subst ho
          clear hop
          have tok1 : True := trivial
          go_wp2_with (have _t := tok1; refine wpList_store_row (o := ⟨none, .store 51 (.tmp 3) (.tmp 86), _, _, _, _⟩) rfl 51 (.tmp 3) (.tmp 86) rfl a _ rfl rfl 51 _ A5 (by kernel_rfl) (by simp) (by simp [Value.oneCell']) ?_; clear tok1 _t)
          exact bodyPost_ret (results_call Tryz.results69 rfl rfl rfl (A5.row _) (by kernel_rfl)) rfl (R := RCallR w ws) ⟨(keeps_row _ a _).below k5 (by have := A5.lt; omega) (fun x e _ => by have e' : x = a := e; omega), by rw [hE.out]; rfl⟩
        · subst ho
          have tj : decide ((j : Int) < 0) = false := decide_eq_false (by omega)
          have HOP := Lib.hid hop
          clear hop
          cases bn with
          | false =>
            have hE : Hid (rCall ws = none) := HBad.out (.inr (.inl rfl))
            have tok1 : True := trivial
            go_wp2_with (have _t := tok1; refine wpList_store_row (o := ⟨none, .store 51 (.tmp 3) (.tmp 86), _, _, _, _⟩) rfl 51 (.tmp 3) (.tmp 86) rfl a _ rfl rfl 51 _ A5 (by kernel_rfl) (by simp) (by simp [Value.oneCell']) ?_; clear tok1 _t)
            exact bodyPost_ret (results_call Tryz.results69 rfl rfl rfl (A5.row _) (by kernel_rfl)) rfl (R := RCallR w ws) ⟨(keeps_row _ a _).below k5 (by have := A5.lt; omega) (fun x e _ => by have e' : x = a := e; omega), by rw [hE.out]; rfl⟩
          | true =>
            cases ba with
            | false =>
              have hE : Hid (rCall ws = none) := HBad.out (.inr (.inr (.inl rfl)))
              have tok1 : True := trivial
              go_wp2_with (have _t := tok1; refine wpList_store_row (o := ⟨none, .store 51 (.tmp 3) (.tmp 86), _, _, _, _⟩) rfl 51 (.tmp 3) (.tmp 86) rfl a _ rfl rfl 51 _ A5 (by kernel_rfl) (by simp) (by simp [Value.oneCell']) ?_; clear tok1 _t)
              exact bodyPost_ret (results_call Tryz.results69 rfl rfl rfl (A5.row _) (by kernel_rfl)) rfl (R := RCallR w ws) ⟨(keeps_row _ a _).below k5 (by have := A5.lt; omega) (fun x e _ => by have e' : x = a := e; omega), by rw [hE.out]; rfl⟩
            | true =>
              cases bb with
              | false =>
                have hE : Hid (rCall ws = none) := HBad.out (.inr (.inr (.inr (.inl rfl))))
                have tok1 : True := trivial
                go_wp2_with (have _t := tok1; refine wpList_store_row (o := ⟨none, .store 51 (.tmp 3) (.tmp 86), _, _, _, _⟩) rfl 51 (.tmp 3) (.tmp 86) rfl a _ rfl rfl 51 _ A5 (by kernel_rfl) (by simp) (by simp [Value.oneCell']) ?_; clear tok1 _t)
                exact bodyPost_ret (results_call Tryz.results69 rfl rfl rfl (A5.row _) (by kernel_rfl)) rfl (R := RCallR w ws) ⟨(keeps_row _ a _).below k5 (by have := A5.lt; omega) (fun x e _ => by have e' : x = a := e; omega), by rw [hE.out]; rfl⟩
              | true =>
                cases bh with
                | false =>
                  have hE : Hid (rCall ws = none) := HBad.out (.inr (.inr (.inr (.inr rfl))))
                  have tok1 : True := trivial
                  go_wp2_with (have _t := tok1; refine wpList_store_row (o := ⟨none, .store 51 (.tmp 3) (.tmp 86), _, _, _, _⟩) rfl 51 (.tmp 3) (.tmp 86) rfl a _ rfl rfl 51 _ A5 (by kernel_rfl) (by simp) (by simp [Value.oneCell']) ?_; clear tok1 _t)
                  exact bodyPost_ret (results_call Tryz.results69 rfl rfl rfl (A5.row _) (by kernel_rfl)) rfl (R := RCallR w ws) ⟨(keeps_row _ a _).below k5 (by have := A5.lt; omega) (fun x e _ => by have e' : x = a := e; omega), by rw [hE.out]; rfl⟩
                | true =>
                  have hno := HNO.out
                  unfold NumO at hno
                  cases hn : numsI [x1, x3, x4, x8] with
                  | none =>
                    rw [hn] at hno
                    cases hno
                  | some ns =>
                    rw [hn] at hno
                    obtain ⟨_, g, d, rfl, hd4, hl4, hcc⟩ := hno
                    obtain ⟨u5, h5⟩ := Option.isSome_iff_exists.1 HBA.out
                    obtain ⟨u6, h6⟩ := Option.isSome_iff_exists.1 HBB.out
                    obtain ⟨u7, h7⟩ := Option.isSome_iff_exists.1 HBH.out
                    have hE : Hid (rCall ws = some (ns.getD 0 0, ⟨(j : Int), ns.getD 1 0, ns.getD 2 0, (va : Int), (vb : Int), (vh : Int), ns.getD 3 0⟩)) := by
                      rw [Hid, HE0.out, HOP.out, Option.bind_some, hn, Option.bind_some, h5, Option.bind_some, h6, Option.bind_some, h7, Option.bind_some, HVA.out _ h5, HVB.out _ h6, HVH.out _ h7]
                    have n0 : w5.cell? ⟨g, 0, none⟩ = some (.int .i64 (ns.getD 0 0)) := hcc 0 _ (getD_ns (by omega))
                    have n1 : w5.cell? ⟨g, 1, none⟩ = some (.int .i64 (ns.getD 1 0)) := hcc 1 _ (getD_ns (by omega))
                    have n2 : w5.cell? ⟨g, 2, none⟩ = some (.int .i64 (ns.getD 2 0)) := hcc 2 _ (getD_ns (by omega))
                    have n3 : w5.cell? ⟨g, 3, none⟩ = some (.int .i64 (ns.getD 3 0)) := hcc 3 _ (getD_ns (by omega))
                    obtain ⟨q0, hq0⟩ : ∃ v, ns.getD 0 0 = v := ⟨_, rfl⟩
                    obtain ⟨q1, hq1⟩ : ∃ v, ns.getD 1 0 = v := ⟨_, rfl⟩
                    obtain ⟨q2, hq2⟩ : ∃ v, ns.getD 2 0 = v := ⟨_, rfl⟩
                    obtain ⟨q3, hq3⟩ : ∃ v, ns.getD 3 0 = v := ⟨_, rfl⟩
                    rw [hq0, hq1, hq2, hq3] at hE
                    rw [hq0] at n0
                    rw [hq1] at n1
                    rw [hq2] at n2
                    rw [hq3] at n3
                    have hga : g ≠ a := by
                      rintro rfl
                      have := n0.symm.trans (A5.cell 0)
                      have := n1.symm.trans (A5.cell 1)
                      have := n2.symm.trans (A5.cell 2)
                      have := n3.symm.trans (A5.cell 3)
                      simp at this
                    clear hcc hn h5 h6 h7 hq0 hq1 hq2 hq3
                    have hi : (Tryz.prog.info? 51).map (·.size) = some (#[.int .i64 j, .int .i64 q1, .int .i64 q2, .int .u64 va, .int .u64 vb, .int .u64 vh, .int .i64 q3] : Array Value).size := by kernel_rfl
                    go_upto_region 15 with fail
                    have hX := @ExtK.cell (a) w5
                    have hzz0 := block_lt_of_cell n0
                    refine wp_region_noPanic ?_
                    refine wp_region_tree (fun w' => ∃ x : ExtK (a) w5, w' = x.w) (PT.one [0, 1, 2, 3, 4, 5, 6, 7, 8, 9, 10, 11, 12, 13, 14, 15, 16, 17, 18] 19 (PT.fin [20])) (by kernel_rfl) (by kernel_rfl) (by kernel_rfl) (fun _ _ _ _ _ h => h) ⟨⟨_, (Keeps.refl _ w5).drew⟩, rfl⟩ ?_
                    refine wpTree_one ?_
                    simp only [pickOps, List.getElem?_cons_succ, List.getElem?_cons_zero, Option.elim_some]
                    repeat (go_big_quiet_step (fail))
                    refine wpQuiet_nil ?_
                    refine planAct_some (fun K hK => ?_)
                    refine act_store_row rfl 51 (.tmp 3) (.tmp 104) rfl a _ rfl rfl 51 _ A5.drew hi rfl (by simp [Value.oneCell']) ?_
                    refine hK.out _ _ (extk_mem ((Keeps.refl _ w5).drew.trans_ (keeps_row _ a _))) ?_
                    clear hK K
                    simp only [Act.put]
                    refine wpTree_fin ?_
                    simp only [pickOps, List.getElem?_cons_succ, List.getElem?_cons_zero, Option.elim_some]
                    repeat (go_big_quiet_step (fail))
                    refine wpQuiet_nil ?_
                    refine NoPanic.normal ?_
                    clear hX hzz0
                    go_wp2_with fail
                    exact bodyPost_ret (results_call Tryz.results69 rfl rfl rfl (A5.row _) hi) rfl (R := RCallR w ws) ⟨((keeps_row _ a _).drew).below k5 (by have := A5.lt; omega) (fun x e _ => by have e' : x = a := e; omega), by rw [hE.out]; rfl⟩
  · have hE : Hid (rCall ws = none) := by rw [Hid, rCall, if_neg (by rw [hlen.out]; exact h9)]
    have tn : ((n : Int) == 9) = false := by rw [beq_eq_false_iff_ne]; omega
    have tok1 : True := trivial
    go_wp2_with (have _t := tok1; refine wpList_store_row (o := ⟨none, .store 51 (.tmp 3) (.tmp 18), _, _, _, _⟩) rfl 51 (.tmp 3) (.tmp 18) rfl a _ rfl rfl 51 _ HA.out (by kernel_rfl) (by simp) (by simp [Value.oneCell']) ?_; clear tok1 _t)
    exact bodyPost_ret (results_call Tryz.results69 rfl rfl rfl (HA.out.row _) (by kernel_rfl)) rfl (R := RCallR w ws) ⟨(keeps_row _ a _).below k0 (by have := HA.out.lt; omega) (fun x e _ => by have e' : x = a := e; omega), by rw [hE.out]; rfl⟩
end Go.Proofs.YtjjgngccgjpnaaaGreatDoor
