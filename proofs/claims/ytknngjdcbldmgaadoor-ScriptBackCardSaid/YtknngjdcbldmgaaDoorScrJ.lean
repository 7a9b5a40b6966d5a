/- A writer of bytes. -/
import Derived.Test.YtknngjdcbldmgaaDoorScrI
namespace Go.Proofs.YtknngjdcbldmgaaDoor
set_option linter.unusedVariables false
set_option linter.unusedSimpArgs false
open Go.RowKit

def b8 (x : Int) : Value := .int .u8 x
def num (s : Nat) (x : Int) : List Int := (List.range s).map fun i => x / 256 ^ i % 256
theorem num_len (s : Nat) (x : Int) : (num s x).length = s := by simp [num]
theorem num_succ (s : Nat) (x : Int) : num (s + 1) x = num s x ++ [x / 256 ^ s % 256] := by simp [num, List.range_succ]
theorem nums_len (s : Nat) (l : List Int) : (l.flatMap (num s)).length = l.length * s := by
  induction l with
  | nil => simp
  | cons a t ih => rw [List.flatMap_cons, List.length_append, ih, num_len, List.length_cons, Nat.succ_mul]; omega
theorem elem_b : ∃ i, Elem Tryd.prog 39 5 i (.int .u8 0) 1 1 := Elem.of Tryd.underlying39 (by kernel_rfl) rfl (by decide)
theorem own_q {w : World} {B p : Nat} {e t : TypeId} {size n : Nat} {v : Value} {xs : List Value} {cs : Array Value} (h : w.ownsRow B e size v n xs) (hp : Blk w p t cs) (hne : e ≠ t) : ∃ q, p ≠ q ∧ ∀ k, v.ownBlock = some k → k = q := by
  cases hv : v.ownBlock with
  | none => exact ⟨p + 1, by omega, fun k h => by cases h⟩
  | some q => exact ⟨q, fun e => own_ne_blk h hp hne (by rw [hv, e]), fun k h => by cases h; rfl⟩
theorem btrans {B : Nat} {a b c : World} (h : Below B a b) (k : Below B b c) : Below B a c := h.trans k
/-- What a writer's call leaves: all that is older than B, and the blocks of other types than the writer's and its row's. -/
structure KP (B : Nat) (w w' : World) : Prop where
  b : Below B w w'
  s : w.heap.size ≤ w'.heap.size
  k : ∀ q T cs, T ≠ 68 → T ≠ 5 → Blk w q T cs → Blk w' q T cs
theorem KP.refl (B : Nat) (w : World) : KP B w w := ⟨Below.refl _ _, Nat.le_refl _, fun _ _ _ _ _ h => h⟩
theorem KP.trans {B : Nat} {a b c : World} (h : KP B a b) (k : KP B b c) : KP B a c := ⟨btrans h.b k.b, Nat.le_trans h.s k.s, fun q T cs h1 h2 h3 => k.k q T cs h1 h2 (h.k q T cs h1 h2 h3)⟩
/-- A writer whose bytes are bs. -/
def WB (w : World) (B p : Nat) (bs : List Int) : Prop := ∃ A n c, Blk w p 68 #[.slice A n c] ∧ w.ownsRow B 5 1 (.slice A n c) n (bs.map b8) ∧ B ≤ p
theorem cutb {x : Int} (hx : U64 x) {j : Nat} (hj : j < 8) (w : World) : Calls Tryd.prog 55 #[.int .u64 x, .int .i64 (8 * (j : Int)), .int .i64 8] w fun e w' => e = .returned (.int .u64 (x / 256 ^ j % 256)) ∧ w = w' := by
  have h := cut_any x (8 * (j : Int)) 8 w hx (by unfold I64; omega) (by unfold I64; omega)
  have e : ((Fld.cut x.toNat (8 * (j : Int)) 8 : Nat) : Int) = x / 256 ^ j % 256 := by
    have h1 := Fld.cut_eq (w := x.toNat) (a := 8 * j) (s := 8) (by omega)
    rw [show (((8 * j : Nat)) : Int) = 8 * (j : Int) by omega, show ((8 : Nat) : Int) = 8 by rfl] at h1
    rw [h1, Nat.pow_mul]
    have h2 := hx.cast
    rw [Int.natCast_emod, Int.natCast_ediv, h2]
    simp
  rw [e] at h
  exact h
set_option maxHeartbeats 4000000 in
set_option maxRecDepth 100000 in
theorem put_any {w : World} {B p a : Nat} {bs ns : List Int} {sz : Nat} (hW : WB w B p bs) (hN : Blk w a 59 (ns.map uc).toArray) (hU : ∀ x, x ∈ ns → U64 x) (hs : sz ≤ 8) (hml : ns.length ≤ 1000) (hl : bs.length + ns.length * sz ≤ 1000000000) (hBw : B ≤ w.heap.size) :
    Calls Tryd.prog 29 #[.pointer (some ⟨p, 0, none⟩), .int .i64 sz, .slice (some ⟨a, 0, none⟩) ns.length ns.length] w fun e w' => e = .returned (.tuple #[]) ∧ WB w' B p (bs ++ ns.flatMap (num sz)) ∧ KP B w w' := by
  obtain ⟨i1, E2⟩ := elem_b
  have HL := Lib.hid hl
  have HU := Lib.hid hU
  have hNz := hN.lt
  clear hl hU
  obtain ⟨m, hm⟩ : ∃ m, ns.length = m := ⟨_, rfl⟩
  rw [hm] at hml ⊢
  have HM := Lib.hid hm
  clear hm
  go_enter Tryd.func29, Tryd.ntmps29
  go_wp2_with fail
  go_loopg [11] m (fun gk i wr => ∃ k : Nat, k + gk = m ∧ i = .int .i64 k ∧ WB wr B p (bs ++ (ns.take k).flatMap (num sz)) ∧ KP B w wr)
  case atStart => exact ⟨0, by omega, rfl, by simpa using hW, KP.refl _ _⟩
  case round =>
    clear hW
    obtain ⟨k, hk, rfl, hW, kp⟩ := hrel
    have kps := kp.s
    by_cases hlt : k < m
    · obtain ⟨x, hx⟩ : ∃ x, ns[k]? = some x := ⟨ns[k]'(by have := HM.out; omega), List.getElem?_eq_getElem (i := k) _⟩
      have n0 := kp.k _ _ _ (by decide) (by decide) hN
      have n1 : wr.cell? ⟨a, k, none⟩ = some (.int .u64 x) := by have := n0.cell k; rw [this]; simp [hx, uc]
      have hux := HU.out x (List.mem_of_getElem? hx)
      have HC := Lib.hid (fun j hj W => cutb hux (j := j) hj W)
      have b0 : (0 : Int) ≤ (k : Int) := by omega
      have b1 : (k : Int) < (m : Int) := by omega
      have HT : Hid (bs ++ (ns.take (k + 1)).flatMap (num sz) = (bs ++ (ns.take k).flatMap (num sz)) ++ num sz x) := by rw [Hid, List.take_add_one, hx]; simp
      have hbl : (bs ++ (ns.take k).flatMap (num sz)).length + sz ≤ 1000000000 := by
        have h1 := HL.out
        rw [HM.out] at h1
        have h2 := Nat.mul_le_mul_right sz (show k + 1 ≤ m from hlt)
        rw [Nat.succ_mul] at h2
        rw [List.length_append, nums_len, List.length_take, HM.out, Nat.min_eq_left (by omega)]
        omega
      obtain ⟨bt, hbt⟩ : ∃ bt, bs ++ (ns.take k).flatMap (num sz) = bt := ⟨_, rfl⟩
      rw [hbt] at hW hbl HT
      clear hx hux hbt n0
      obtain ⟨gr, hgr⟩ : ∃ g, g = gk := ⟨_, rfl⟩
      subst hgr
      go_wp2_with fail
      go_loopg [16] sz (fun gk i w3 => ∃ j : Nat, j + gk = sz ∧ i = .int .i64 j ∧ WB w3 B p (bt ++ num j x) ∧ KP B w w3)
      case atStart => exact ⟨0, by omega, rfl, by simpa [num] using hW, kp⟩
      case round =>
        clear hW kp n1 kps
        obtain ⟨j, hj, rfl, hW, kp⟩ := hrel
        have kps := kp.s
        by_cases hjs : j < sz
        · have hcut := HC.out j (by omega)
          have j0 : (0 : Int) ≤ (j : Int) := by omega
          have j1 : (j : Int) < (sz : Int) := by omega
          have hw8 : IntKind.i64.wrap (8 * (j : Int)) = 8 * (j : Int) := IntWalk.i64_in _ (by omega)
          have HNS : Hid (bt ++ num (j + 1) x = (bt ++ num j x) ++ [x / 256 ^ j % 256]) := by rw [Hid, num_succ, List.append_assoc]
          have hwb : IntKind.u8.wrap (x / 256 ^ j % 256) = x / 256 ^ j % 256 := by
            have h1 := Int.emod_nonneg (x / 256 ^ j) (show (256 : Int) ≠ 0 by decide)
            have h2 := Int.emod_lt_of_pos (x / 256 ^ j) (show (0 : Int) < 256 by decide)
            exact IntWalk.u8_in _ (by omega)
          obtain ⟨bu, hbu⟩ : ∃ bu, bt ++ num j x = bu := ⟨_, rfl⟩
          have hul : bu.length < 1000000000 := by rw [← hbu, List.length_append, num_len]; omega
          rw [hbu] at hW HNS
          generalize x / 256 ^ j % 256 = y at *
          clear hbu HC
          obtain ⟨A, n, c, D2, own2, hBp⟩ := hW
          have hn : n = bu.length := by have := own2.1; simpa using this.symm
          have hnl : n < 1000000000 := by omega
          clear hn hul
          obtain ⟨q, hn0, hq⟩ := own_q own2 D2 (by decide)
          have x0 := D2.cell 0
          obtain ⟨W4, hW4⟩ : ∃ W4, W4 = wr := ⟨_, rfl⟩
          subst hW4
          go_upto_region 6 with (fail)
          have hX := @ExtK.cell (q) W4
          have hzz0 := block_lt_of_cell x0
          refine wp_region_noPanic ?_
          refine wp_region_last (fun w' => ∃ x : ExtK (q) W4, w' = x.w) 14 (PG.two [0, 1, 5, 6, 7] 2 (PG.one [3, 4] 8 (PG.one [9] 10 (PG.one [] 11 (PG.one [] 12 (PG.fin [13]))))) 8 (PG.two [9] 2 (PG.one [3, 4] 10 (PG.one [] 11 (PG.one [] 12 (PG.fin [13])))) 10 (PG.one [] 2 (PG.one [3, 4] 11 (PG.one [] 12 (PG.fin [13])))))) (by kernel_rfl) (by kernel_rfl) (by kernel_rfl) (fun _ _ _ _ _ h => h) ⟨⟨_, (Keeps.refl _ W4).drew⟩, rfl⟩ ?_
          refine wpG_two ?_
          simp only [pickOps, List.getElem?_cons_succ, List.getElem?_cons_zero, Option.elim_some]
          repeat (go_big_quiet_step (fail))
          refine wpQuiet_nil ?_
          refine ⟨?_, ?_⟩
          · refine planAct_some (fun K hK => ?_)
            go_simp
            refine hK.out _ _ (extk_mem (Keeps.refl _ W4).drew) ?_
            clear hK K
            refine wpG_one ?_
            simp only [pickOps, List.getElem?_cons_succ, List.getElem?_cons_zero, Option.elim_some]
            repeat (go_big_quiet_step (fail))
            refine wpQuiet_nil ?_
            refine planAct_some (fun K hK => ?_)
            go_simp
            refine (hcut _).mono ?_
            rintro e wa ⟨rfl, rfl⟩
            go_wp2_with fail
            refine hK.out _ _ ⟨⟨_, (Keeps.refl _ W4).drew⟩, rfl⟩ ?_
            clear hK K
            refine wpG_one ?_
            simp only [pickOps, List.getElem?_cons_succ, List.getElem?_cons_zero, Option.elim_some]
            repeat (go_big_quiet_step (fail))
            refine wpQuiet_nil ?_
            refine planAct_some (fun K hK => ?_)
            go_simp
            refine hK.out _ _ (extk_mem ((Keeps.refl _ W4).drew.alloc _)) ?_
            clear hK K
            refine wpG_one ?_
            simp only [pickOps, List.getElem?_cons_succ, List.getElem?_cons_zero, Option.elim_some]
            repeat (go_big_quiet_step (fail))
            refine wpQuiet_nil ?_
            refine planAct_some (fun K hK => ?_)
            refine step_app (ys := [.int .u8 y]) (m := 1) E2 rfl (.tmp 23) (.tmp 29) rfl B rfl (own2.alloc _ :) rfl rfl (Rd.new _ _ _ rfl) (by simp [Value.oneCell']) (by unfold maxLen; omega) (by omega) (by simp; omega) ?_
            intro A8 c8 w8 own8 hg8 _
            go_simp
            refine hK.out _ _ (extk_mem (((Keeps.refl _ W4).drew.alloc _).grown hg8 (fun k' q1 _ => hq k' q1))) ?_
            clear hK K
            have K8 : ∀ q1 T cs, T ≠ 5 → Blk W4 q1 T cs → Blk w8 q1 T cs := fun q1 T cs hT hD => (hD.alloc (.cells #[.int .u8 y] 5)).drew.grown hg8 (fun q2 => own_ne_blk own2 hD hT.symm q2.symm)
            have G2 := K8 _ _ _ (by decide) D2
            have f8 := G2.frozen 0
            have v8 := G2.cell 0
            have z8 := G2.lt
            refine wpG_one ?_
            simp only [pickOps, List.getElem?_cons_succ, List.getElem?_cons_zero, Option.elim_some]
            repeat (go_big_quiet_step (fail))
            refine wpQuiet_nil ?_
            refine planAct_some (fun K hK => ?_)
            go_simp
            refine hK.out _ _ (extk_mem (((Keeps.refl _ W4).drew.alloc _).grown hg8 (fun k' q1 _ => hq k' q1))) ?_
            clear hK K
            refine wpG_fin ?_
            simp only [pickOps, List.getElem?_cons_succ, List.getElem?_cons_zero, Option.elim_some]
            repeat (go_big_quiet_step (fail))
            refine wpQuiet_nil ?_
            refine lastG_some (fun K hK => ?_)
            go_simp
            refine hK.out _ _ ?_
            clear hK K
            refine NoPanic.normal ?_
            clear hX hzz0
            have hb8 := ((kp.b.alloc (Nat.le_trans hBw kp.s) (.cells #[.int .u8 y] 5)).drew.grown hg8 (Nat.le_trans (Nat.le_trans hBw kp.s) (by simp)) (fun k' q1 => own_ge own2 k' q1))
            have hs8 : W4.heap.size ≤ w8.heap.size := Nat.le_trans (by simp) hg8.size
            clear D2 own2 x0 hg8
            go_wp2_with fail
            go_roundg (gk - 1)
            case measure => omega
            case rel =>
              refine ⟨j + 1, by omega, by go_num, ⟨A8, n + 1, c8, G2.set_ 0 _, ?_, hBp⟩, ?_, ?_, ?_⟩
              · rw [HNS.out, List.map_append]
                exact ((Keeps.refl (fun b => b = p) w8).setCell (p := ⟨p, 0, none⟩) (fun _ => rfl) _).own own8 (fun k' q1 q2 => own_ne_blk own8 G2 (by decide) (by rw [q1, q2]))
              · exact hb8.setCell hBp _
              · simpa [World.setCell] using Nat.le_trans kp.s hs8
              · intro q1 T cs h1 h2 hD
                have hD4 := kp.k _ _ _ h1 h2 hD
                exact (K8 _ _ _ h2 hD4).far (p := ⟨p, 0, none⟩) (fun e => h1 (Blk.ne_ (K8 _ _ _ h2 hD4) G2 |> fun f => absurd e (f (by simpa using h1)))) _
          · refine planAct_some (fun K hK => ?_)
            go_simp
            refine (hcut _).mono ?_
            rintro e wa ⟨rfl, rfl⟩
            go_wp2_with fail
            refine hK.out _ _ ⟨⟨_, (Keeps.refl _ W4).drew⟩, rfl⟩ ?_
            clear hK K
            refine wpG_two ?_
            simp only [pickOps, List.getElem?_cons_succ, List.getElem?_cons_zero, Option.elim_some]
            repeat (go_big_quiet_step (fail))
            refine wpQuiet_nil ?_
            refine ⟨?_, ?_⟩
            · refine planAct_some (fun K hK => ?_)
              go_simp
              refine hK.out _ _ (extk_mem (Keeps.refl _ W4).drew) ?_
              clear hK K
              refine wpG_one ?_
              simp only [pickOps, List.getElem?_cons_succ, List.getElem?_cons_zero, Option.elim_some]
              repeat (go_big_quiet_step (fail))
              refine wpQuiet_nil ?_
              refine planAct_some (fun K hK => ?_)
              go_simp
              refine hK.out _ _ (extk_mem ((Keeps.refl _ W4).drew.alloc _)) ?_
              clear hK K
              refine wpG_one ?_
              simp only [pickOps, List.getElem?_cons_succ, List.getElem?_cons_zero, Option.elim_some]
              repeat (go_big_quiet_step (fail))
              refine wpQuiet_nil ?_
              refine planAct_some (fun K hK => ?_)
              refine step_app (ys := [.int .u8 y]) (m := 1) E2 rfl (.tmp 23) (.tmp 29) rfl B rfl (own2.alloc _ :) rfl rfl (Rd.new _ _ _ rfl) (by simp [Value.oneCell']) (by unfold maxLen; omega) (by omega) (by simp; omega) ?_
              intro A8 c8 w8 own8 hg8 _
              go_simp
              refine hK.out _ _ (extk_mem (((Keeps.refl _ W4).drew.alloc _).grown hg8 (fun k' q1 _ => hq k' q1))) ?_
              clear hK K
              have K8 : ∀ q1 T cs, T ≠ 5 → Blk W4 q1 T cs → Blk w8 q1 T cs := fun q1 T cs hT hD => (hD.alloc (.cells #[.int .u8 y] 5)).drew.grown hg8 (fun q2 => own_ne_blk own2 hD hT.symm q2.symm)
              have G2 := K8 _ _ _ (by decide) D2
              have f8 := G2.frozen 0
              have v8 := G2.cell 0
              have z8 := G2.lt
              refine wpG_one ?_
              simp only [pickOps, List.getElem?_cons_succ, List.getElem?_cons_zero, Option.elim_some]
              repeat (go_big_quiet_step (fail))
              refine wpQuiet_nil ?_
              refine planAct_some (fun K hK => ?_)
              go_simp
              refine hK.out _ _ (extk_mem (((Keeps.refl _ W4).drew.alloc _).grown hg8 (fun k' q1 _ => hq k' q1))) ?_
              clear hK K
              refine wpG_fin ?_
              simp only [pickOps, List.getElem?_cons_succ, List.getElem?_cons_zero, Option.elim_some]
              repeat (go_big_quiet_step (fail))
              refine wpQuiet_nil ?_
              refine lastG_some (fun K hK => ?_)
              go_simp
              refine hK.out _ _ ?_
              clear hK K
              refine NoPanic.normal ?_
              clear hX hzz0
              have hb8 := ((kp.b.alloc (Nat.le_trans hBw kp.s) (.cells #[.int .u8 y] 5)).drew.grown hg8 (Nat.le_trans (Nat.le_trans hBw kp.s) (by simp)) (fun k' q1 => own_ge own2 k' q1))
              have hs8 : W4.heap.size ≤ w8.heap.size := Nat.le_trans (by simp) hg8.size
              clear D2 own2 x0 hg8
              go_wp2_with fail
              go_roundg (gk - 1)
              case measure => omega
              case rel =>
                refine ⟨j + 1, by omega, by go_num, ⟨A8, n + 1, c8, G2.set_ 0 _, ?_, hBp⟩, ?_, ?_, ?_⟩
                · rw [HNS.out, List.map_append]
                  exact ((Keeps.refl (fun b => b = p) w8).setCell (p := ⟨p, 0, none⟩) (fun _ => rfl) _).own own8 (fun k' q1 q2 => own_ne_blk own8 G2 (by decide) (by rw [q1, q2]))
                · exact hb8.setCell hBp _
                · simpa [World.setCell] using Nat.le_trans kp.s hs8
                · intro q1 T cs h1 h2 hD
                  have hD4 := kp.k _ _ _ h1 h2 hD
                  exact (K8 _ _ _ h2 hD4).far (p := ⟨p, 0, none⟩) (fun e => h1 (Blk.ne_ (K8 _ _ _ h2 hD4) G2 |> fun f => absurd e (f (by simpa using h1)))) _
            · refine planAct_some (fun K hK => ?_)
              go_simp
              refine hK.out _ _ (extk_mem ((Keeps.refl _ W4).drew.alloc _)) ?_
              clear hK K
              refine wpG_one ?_
              simp only [pickOps, List.getElem?_cons_succ, List.getElem?_cons_zero, Option.elim_some]
              repeat (go_big_quiet_step (fail))
              refine wpQuiet_nil ?_
              refine planAct_some (fun K hK => ?_)
              go_simp
              refine hK.out _ _ (extk_mem ((Keeps.refl _ W4).drew.alloc _)) ?_
              clear hK K
              refine wpG_one ?_
              simp only [pickOps, List.getElem?_cons_succ, List.getElem?_cons_zero, Option.elim_some]
              repeat (go_big_quiet_step (fail))
              refine wpQuiet_nil ?_
              refine planAct_some (fun K hK => ?_)
              refine step_app (ys := [.int .u8 y]) (m := 1) E2 rfl (.tmp 23) (.tmp 29) rfl B rfl (own2.alloc _ :) rfl rfl (Rd.new _ _ _ rfl) (by simp [Value.oneCell']) (by unfold maxLen; omega) (by omega) (by simp; omega) ?_
              intro A8 c8 w8 own8 hg8 _
              go_simp
              refine hK.out _ _ (extk_mem (((Keeps.refl _ W4).drew.alloc _).grown hg8 (fun k' q1 _ => hq k' q1))) ?_
              clear hK K
              have K8 : ∀ q1 T cs, T ≠ 5 → Blk W4 q1 T cs → Blk w8 q1 T cs := fun q1 T cs hT hD => (hD.alloc (.cells #[.int .u8 y] 5)).drew.grown hg8 (fun q2 => own_ne_blk own2 hD hT.symm q2.symm)
              have G2 := K8 _ _ _ (by decide) D2
              have f8 := G2.frozen 0
              have v8 := G2.cell 0
              have z8 := G2.lt
              refine wpG_one ?_
              simp only [pickOps, List.getElem?_cons_succ, List.getElem?_cons_zero, Option.elim_some]
              repeat (go_big_quiet_step (fail))
              refine wpQuiet_nil ?_
              refine planAct_some (fun K hK => ?_)
              go_simp
              refine hK.out _ _ (extk_mem (((Keeps.refl _ W4).drew.alloc _).grown hg8 (fun k' q1 _ => hq k' q1))) ?_
              clear hK K
              refine wpG_fin ?_
              simp only [pickOps, List.getElem?_cons_succ, List.getElem?_cons_zero, Option.elim_some]
              repeat (go_big_quiet_step (fail))
              refine wpQuiet_nil ?_
              refine lastG_some (fun K hK => ?_)
              go_simp
              refine hK.out _ _ ?_
              clear hK K
              refine NoPanic.normal ?_
              clear hX hzz0
              have hb8 := ((kp.b.alloc (Nat.le_trans hBw kp.s) (.cells #[.int .u8 y] 5)).drew.grown hg8 (Nat.le_trans (Nat.le_trans hBw kp.s) (by simp)) (fun k' q1 => own_ge own2 k' q1))
              have hs8 : W4.heap.size ≤ w8.heap.size := Nat.le_trans (by simp) hg8.size
              clear D2 own2 x0 hg8
              go_wp2_with fail
              go_roundg (gk - 1)
              case measure => omega
              case rel =>
                refine ⟨j + 1, by omega, by go_num, ⟨A8, n + 1, c8, G2.set_ 0 _, ?_, hBp⟩, ?_, ?_, ?_⟩
                · rw [HNS.out, List.map_append]
                  exact ((Keeps.refl (fun b => b = p) w8).setCell (p := ⟨p, 0, none⟩) (fun _ => rfl) _).own own8 (fun k' q1 q2 => own_ne_blk own8 G2 (by decide) (by rw [q1, q2]))
                · exact hb8.setCell hBp _
                · simpa [World.setCell] using Nat.le_trans kp.s hs8
                · intro q1 T cs h1 h2 hD
                  have hD4 := kp.k _ _ _ h1 h2 hD
                  exact (K8 _ _ _ h2 hD4).far (p := ⟨p, 0, none⟩) (fun e => h1 (Blk.ne_ (K8 _ _ _ h2 hD4) G2 |> fun f => absurd e (f (by simpa using h1)))) _
        · have t8 : decide (j < sz) = false := decide_eq_false (by omega)
          obtain rfl : j = sz := by omega
          rw [← HT.out] at hW
          go_wp2_with fail
          go_roundg (gr - 1)
          case measure => omega
          case rel => exact ⟨k + 1, by omega, by go_num, hW, kp⟩
    · have t8 : decide (k < m) = false := decide_eq_false (by omega)
      obtain rfl : k = m := by omega
      rw [List.take_of_length_le (by have := HM.out; omega)] at hW
      go_wp2_with fail
      go_end0
      exact ⟨rfl, hW, kp⟩
end Go.Proofs.YtknngjdcbldmgaaDoor
