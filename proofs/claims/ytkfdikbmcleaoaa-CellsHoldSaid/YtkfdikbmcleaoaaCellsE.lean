/- Memories: the reference's Do at any access, its Same, the law's same, lives. -/
import Derived.Test.YtkfdikbmcleaoaaCellsD
import Derived.Test.YtkfdikbmcleaoaaPlanT
namespace Go.Proofs.Ytkfdikbmcleaoaa
set_option linter.unusedVariables false
set_option linter.unusedSimpArgs false
open Go.RowKit

theorem own_sl {w : World} {B n c : Nat} {A : Option Addr} {l : List Int} (h : w.ownsRow B 24 1 (.slice A n c) n (l.map uc)) : Sl us w A n c l := Sl.of_own us_len (by decide) (by rw [us_map]; exact h)
theorem rdo_any {w : World} {m : Mem} {A : Option Addr} {c : Nat} (hs : Sl us w A m.ws.length c m.ws) (hl : m.ws.length ≤ 4096) (h1 : 0 ≤ m.ac) (h2 : m.ac ≤ 100000) (h3 : 0 ≤ m.wr) (h4 : m.wr ≤ 100000) (o : MOp) :
    Calls Try.prog 20 #[.agg #[.slice A m.ws.length c, .int .i64 m.ac, .int .i64 m.wr, .int .i64 m.la, .bool m.nm, .bool m.ft], .agg #[.int .i64 o.k, .int .i64 o.a, .int .u64 o.old, .int .u64 o.nx]] w fun e w' => ∃ A1 c1, e = .returned (.tuple #[.agg #[.slice A1 m.ws.length c1, .int .i64 (m.step o).1.ac, .int .i64 (m.step o).1.wr, .int .i64 (m.step o).1.la, .bool (m.step o).1.nm, .bool (m.step o).1.ft], .int .u64 (m.step o).2.1, .bool (m.step o).2.2]) ∧ Sl us w' A1 m.ws.length c1 (m.step o).1.ws ∧ (A1 = A ∨ ∀ ad, A1 = some ad → w.heap.size ≤ ad.block) ∧ Below w.heap.size w w' := by
  obtain ⟨k, a, od, nx⟩ := o
  rcases (by omega : a < 0 ∨ (0 ≤ a ∧ (m.ws.length : Int) ≤ a) ∨ (0 ≤ a ∧ a < (m.ws.length : Int))) with ha | ⟨ha, hb⟩ | ⟨ha, hb⟩
  · rw [st_out (o := ⟨k, a, od, nx⟩) (.inl ha)]
    exact (rdo_neg hs hl h1 h2 h3 h4 a od nx k ha).mono fun e w' ⟨he, hb⟩ => ⟨A, c, he, hs.below hb, .inl rfl, hb⟩
  · rw [st_out (o := ⟨k, a, od, nx⟩) (.inr hb)]
    exact (rdo_big hs hl h1 h2 h3 h4 a od nx k ha hb).mono fun e w' ⟨he, hb⟩ => ⟨A, c, he, hs.below hb, .inl rfl, hb⟩
  · obtain ⟨x, hx⟩ : ∃ x, m.ws[a.toNat]? = some x := ⟨_, List.getElem?_eq_getElem (by omega)⟩
    by_cases k0 : k = 0
    · subst k0
      rw [st_load (o := ⟨0, a, od, nx⟩) ha hx rfl]
      exact (rdo_load hs hl h1 h2 h3 h4 a od nx ha hx).mono fun e w' ⟨he, hb⟩ => ⟨A, c, he, hs.below hb, .inl rfl, hb⟩
    · by_cases k1 : k = 1
      · subst k1
        rw [st_store (o := ⟨1, a, od, nx⟩) ha hb rfl]
        exact (rdo_store hs hl h1 h2 h3 h4 a od nx ha hx).mono fun e w' ⟨A1, c1, he, ho, hb⟩ => ⟨A1, c1, he, own_sl ho, .inr fun ad h => (own_block ho ad h).2.1, hb⟩
      · by_cases hxo : x = od
        · rw [st_cas (o := ⟨k, a, od, nx⟩) ha (by rw [hx, hxo]) k0 k1]
          exact (rdo_cas hs hl h1 h2 h3 h4 a od nx k k0 k1 ha hx hxo).mono fun e w' ⟨A1, c1, he, ho, hb⟩ => ⟨A1, c1, he, own_sl ho, .inr fun ad h => (own_block ho ad h).2.1, hb⟩
        · rw [st_miss (o := ⟨k, a, od, nx⟩) ha hx hxo k0 k1]
          exact (rdo_miss hs hl h1 h2 h3 h4 a od nx k k0 k1 ha hx hxo).mono fun e w' ⟨he, hb⟩ => ⟨A, c, he, hs.below hb, .inl rfl, hb⟩
set_option maxHeartbeats 400000 in
set_option maxRecDepth 100000 in
theorem rsame_eq {A B : Option Addr} {n c c' : Nat} {l : List Int} {w : World} (h : Sl us w A n c l) (h' : Sl us w B n c' l) (hn : n ≤ 1000000) :
    Calls Try.prog 22 #[.slice A n c, .slice B n c'] w fun e w' => e = .returned (.bool true) ∧ ∃ d, w' = w.drewN d := by
  go_enter Try.func22, Try.ntmps22
  go_wp2
  go_loopg [5] n (fun gk i wr => ∃ (k : Nat), k + gk = n ∧ i = .int .i64 k ∧ ∃ d, wr = w.drewN d)
  case atStart => exact ⟨0, by omega, rfl, 0, rfl⟩
  case round =>
    obtain ⟨k, hk, rfl, d, rfl⟩ := hrel
    by_cases hlt : k < n
    · obtain ⟨b, o, rfl, _, hc⟩ := h.base us_len (by decide) (by omega)
      obtain ⟨b', o', rfl, _, hc'⟩ := h'.base us_len (by decide) (by omega)
      obtain ⟨x, hx⟩ : ∃ x, l[k]? = some x := ⟨_, List.getElem?_eq_getElem (by rw [h.len]; exact hlt)⟩
      have c0 : w.cell? ⟨b, o + k, none⟩ = some (.int .u64 x) := by have h0 := hc k x 0 _ hx rfl; simpa using h0
      have d0 : w.cell? ⟨b', o' + k, none⟩ = some (.int .u64 x) := by have h0 := hc' k x 0 _ hx rfl; simpa using h0
      have b0 : (0 : Int) ≤ (k : Int) := by omega
      have b1 : (k : Int) < (n : Int) := by omega
      have t0 : (x != x) = false := by simp
      clear hc hc' hx h h'
      go_wp2_with fail
      go_quiet (fail)
      go_wp2
      go_roundg (gk - 1)
      case measure => omega
      case rel => exact ⟨k + 1, by omega, by go_num, _, by first | rfl | exact World.drewN_drewN _ _ _⟩
    · have hge : ¬ ((k : Int) < (n : Int)) := by omega
      clear h h'
      go_wp2
      go_ret
      exact ⟨rfl, d, rfl⟩

set_option maxHeartbeats 400000 in
set_option maxRecDepth 100000 in
theorem same_any {w : World} {p g : Nat} {m : Mem} {A : Option Addr} {c : Nat} (h : MBox w p g m) (hs : Sl us w A m.ws.length c m.ws) (hl : m.ws.length ≤ 4096) :
    Calls Try.prog 19 #[.pointer (some ⟨p, 0, none⟩), .agg #[.slice A m.ws.length c, .int .i64 m.ac, .int .i64 m.wr, .int .i64 m.la, .bool m.nm, .bool m.ft]] w fun e w' => e = .returned (.bool true) ∧ Below w.heap.size w w' := by
  go_enter Try.func19, Try.ntmps19
  go_wp2_with fail
  obtain ⟨W0, hW0, x0, x1, x2, x3, x4, x5, hm, hs0, kb⟩ : ∃ W0, w.alloc (.cells #[.slice A m.ws.length c, .int .i64 m.ac, .int .i64 m.wr, .int .i64 m.la, .bool m.nm, .bool m.ft] 44) = W0 ∧ W0.cell? ⟨w.heap.size, 0, none⟩ = some (.slice A m.ws.length c) ∧ W0.cell? ⟨w.heap.size, 1, none⟩ = some (.int .i64 m.ac) ∧ W0.cell? ⟨w.heap.size, 2, none⟩ = some (.int .i64 m.wr) ∧ W0.cell? ⟨w.heap.size, 3, none⟩ = some (.int .i64 m.la) ∧ W0.cell? ⟨w.heap.size, 4, none⟩ = some (.bool m.nm) ∧ W0.cell? ⟨w.heap.size, 5, none⟩ = some (.bool m.ft) ∧ MBox W0 p g m ∧ Sl us W0 A m.ws.length c m.ws ∧ Below w.heap.size w W0 :=
    ⟨_, rfl, by go_simp, by go_simp, by go_simp, by go_simp, by go_simp, by go_simp, h.below (bnew (brefl w) _), hs.alloc _, bnew (brefl w) _⟩
  rw [hW0]
  clear hW0 h hs
  refine (last_any hm).mono ?_
  rintro e w1 ⟨rfl, hb1⟩
  have y0 := keep_below x0 hb1
  have y1 := keep_below x1 hb1
  have y2 := keep_below x2 hb1
  have y3 := keep_below x3 hb1
  have y4 := keep_below x4 hb1
  have y5 := keep_below x5 hb1
  have hm1 := hm.below hb1
  have hs1 := hs0.below hb1
  have kb1 := bnext kb hb1
  clear x0 x1 x2 x3 x4 x5 hm hs0 hb1 kb
  have hne0 : (m.nm == m.nm) = true := by simp
  have hne1 : (m.ft == m.ft) = true := by simp
  generalize hnn : m.ws.length = n at *
  have HNN := Lib.hid hnn
  have hwd := fun (w : World) (h : MBox w p g m) => words_any h (by omega)
  rw [hnn] at hwd
  clear hnn
  generalize hB : w.heap.size = B at *
  have HB := Lib.hid hB
  clear hB
  go_upto_region 2 with (fail)
  have hX := @Ext.cell w1
  have hzz0 := block_lt_of_cell y0
  refine wp_region_noPanic ?_
  refine wp_region_plan (fun w' => ∃ x : Ext w1, w' = x.w) [([0, 2, 3], 1), ([], 4), ([5, 6, 8, 9], 7), ([10, 11, 12, 13, 15, 16], 14), ([17, 18, 19, 20, 21, 22, 23, 24, 25, 26, 27, 28, 29, 30, 31, 32, 34, 35], 33)] [36, 37, 38] (by kernel_rfl) (by kernel_rfl) (by kernel_rfl) (fun _ _ _ _ _ h => h) ⟨⟨_, (brefl w1).drew⟩, rfl⟩ ?_
  refine wpPlan_cons ?_
  simp only [pickOps, List.getElem?_cons_succ, List.getElem?_cons_zero, Option.elim_some]
  repeat (go_big_quiet_step (fail))
  refine wpQuiet_nil ?_
  refine planAct_some (fun K hK => ?_)
  go_simp
  refine (hwd _ hm1.drew).mono ?_
  rintro e wa ⟨g', rfl, hr, hg, hba⟩
  go_wp2_with fail
  refine hK.out _ _ ⟨⟨_, (bnext (brefl w1).drew hba)⟩, rfl⟩ ?_
  clear hK K
  refine wpPlan_cons ?_
  simp only [pickOps, List.getElem?_cons_succ, List.getElem?_cons_zero, Option.elim_some]
  repeat (go_big_quiet_step (fail))
  refine wpQuiet_nil ?_
  refine planAct_some (fun K hK => ?_)
  go_simp
  refine (rsame_eq (Sl.of_words hr HNN.out (Nat.le_refl n)) (hs1.below (bnext (brefl w1).drew hba)) (by omega)).mono ?_
  rintro e wb ⟨rfl, d, rfl⟩
  go_wp2_with fail
  refine hK.out _ _ ⟨⟨_, (below_drewN (bnext (brefl w1).drew hba) d)⟩, rfl⟩ ?_
  clear hK K
  refine wpPlan_cons ?_
  simp only [pickOps, List.getElem?_cons_succ, List.getElem?_cons_zero, Option.elim_some]
  repeat (go_big_quiet_step (fail))
  refine wpQuiet_nil ?_
  refine planAct_some (fun K hK => ?_)
  go_simp
  refine (accesses_any (hm1.below (below_drewN (bnext (brefl w1).drew hba) d))).mono ?_
  rintro e wc ⟨rfl, rfl⟩
  go_wp2_with fail
  refine hK.out _ _ ⟨⟨_, (below_drewN (bnext (brefl w1).drew hba) d)⟩, rfl⟩ ?_
  clear hK K
  refine wpPlan_cons ?_
  simp only [pickOps, List.getElem?_cons_succ, List.getElem?_cons_zero, Option.elim_some]
  repeat (go_big_quiet_step (fail))
  refine wpQuiet_nil ?_
  refine planAct_some (fun K hK => ?_)
  go_simp
  refine (writes_any (hm1.below (below_drewN (bnext (brefl w1).drew hba) d))).mono ?_
  rintro e wc ⟨rfl, rfl⟩
  go_wp2_with fail
  refine hK.out _ _ ⟨⟨_, (below_drewN (bnext (brefl w1).drew hba) d)⟩, rfl⟩ ?_
  clear hK K
  refine wpPlan_cons ?_
  simp only [pickOps, List.getElem?_cons_succ, List.getElem?_cons_zero, Option.elim_some]
  repeat (go_big_quiet_step (fail))
  refine wpQuiet_nil ?_
  refine planAct_some (fun K hK => ?_)
  go_simp
  refine (fault_any (hm1.below (below_drewN (bnext (brefl w1).drew hba) d))).mono ?_
  rintro e wc ⟨rfl, rfl⟩
  go_wp2_with fail
  refine hK.out _ _ ⟨⟨_, (below_drewN (bnext (brefl w1).drew hba) d)⟩, rfl⟩ ?_
  clear hK K
  refine wpPlan_last ?_
  simp only [pickOps, List.getElem?_cons_succ, List.getElem?_cons_zero, Option.elim_some]
  repeat (go_big_quiet_step (fail))
  refine wpQuiet_nil ?_
  refine NoPanic.normal ?_
  clear hX hzz0
  go_wp2
  go_ret
  exact ⟨rfl, by rw [HB.out]; exact kb1.trans ((below_drewN (bnext (brefl w1).drew hba) d).mono (by have := kb1.size; have := HB.out; omega))⟩

set_option maxHeartbeats 400000 in
set_option maxRecDepth 100000 in
theorem lives06 (w : World) : Calls Try.prog 6 #[] w fun e w' => e = .returned (.bool true) ∧ Below w.heap.size w w' := by
  go_enter Try.func6, Try.ntmps6
  go_wp2_with fail
  refine (new_yes 2 (by decide) (by decide) _).mono ?_
  rintro e w1 ⟨p, g, rfl, hm, hp, hg, hb⟩
  have hst := store_in hm (by decide) (by decide) (by decide) (by decide) (by decide) 1 7 (by decide) (by decide)
  go_wp2_with fail
  refine hst.mono ?_
  rintro e w2 ⟨rfl, hm2, hk2⟩
  have hca := cas_yes hm2 (by decide) (by decide) (by decide) (by decide) (by decide) 1 7 8 (by decide) rfl
  clear hst hm
  go_wp2_with fail
  refine hca.mono ?_
  rintro e w3 ⟨rfl, hm3, hk3⟩
  have hwr := writes_any hm3
  have e2 : (((((mem0 (List.replicate 2 0)).hit 1).put (1 : Int).toNat 7).hit 1).put (1 : Int).toNat 8).wr = 2 := rfl
  rw [e2] at hwr
  have hlo := load_in hm3 (by decide) (by decide) (by decide) (by decide) (by decide) 1 (by decide) (x := 8) rfl
  clear hca hm2 e2
  go_wp2_with fail
  refine hwr.mono ?_
  rintro e w4 ⟨rfl, rfl⟩
  go_wp2_with fail
  refine hlo.mono ?_
  rintro e w4 ⟨rfl, _, hk4⟩
  go_wp2
  go_ret
  exact ⟨rfl, ((hk2.trans_ hk3).trans_ hk4).below hb hb.size (fun x hx _ => by rcases hx with rfl | rfl <;> assumption)⟩
end Go.Proofs.Ytkfdikbmcleaoaa
