/- Threads: the law ThreadPlays: its walk. -/
import Derived.Test.YtclhlgeicfhdiaaThreadT
namespace Go.Proofs.Ytclhlgeicfhdiaa
set_option linter.unusedVariables false
set_option linter.unusedSimpArgs false
open Go.RowKit

/-- What the loop carries. -/
structure Pl (w wr : World) (PT PX P0 : Nat) (oc : Array Value) (t : Th) (L : TL) (FA : Option Addr) (fc : Nat) (HB : Option Addr) (hd : Nat) (k : Nat) : Prop where
  ht_ : TBox wr PT PT t L
  hx_ : XBox wr PX t FA fc HB hd
  ha_ : Apt (L.S PT) PX FA HB
  hz_ : Blk wr P0 30 oc
  hl_ : t.frames.length ≤ k ∧ t.hs.length ≤ k
  hb_ : Below w.heap.size w wr
theorem Pl.below {w wr w' : World} {PT PX P0 : Nat} {oc : Array Value} {t : Th} {L : TL} {FA : Option Addr} {fc : Nat} {HB : Option Addr} {hd k : Nat} (h : Pl w wr PT PX P0 oc t L FA fc HB hd k) (hb : Below wr.heap.size wr w') : Pl w w' PT PX P0 oc t L FA fc HB hd k :=
  ⟨h.ht_.below hb, h.hx_.below hb, h.ha_, h.hz_.below_ hb, h.hl_, bnext h.hb_ hb⟩
set_option maxHeartbeats 4000000 in
set_option maxRecDepth 100000 in
theorem plays_main {w : World} {A A0 : Option Addr} {n c n0 c0 : Nat} {ops : List TOp} {l0 : List Int} (k0 m0 nn : Int) (hl : Sl toc w A n c ops) (hop : ∀ o, o ∈ ops → Sl us w o.A o.rn o.rc o.l) (ho : Sl us w A0 n0 c0 l0) (hgf : gB n ops = false) (hgo : gB 1 [(⟨k0, m0, A0, n0, c0, l0⟩ : TOp)] = false) (hnn : -9223372036854775808 ≤ nn ∧ nn ≤ 9223372036854775807) :
    Calls Try.prog 4 #[.slice A n c, .agg #[.int .i64 k0, .int .i64 m0, .slice A0 n0 c0], .int .i64 nn] w fun e w' => e = .returned (.bool true) ∧ Below w.heap.size w w' := by
  obtain ⟨hn, hrn⟩ := gB_no hgf hl.len
  have hn0 := (gB_no hgo rfl).2 _ (List.mem_singleton_self _)
  dsimp only at hn0
  have hlen := hl.len
  go_enter Try.func4, Try.ntmps4
  go_upto_region 1 with (fail)
  obtain ⟨W0, hW0, hz, hl0, kb⟩ : ∃ W0, w.alloc (.cells #[.int .i64 k0, .int .i64 m0, .slice A0 n0 c0] 30) = W0 ∧ Blk W0 w.heap.size 30 #[.int .i64 k0, .int .i64 m0, .slice A0 n0 c0] ∧ Sl toc W0 A n c ops ∧ Below w.heap.size w W0 := ⟨_, rfl, Blk.new _ _ _, hl.alloc _, bnew (brefl w) _⟩
  rw [hW0]
  clear hW0
  have hg1 := great_any hl0
  rw [hgf] at hg1
  have hs0 : Sl toc (W0.alloc (.cells #[.int .i64 k0, .int .i64 m0, .slice A0 n0 c0] 30)) (some ⟨W0.heap.size, 0, none⟩) 1 1 [(⟨k0, m0, A0, n0, c0, l0⟩ : TOp)] := ⟨rfl, Nat.le_refl _, (Blk.new W0 30 #[.int .i64 k0, .int .i64 m0, .slice A0 n0 c0]).rd, fun q => by cases q⟩
  have hg2 := great_any hs0
  rw [hgo] at hg2
  have z0 : W0.cell? ⟨w.heap.size, 0, none⟩ = some (.int .i64 k0) := hz.cell 0
  have z1 : W0.cell? ⟨w.heap.size, 1, none⟩ = some (.int .i64 m0) := hz.cell 1
  have z2 : W0.cell? ⟨w.heap.size, 2, none⟩ = some (.slice A0 n0 c0) := hz.cell 2
  clear hs0 hl0
  go_wp2_with fail
  refine hg1.mono ?_
  rintro e wa ⟨rfl, rfl⟩
  go_wp2_with fail
  refine hg2.mono ?_
  rintro e wb ⟨rfl, rfl⟩
  clear hg1 hg2 hgf hgo
  obtain ⟨W1, hW1, hz, kb⟩ : ∃ W1, W0.alloc (.cells #[.int .i64 k0, .int .i64 m0, .slice A0 n0 c0] 30) = W1 ∧ Blk W1 w.heap.size 30 #[.int .i64 k0, .int .i64 m0, .slice A0 n0 c0] ∧ Below w.heap.size w W1 := ⟨_, rfl, hz.alloc _, bnew kb _⟩
  rw [hW1]
  clear hW1 z0 z1 z2
  go_upto_region 4 with (go_at_call 8; refine (new_any _).mono ?_; rintro e w1 ⟨rfl, h1, hb1⟩)
  have hzlt : w.heap.size < W1.heap.size := hz.lt
  have hp1 := h1.blk.lt
  have hz := hz.below_ hb1
  have kb1 := bnext kb hb1
  clear hb1 kb
  generalize hPT : W1.heap.size = PT at *
  go_upto_region 7 with (fail)
  have hpl : Pl w (w1.alloc (.cells (tvc th0.told (.slice none 0 0) (.slice none 0 0)) 49)) PT w1.heap.size w.heap.size #[.int .i64 k0, .int .i64 m0, .slice A0 n0 c0] th0 tl0 none 0 none 0 0 :=
    ⟨h1.below (bnew (brefl _) _), ⟨Blk.new _ _ _, ⟨rfl, Nat.le_refl _, Rd.nil _ _, fun _ => ⟨rfl, rfl⟩⟩, ⟨rfl, Nat.le_refl _, Rd.nil _ _, fun _ => ⟨rfl, rfl⟩⟩, (fun ad e => by cases e), (fun ad e => by cases e)⟩,
      ⟨fun e => by rcases e with e | e | ⟨ad, e, _⟩ | ⟨ad, e, _⟩; (omega); (simp [tl0] at e); (simp [tl0] at e); (simp [tl0] at e), fun ad e => (by cases e), fun ad e => (by cases e)⟩, hz.alloc _, ⟨Nat.le_refl _, Nat.le_refl _⟩, bnew kb1 _⟩
  have ew : w1.alloc (.cells #[.int .u64 0, .int .u64 0, .int .u64 0, .int .u64 0, .int .u64 0, .int .u64 0, .int .u64 0, .int .u64 0, .slice none 0 0, .slice none 0 0] 49) = w1.alloc (.cells (tvc th0.told (.slice none 0 0) (.slice none 0 0)) 49) := rfl
  rw [ew]
  have hPX : PT < w1.heap.size := hp1
  generalize w1.alloc (.cells (tvc th0.told (.slice none 0 0) (.slice none 0 0)) 49) = W3 at *
  generalize w1.heap.size = PX at *
  clear ew h1 hz kb1 hp1 hPT
  go_wp2_with fail
  go_loopg [9] n (fun gk i wr => ∃ (k : Nat) (t : Th) (L : TL) (FA : Option Addr) (fc : Nat) (HB : Option Addr) (hd : Nat), k + gk = n ∧ i = .int .i64 k ∧ Pl w wr PT PX w.heap.size #[.int .i64 k0, .int .i64 m0, .slice A0 n0 c0] t L FA fc HB hd k)
  case atStart => exact ⟨0, th0, tl0, none, 0, none, 0, by omega, rfl, hpl⟩
  case round =>
    clear hpl
    obtain ⟨k, t, L, FA, fc, HB, hd, hk, rfl, hp⟩ := hrel
    obtain ⟨ht, hx, ha, hz, hT, kb⟩ := hp
    by_cases hlt : k < n
    · obtain ⟨b, o', rfl, _, hc⟩ := hl.base toc_len (by decide) (by omega)
      obtain ⟨x, hxx⟩ : ∃ x, ops[k]? = some x := ⟨ops[k]'(by omega), List.getElem?_eq_getElem (i := k) _⟩
      have u0 : w.cell? ⟨b, o' + k * 3, none⟩ = some (.int .i64 x.k) := by have h0 := hc k x 0 _ hxx rfl; simpa [Nat.add_assoc] using h0
      have u1 : w.cell? ⟨b, o' + k * 3 + 1, none⟩ = some (.int .i64 x.n) := by have h0 := hc k x 1 _ hxx rfl; simpa [Nat.add_assoc] using h0
      have u2 : w.cell? ⟨b, o' + k * 3 + 2, none⟩ = some (.slice x.A x.rn x.rc) := by have h0 := hc k x 2 _ hxx rfl; simpa [Nat.add_assoc] using h0
      have v0 := keep_below u0 kb
      have v1 := keep_below u1 kb
      have v2 := keep_below u2 kb
      have b0 : (0 : Int) ≤ (k : Int) := by omega
      have b1 : (k : Int) < (n : Int) := by omega
      have hxm := List.mem_of_getElem? hxx
      have hxs := hop x hxm
      have HT := Lib.hid hT
      have hdo := do_any ht (hxs.below kb) (by have := ht.blk.lt; omega) (fun ad h hne => by have := hxs.rd.lt (by rw [us_map]; simpa using hne) ad h; omega) (by omega) (by omega) (by have := hrn x hxm; omega) x.k x.n
      clear hc hxx hT
      go_upto_region 11 with (go_at_call 9; refine hdo.mono ?_; rintro e w2 ⟨rfl, hgo⟩)
      obtain ⟨L2, h2, hk2, hS2⟩ := hgo
      have hSge : ∀ b, L.S PT b → PT ≤ b := fun b hb => ht.S_ge hb
      have hx2 := hx.keeps hk2 ha
      have ha2 := ha.grown hx (fun b hb => (hS2 b hb).imp id And.left)
      have hz2 := hk2.blk hz (fun hs => by have := hSge _ hs; omega)
      have kb2 := hk2.below kb kb.size (fun b hb _ => by have := hSge b hb; omega)
      have v0 := keep_below u0 kb2
      have v1 := keep_below u1 kb2
      have v2 := keep_below u2 kb2
      have h8' := h2.t8
      have hlen' := Lib.hid (doo_len t x.k x.n x.l)
      clear hdo hz kb hS2 hk2 hx ha
      have hX := @Ext.cell w2
      have hzz0 := block_lt_of_cell v0
      refine wp_region_noPanic ?_
      refine wp_region_last (fun w' => ∃ x : Ext w2, w' = x.w) 6 (PG.one [0, 1, 2, 3, 4] 5 (PG.fin [])) (by kernel_rfl) (by kernel_rfl) (by kernel_rfl) (fun _ _ _ _ _ h => h) ⟨⟨_, (brefl w2).drew⟩, rfl⟩ ?_
      refine wpG_one ?_
      simp only [pickOps, List.getElem?_cons_succ, List.getElem?_cons_zero, Option.elim_some]
      refine wpQuiet_load_row rfl 49 (.tmp 8) rfl PX rfl 49 _ _ (blk_ext hx2.b) Try.underlying49 rfl (by rw [tvc_size ht.t8]; exact info_T) ?_; simp only [Act.put, List.setIfInBounds_toArray, List.set_cons_succ, List.set_cons_zero]
      go_big_quiet_step (fail)
      go_big_quiet_step (fail)
      go_big_quiet_step (fail)
      go_big_quiet_step (fail)
      refine wpQuiet_nil ?_
      refine planAct_some (fun K hK => ?_)
      go_simp
      refine (rdo_any t ht.t8 ht.r16 (hx2.f.below (brefl w2).drew) (hx2.h.below (brefl w2).drew) ((hxs.below kb2).below (brefl w2).drew) (by have := HT.out.1; omega) (by have := HT.out.2; omega) (by have := hrn x hxm; omega) hx2.lf hx2.lh (fun ad h hne => by have h1 := hxs.rd.lt (by rw [us_map]; simpa using hne) ad h; have h2 := kb2.size; show ad.block < w2.heap.size; omega) x.k x.n).mono ?_
      rintro e w3 ⟨FA3, fc3, HB3, hd3, rfl, f3, h3, nF3, nH3, hb3⟩
      have hb23 : Below w2.heap.size w2 w3 := of_drew hb3
      have hbx3 := hx2.b.below_ hb23
      go_wp2_with fail
      refine hK.out _ _ ⟨⟨_, hb23⟩, rfl⟩ ?_
      clear hK K
      refine wpG_fin ?_
      simp only [pickOps, List.getElem?_cons_succ, List.getElem?_cons_zero, Option.elim_some]
      repeat (go_big_quiet_step (fail))
      refine wpQuiet_nil ?_
      refine lastG_some (fun K hK => ?_)
      refine act_store_row rfl 49 (.tmp 8) (.tmp 40) rfl PX _ rfl rfl 49 _ hbx3 (by rw [tvc_size h8']; exact info_T) (by rw [tvc_size h8', tvc_size ht.t8]) (tvc_one _ _ _ _ _ _ _) ?_
      refine hK.out _ _ ?_
      clear hK K
      refine NoPanic.normal ?_
      clear hX hzz0
      have hT3 := h2.below hb23
      have ha3 : Apt (L2.S PT) PX FA3 HB3 := ha2.new (w := w2.drew) (fun b hb => h2.S_lt hb) hx2.b.lt nF3 nH3
      have hk4 := keeps_row w3 PX (tvc (t.doo x.k x.n x.l).told (.slice FA3 (t.doo x.k x.n x.l).frames.length fc3) (.slice HB3 (t.doo x.k x.n x.l).hs.length hd3))
      have hp4 : Pl w (w3.setRow PX (tvc (t.doo x.k x.n x.l).told (.slice FA3 (t.doo x.k x.n x.l).frames.length fc3) (.slice HB3 (t.doo x.k x.n x.l).hs.length hd3))) PT PX w.heap.size #[.int .i64 k0, .int .i64 m0, .slice A0 n0 c0] (t.doo x.k x.n x.l) L2 FA3 fc3 HB3 hd3 (k + 1) :=
        ⟨hT3.keeps hk4 (fun b hb e => ha3.nq (e ▸ hb)), XBox.store hbx3 f3 h3 ha3 (New.lt nF3 hb3.size hx2.lf) (New.lt nH3 hb3.size hx2.lh), ha3, hk4.blk (hz2.below_ hb23) (by omega), ⟨by have := hlen'.out.1; have := HT.out.1; omega, by have h9 := hlen'.out.2; have := HT.out.2; split at h9 <;> omega⟩, hk4.below (bnext kb2 hb23) (by have := kb2.size; have := hb23.size; omega) (fun b e _ => by omega)⟩
      generalize w3.setRow PX (tvc (t.doo x.k x.n x.l).told (.slice FA3 (t.doo x.k x.n x.l).frames.length fc3) (.slice HB3 (t.doo x.k x.n x.l).hs.length hd3)) = W4 at *
      clear hT3 ha3 hk4 hbx3 hb23 hb3 f3 h3 nF3 nH3 hx2 ha2 hz2 kb2 v0 v1 v2 u0 u1 u2 h8' h2 ht hxs hlen'
      generalize t.doo x.k x.n x.l = t4 at *
      obtain ⟨ht4, hx4, ha4, hz4, hT4, kb4⟩ := hp4
      obtain ⟨b0, b1', b2, b3, b4, b5, b6, b7, htold⟩ := len8 ht4.t8
      have hsm := fun (W : World) (hT : TBox W PT PT t4 L2) (hX : XBox W PX t4 FA3 fc3 HB3 hd3) (N : Int) (hN : -9223372036854775808 ≤ N ∧ N ≤ 9223372036854775807) => same_x hT hX (by have := hT4.1; omega) (by have := hT4.2; omega) hN
      have hbE := hx4.b
      simp only [htold, tvc, List.map_cons, List.map_nil, uc, List.cons_append, List.nil_append] at hsm hbE
      have y0 : W4.cell? ⟨PX, 0, none⟩ = some (.int .u64 b0) := hbE.cell 0
      have y1 : W4.cell? ⟨PX, 1, none⟩ = some (.int .u64 b1') := hbE.cell 1
      have y2 : W4.cell? ⟨PX, 2, none⟩ = some (.int .u64 b2) := hbE.cell 2
      have y3 : W4.cell? ⟨PX, 3, none⟩ = some (.int .u64 b3) := hbE.cell 3
      have y4 : W4.cell? ⟨PX, 4, none⟩ = some (.int .u64 b4) := hbE.cell 4
      have y5 : W4.cell? ⟨PX, 5, none⟩ = some (.int .u64 b5) := hbE.cell 5
      have y6 : W4.cell? ⟨PX, 6, none⟩ = some (.int .u64 b6) := hbE.cell 6
      have y7 : W4.cell? ⟨PX, 7, none⟩ = some (.int .u64 b7) := hbE.cell 7
      have y8 : W4.cell? ⟨PX, 8, none⟩ = some (.slice FA3 t4.frames.length fc3) := hbE.cell 8
      have y9 : W4.cell? ⟨PX, 9, none⟩ = some (.slice HB3 t4.hs.length hd3) := hbE.cell 9
      have hzX := hbE.lt
      have hl4 : t4.hs.length ≤ 1000 := by have := hT4.2; omega
      clear htold hbE
      go_wp2_with fail
      refine (hsm _ ht4 hx4 nn hnn).mono ?_
      rintro e w5 ⟨rfl, hb5⟩
      have y0 := keep_below y0 hb5
      have y1 := keep_below y1 hb5
      have y2 := keep_below y2 hb5
      have y3 := keep_below y3 hb5
      have y4 := keep_below y4 hb5
      have y5 := keep_below y5 hb5
      have y6 := keep_below y6 hb5
      have y7 := keep_below y7 hb5
      have y8 := keep_below y8 hb5
      have y9 := keep_below y9 hb5
      have hzX := block_lt_of_cell y0
      go_wp2_with fail
      refine (hsm _ (ht4.below hb5) (hx4.below hb5) (t4.hs.length : Int) (by omega)).mono ?_
      rintro e w6 ⟨rfl, hb6⟩
      go_wp2_with fail
      go_roundg (gk - 1)
      case measure => omega
      case rel => exact ⟨k + 1, t4, L2, FA3, fc3, HB3, hd3, by omega, by go_num, Pl.below ⟨ht4, hx4, ha4, hz4, hT4, kb4⟩ (bnext hb5 hb6)⟩
    · have hge : ¬ ((k : Int) < (n : Int)) := by omega
      have c8 := ht.c8
      have f8 := ht.blk.frozen 8
      have hzp := ht.blk.lt
      go_upto_region 15 with (fail)
      have hk5 : Keeps (L.S PT) wr (wr.setCell ⟨PT, 8, none⟩ (.int .i64 3)) := (keepq_set (Keeps.refl (fun b => b = PT) wr)).mono fun b e _ => .inl e
      have h5 : TBox (wr.setCell ⟨PT, 8, none⟩ (.int .i64 3)) PT PT { t with owns := 3 } L := ht.setp 8 _ _ (thc_owns ht.t8 _) rfl rfl ht.t8
      have hx5 := hx.keeps hk5 ha
      have hx5 : XBox (wr.setCell ⟨PT, 8, none⟩ (.int .i64 3)) PX { t with owns := 3 } FA fc HB hd := ⟨hx5.b, hx5.f, hx5.h, hx5.lf, hx5.lh⟩
      have hz5 := hk5.blk hz (fun hs => by have := ht.S_ge hs; omega)
      have kb5 := hk5.below kb kb.size (fun b hb _ => by have := ht.S_ge hb; omega)
      have hT5 : ({ t with owns := 3 } : Th).frames.length ≤ 80 ∧ ({ t with owns := 3 } : Th).hs.length ≤ 80 := ⟨by show t.frames.length ≤ 80; omega, by show t.hs.length ≤ 80; omega⟩
      have ho5 : ({ t with owns := 3 } : Th).owns = 3 := rfl
      generalize wr.setCell ⟨PT, 8, none⟩ (.int .i64 3) = W5 at *
      generalize ({ t with owns := 3 } : Th) = t5 at *
      clear hk5 hx hz kb hT ht c8 f8 hzp hge hlt
      have hcl := clone_any h5 (by omega) (by omega)
      go_upto_region 16 with (go_at_call 18; refine hcl.mono ?_; rintro e w6 ⟨rfl, ⟨LC, hC⟩, hb6⟩)
      obtain ⟨b0, b1, b2, b3, b4, b5, b6, b7, htold⟩ := len8 h5.t8
      have hx6 := hx5.below hb6
      have hz6 := hz5.below_ hb6
      have kb6 := bnext kb5 hb6
      have h6 := h5.below hb6
      have hPXc : PX < W5.heap.size := hx5.b.lt
      have hPTc : ∀ b, L.S PT b → b < W5.heap.size := fun b hb => h5.S_lt hb
      have hlf := hx5.lf
      have hlh := hx5.lh
      have hzc := hz5.lt
      have hWw := kb5.size
      clear hcl hb6 hx5 hz5 kb5 h5
      generalize W5.heap.size = PC at *
      have hsm := fun (W : World) (base p : Nat) (L : TL) (hT : TBox W base p t5 L) (hX : XBox W PX t5 FA fc HB hd) => same_x hT hX (by omega) (by omega) hnn
      have hbE := hx6.b
      simp only [htold, tvc, List.map_cons, List.map_nil, uc, List.cons_append, List.nil_append] at hsm hbE
      have y0 : w6.cell? ⟨PX, 0, none⟩ = some (.int .u64 b0) := hbE.cell 0
      have y1 : w6.cell? ⟨PX, 1, none⟩ = some (.int .u64 b1) := hbE.cell 1
      have y2 : w6.cell? ⟨PX, 2, none⟩ = some (.int .u64 b2) := hbE.cell 2
      have y3 : w6.cell? ⟨PX, 3, none⟩ = some (.int .u64 b3) := hbE.cell 3
      have y4 : w6.cell? ⟨PX, 4, none⟩ = some (.int .u64 b4) := hbE.cell 4
      have y5 : w6.cell? ⟨PX, 5, none⟩ = some (.int .u64 b5) := hbE.cell 5
      have y6 : w6.cell? ⟨PX, 6, none⟩ = some (.int .u64 b6) := hbE.cell 6
      have y7 : w6.cell? ⟨PX, 7, none⟩ = some (.int .u64 b7) := hbE.cell 7
      have y8 : w6.cell? ⟨PX, 8, none⟩ = some (.slice FA t5.frames.length fc) := hbE.cell 8
      have y9 : w6.cell? ⟨PX, 9, none⟩ = some (.slice HB t5.hs.length hd) := hbE.cell 9
      have hzX := hbE.lt
      go_wp2_with fail
      refine (hsm _ _ _ _ hC hx6).mono ?_
      rintro e w7 ⟨rfl, hb7⟩
      have hx7 := hx6.below hb7
      have hz7 := hz6.below_ hb7
      have kb7 := bnext kb6 hb7
      have h7 := h6.below hb7
      have hC7 := hC.below hb7
      have c8 := hC7.c8
      rw [ho5] at c8
      have z0 : w7.cell? ⟨w.heap.size, 0, none⟩ = some (.int .i64 k0) := hz7.cell 0
      have z1 : w7.cell? ⟨w.heap.size, 1, none⟩ = some (.int .i64 m0) := hz7.cell 1
      have z2 : w7.cell? ⟨w.heap.size, 2, none⟩ = some (.slice A0 n0 c0) := hz7.cell 2
      have hdo := do_any hC7 (ho.below kb7) (by have := hC7.blk.lt; omega) (fun ad h hne => by have := ho.rd.lt (by rw [us_map]; simpa using hne) ad h; omega) (by omega) (by omega) (by omega) k0 m0
      clear hx6 hz6 kb6 h6 hC hb7 y0 y1 y2 y3 y4 y5 y6 y7 y8 y9 hbE
      go_upto_region 19 with (go_at_call 9; refine hdo.mono ?_; rintro e w8 ⟨rfl, hgo⟩)
      obtain ⟨L8, h8, hk8, _⟩ := hgo
      have hSge : ∀ b, LC.S PC b → PC ≤ b := fun b hb => hC7.S_ge hb
      have haC : Apt (LC.S PC) PX FA HB := ⟨fun s => by have := hSge _ s; omega, fun ad e => ⟨fun s => by have := hSge _ s; have := hlf ad e; omega, (ha.f ad e).2⟩, fun ad e => ⟨fun s => by have := hSge _ s; have := hlh ad e; omega, (ha.h ad e).2⟩⟩
      have hx8 := hx7.keeps hk8 haC
      have hz8 := hk8.blk hz7 (fun s => by have := hSge _ s; omega)
      have kb8 := hk8.below kb7 kb7.size (fun b hb _ => by have := hSge b hb; omega)
      have ht8 := h7.keeps hk8 (fun b hb s => by have := hSge b s; have := hPTc b hb; omega)
      have hdl := Lib.hid (doo_len t5 k0 m0 l0)
      clear hdo hx7 hz7 kb7 h7 hC7 c8 z0 z1 z2 hk8
      have z0 : w8.cell? ⟨w.heap.size, 0, none⟩ = some (.int .i64 k0) := hz8.cell 0
      have z1 : w8.cell? ⟨w.heap.size, 1, none⟩ = some (.int .i64 m0) := hz8.cell 1
      have z2 : w8.cell? ⟨w.heap.size, 2, none⟩ = some (.slice A0 n0 c0) := hz8.cell 2
      have hrd := rdo_any t5 ht8.t8 ht8.r16 hx8.f hx8.h (ho.below kb8) (by omega) (by omega) (by omega) hx8.lf hx8.lh (fun ad h hne => by have h1 := ho.rd.lt (by rw [us_map]; simpa using hne) ad h; have h2 := kb8.size; omega) k0 m0
      have hbE := hx8.b
      simp only [htold, tvc, List.map_cons, List.map_nil, uc, List.cons_append, List.nil_append] at hbE
      rw [htold] at hrd
      have etv : tvc [b0, b1, b2, b3, b4, b5, b6, b7] (.slice FA t5.frames.length fc) (.slice HB t5.hs.length hd) = #[.int .u64 b0, .int .u64 b1, .int .u64 b2, .int .u64 b3, .int .u64 b4, .int .u64 b5, .int .u64 b6, .int .u64 b7, .slice FA t5.frames.length fc, .slice HB t5.hs.length hd] := rfl
      rw [etv] at hrd
      have y0 : w8.cell? ⟨PX, 0, none⟩ = some (.int .u64 b0) := hbE.cell 0
      have y1 : w8.cell? ⟨PX, 1, none⟩ = some (.int .u64 b1) := hbE.cell 1
      have y2 : w8.cell? ⟨PX, 2, none⟩ = some (.int .u64 b2) := hbE.cell 2
      have y3 : w8.cell? ⟨PX, 3, none⟩ = some (.int .u64 b3) := hbE.cell 3
      have y4 : w8.cell? ⟨PX, 4, none⟩ = some (.int .u64 b4) := hbE.cell 4
      have y5 : w8.cell? ⟨PX, 5, none⟩ = some (.int .u64 b5) := hbE.cell 5
      have y6 : w8.cell? ⟨PX, 6, none⟩ = some (.int .u64 b6) := hbE.cell 6
      have y7 : w8.cell? ⟨PX, 7, none⟩ = some (.int .u64 b7) := hbE.cell 7
      have y8 : w8.cell? ⟨PX, 8, none⟩ = some (.slice FA t5.frames.length fc) := hbE.cell 8
      have y9 : w8.cell? ⟨PX, 9, none⟩ = some (.slice HB t5.hs.length hd) := hbE.cell 9
      have hzX := hbE.lt
      clear etv hbE
      go_wp2_with fail
      refine hrd.mono ?_
      rintro e w9 ⟨F9, fc9, H9, hd9, rfl, f9, s9, _, _, hb9⟩
      have hsc := same_w (h8.below hb9) f9 s9 (by have := hdl.out.1; omega) (by have := hdl.out.2; split at this <;> omega) nn (nn != 0) rfl (wrap_ne hnn)
      have y0 := keep_below y0 hb9
      have y1 := keep_below y1 hb9
      have y2 := keep_below y2 hb9
      have y3 := keep_below y3 hb9
      have y4 := keep_below y4 hb9
      have y5 := keep_below y5 hb9
      have y6 := keep_below y6 hb9
      have y7 := keep_below y7 hb9
      have y8 := keep_below y8 hb9
      have y9 := keep_below y9 hb9
      have hzX := block_lt_of_cell y0
      clear hrd z0 z1 z2
      go_wp2_with fail
      refine hsc.mono ?_
      rintro e w10 ⟨rfl, hb10⟩
      have y0 := keep_below y0 hb10
      have y1 := keep_below y1 hb10
      have y2 := keep_below y2 hb10
      have y3 := keep_below y3 hb10
      have y4 := keep_below y4 hb10
      have y5 := keep_below y5 hb10
      have y6 := keep_below y6 hb10
      have y7 := keep_below y7 hb10
      have y8 := keep_below y8 hb10
      have y9 := keep_below y9 hb10
      have hzX := block_lt_of_cell y0
      go_wp2_with fail
      refine (hsm _ _ _ _ (ht8.below (bnext hb9 hb10)) (hx8.below (bnext hb9 hb10))).mono ?_
      rintro e w11 ⟨rfl, hb11⟩
      go_wp2_with fail
      refine (lives20 _).mono ?_
      rintro e w12 ⟨rfl, hb12⟩
      go_wp2_with fail
      go_ret
      exact ⟨rfl, bnext kb8 (bnext (bnext (bnext hb9 hb10) hb11) hb12)⟩
end Go.Proofs.Ytclhlgeicfhdiaa
