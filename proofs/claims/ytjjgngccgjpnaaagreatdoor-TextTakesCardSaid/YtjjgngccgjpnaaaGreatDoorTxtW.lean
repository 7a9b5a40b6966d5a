/- A configuration of words, by the document. -/
import Derived.Test.YtjjgngccgjpnaaaGreatDoorTxtTM
import Derived.Lib.MinMax
namespace Go.Proofs.YtjjgngccgjpnaaaGreatDoor
set_option linter.unusedVariables false
set_option linter.unusedSimpArgs false
open Go.RowKit

def RConfR (w : World) (ws : Wd) (e : Ending) (w' : World) : Prop := Below w.heap.size w w' ∧ match rConf ws with
  | none => e = .returned (.tuple #[.agg #[.int .i64 0, .int .i64 0, .int .i64 0, .int .i64 0, .int .i64 0, .int .i64 0, .int .i64 0, .int .i64 0, .int .i64 0, .int .i64 0, .int .i64 0, .int .i64 0, .int .i64 0, .int .i64 0], .bool false])
  | some c => e = .returned (.tuple #[.agg (cfc c).toArray, .bool true])
theorem cfc_one (c : Cf) : (cfc c).toArray.all (·.oneCell') = true := by
  rw [Array.all_eq_true_iff_forall_mem]
  intro v hv
  have hv : v ∈ cfc c := by simpa using hv
  unfold cfc at hv
  simp only [List.mem_cons, List.not_mem_nil, or_false] at hv
  rcases hv with rfl | rfl | rfl | rfl | rfl | rfl | rfl | rfl | rfl | rfl | rfl | rfl | rfl | rfl <;> rfl
theorem results_two {fn : Func} {p q : Tmp} {tmps : Array Value} {w : World} {a : Nat} {cs : Array Value} {x : Value} (h : fn.results = #[.cell p 25, .tmp q]) (h1 : tmps.getD p undef = .pointer (some ⟨a, 0, none⟩)) (h2 : tmps.getD q undef = x) (ha : Blk w a 25 cs) (hs : (Tryz.prog.info? 25).map (·.size) = some cs.size) : (results fn tmps).run Tryz.prog w = .ok (.tuple #[.agg cs, x]) w := by
  have h1' : tmps[p]?.getD undef = .pointer (some ⟨a, 0, none⟩) := by simpa using h1
  have h2' : tmps[q]?.getD undef = x := by simpa using h2
  have hl := run_loadVar_row w a 25 25 cs (0, 0) _ ha Tryz.underlying25 rfl hs
  simp [results, h, h1', h2', asAddr, hl]
set_option maxHeartbeats 4000000 in
set_option maxRecDepth 100000 in
theorem rconf_any {w : World} {A : Option Addr} {n c : Nat} {ws : Wd} (h : Sl strc w A n c ws) (hn : n ≤ 1000001) (hl : ∀ x, x ∈ ws → x.length ≤ 1000000) : Calls Tryz.prog 32 #[.slice A n c] w (RConfR w ws) := by
  obtain ⟨a, ha⟩ : ∃ a, w.heap.size = a := ⟨_, rfl⟩
  have hlen := Lib.hid h.len
  have hcap := h.cap
  have HS := Lib.hid h
  have HLW := Lib.hid hl
  clear h hl
  go_enter Tryz.func32, Tryz.ntmps32
  go_upto_region 2 with (fail)
  obtain ⟨W0, hW0, A0, B0, k0, z0⟩ : ∃ W0, (w.alloc (.cells #[.int .i64 0, .int .i64 0, .int .i64 0, .int .i64 0, .int .i64 0, .int .i64 0, .int .i64 0, .int .i64 0, .int .i64 0, .int .i64 0, .int .i64 0, .int .i64 0, .int .i64 0, .int .i64 0] 25)).alloc (.cells #[.int .i64 0, .int .i64 0, .int .i64 0, .int .i64 0, .int .i64 0, .int .i64 0, .int .i64 0, .int .i64 0, .int .i64 0, .int .i64 0, .int .i64 0, .int .i64 0, .int .i64 0, .int .i64 0] 25) = W0 ∧ Blk W0 a 25 #[.int .i64 0, .int .i64 0, .int .i64 0, .int .i64 0, .int .i64 0, .int .i64 0, .int .i64 0, .int .i64 0, .int .i64 0, .int .i64 0, .int .i64 0, .int .i64 0, .int .i64 0, .int .i64 0] ∧ Blk W0 (a + 1) 25 #[.int .i64 0, .int .i64 0, .int .i64 0, .int .i64 0, .int .i64 0, .int .i64 0, .int .i64 0, .int .i64 0, .int .i64 0, .int .i64 0, .int .i64 0, .int .i64 0, .int .i64 0, .int .i64 0] ∧ Below w.heap.size w W0 ∧ W0.heap.size = a + 2 := by
    have h1 := Blk.new w 25 #[.int .i64 0, .int .i64 0, .int .i64 0, .int .i64 0, .int .i64 0, .int .i64 0, .int .i64 0, .int .i64 0, .int .i64 0, .int .i64 0, .int .i64 0, .int .i64 0, .int .i64 0, .int .i64 0]
    have h2 := Blk.new (w.alloc (.cells #[.int .i64 0, .int .i64 0, .int .i64 0, .int .i64 0, .int .i64 0, .int .i64 0, .int .i64 0, .int .i64 0, .int .i64 0, .int .i64 0, .int .i64 0, .int .i64 0, .int .i64 0, .int .i64 0] 25)) 25 #[.int .i64 0, .int .i64 0, .int .i64 0, .int .i64 0, .int .i64 0, .int .i64 0, .int .i64 0, .int .i64 0, .int .i64 0, .int .i64 0, .int .i64 0, .int .i64 0, .int .i64 0, .int .i64 0]
    simp only [World.size_alloc, ha] at h1 h2
    exact ⟨_, rfl, h1.alloc _, h2, bnew (bnew (brefl w) _) _, by simp [ha]⟩
  rw [hW0]
  clear hW0
  have HA := Lib.hid A0
  have HB := Lib.hid B0
  clear A0 B0
  by_cases h7 : n < 7
  · have hE : Hid (rConf ws = none) := by rw [Hid, rConf, if_neg (fun q => by have := hlen.out; omega)]
    have t0 : (n : Int) < 7 := by omega
    have tok1 : True := trivial; have tok2 : True := trivial
    go_wp2_with (first | (have _t := tok1; refine wpList_load_row (o := ⟨some 19, _, _, _, _, _⟩) rfl 25 (.tmp 4) rfl (a + 1) rfl 25 _ _ _ HB.out Tryz.underlying25 rfl (by kernel_rfl) ?_; clear tok1 _t) | (have _t := tok2; refine wpList_store_row (o := ⟨none, .store 25 (.tmp 2) (.tmp 19), _, _, _, _⟩) rfl 25 (.tmp 2) (.tmp 19) rfl a _ rfl rfl 25 _ HA.out (by kernel_rfl) (by simp) (by simp [Value.oneCell']) ?_; clear tok2 _t))
    have kr := keeps_row W0 a #[.int .i64 0, .int .i64 0, .int .i64 0, .int .i64 0, .int .i64 0, .int .i64 0, .int .i64 0, .int .i64 0, .int .i64 0, .int .i64 0, .int .i64 0, .int .i64 0, .int .i64 0, .int .i64 0]
    exact bodyPost_ret (results_two Tryz.results32 rfl rfl (HA.out.row _) (by kernel_rfl)) rfl (R := RConfR w ws) ⟨kr.below k0 (by omega) (fun x e _ => by have e' : x = a := e; omega), by rw [hE.out]; rfl⟩
  · obtain ⟨f, hf⟩ : ∃ f, ws[0]? = some f := ⟨_, List.getElem?_eq_getElem (by rw [hlen.out]; omega)⟩
    obtain ⟨b, o', rfl, hbb, hcc⟩ := HS.out.base strc_len (by decide) (by omega)
    have hc0 : W0.cell? ⟨b, o', none⟩ = some (.string (bstr f)) := keep_below (by
      have := hcc 0 f 0 _ hf rfl
      rwa [Nat.zero_mul, Nat.zero_add, Nat.add_zero] at this) k0
    have hzb := block_lt_of_cell hc0
    have t0 : decide ((n : Int) < 7) = false := decide_eq_false (by omega)
    have i1 : (0 : Int) < (n : Int) := by omega
    clear hcc
    have ef : (bstr f).toList = f := ByteArray.toList_eq _
    by_cases hfc : f = confB
    · have hfb : ((bstr f).toList == [99, 111, 110, 102]) = true := by rw [ef, hfc]; rfl
      have hlt : n ≤ c := hcap
      have HS1 : Hid (Sl strc W0 (some ⟨b, o' + 1, none⟩) (n - 1) (c - 1) (ws.drop 1)) := by
        have := (HS.out.below k0).from_ strc_len (k := 1) (by omega)
        rw [if_neg (by omega)] at this
        have e : (Option.map (fun x => x.add (1 * 1)) (some (⟨b, o', none⟩ : Addr))) = some ⟨b, o' + 1, none⟩ := by simp [Addr.add]
        rw [e] at this
        exact this
      have hcn := Lib.hid (rnumbers_any HS1.out (by omega) (fun x hx => HLW.out x (List.mem_of_mem_drop hx)))
      have hE0 : Hid (rConf ws = (numsI (ws.drop 1)).bind fun ns => if ns.getD 1 0 ≤ 8 ∧ (ns.length : Int) = 6 + max 0 (ns.getD 1 0) then some (cfAll ns) else none) := by rw [Hid, rConf, if_pos ⟨by rw [hlen.out]; omega, by rw [hf, hfc]⟩]
      obtain ⟨S, hS⟩ : ∃ S, bstr f = S := ⟨_, rfl⟩
      rw [hS] at hfb hc0
      have cn1 : (n : Int) - 1 = ((n - 1 : Nat) : Int) := by omega
      clear ef hf hfc hS
      cases hns : numsI (ws.drop 1) with
      | none =>
        have hE : Hid (rConf ws = none) := by rw [Hid, hE0.out, hns]; rfl
        have hc1 : Hid (Calls Tryz.prog 68 #[.slice (some ⟨b, o' + 1, none⟩) (n - 1) (c - 1)] W0 fun e w' => Below W0.heap.size W0 w' ∧ e = .returned (.tuple #[.slice none 0 0, .bool false])) := hcn.out.mono fun e w' q => by
          have q1 := q.1
          have q2 := q.2
          rw [hns] at q2
          exact ⟨q1, q2⟩
        clear hcn hns hE0
        have tok1 : True := trivial; have tok2 : True := trivial
        go_wp2_with (first | (go_at_call 68; refine hc1.out.mono ?_; rintro e w1 ⟨hb1, rfl⟩; have A1 := HA.out.below_ hb1; have B1 := HB.out.below_ hb1) | (have _t := tok1; refine wpList_load_row (o := ⟨some 44, _, _, _, _, _⟩) rfl 25 (.tmp 4) rfl (a + 1) rfl 25 _ _ _ B1 Tryz.underlying25 rfl (by kernel_rfl) ?_; clear tok1 _t) | (have _t := tok2; refine wpList_store_row (o := ⟨none, .store 25 (.tmp 2) (.tmp 44), _, _, _, _⟩) rfl 25 (.tmp 2) (.tmp 44) rfl a _ rfl rfl 25 _ A1 (by kernel_rfl) (by simp) (by simp [Value.oneCell']) ?_; clear tok2 _t))
        have kr := keeps_row w1 a #[.int .i64 0, .int .i64 0, .int .i64 0, .int .i64 0, .int .i64 0, .int .i64 0, .int .i64 0, .int .i64 0, .int .i64 0, .int .i64 0, .int .i64 0, .int .i64 0, .int .i64 0, .int .i64 0]
        exact bodyPost_ret (results_two Tryz.results32 rfl rfl (A1.row _) (by kernel_rfl)) rfl (R := RConfR w ws) ⟨kr.below (bnext k0 hb1) (by have := hb1.size; omega) (fun x e _ => by have e' : x = a := e; omega), by rw [hE.out]; rfl⟩
      | some ns =>
        obtain ⟨N, hN⟩ : ∃ N, ns.length = N := ⟨_, rfl⟩
        have hNn : N = n - 1 := by rw [← hN, (numsI_some hns).1, List.length_drop, hlen.out]
        obtain ⟨th, hth⟩ : ∃ th, ns.getD 1 0 = th := ⟨_, rfl⟩
        have hthi : I64 th := by
          have h1 := getD_ns (ns := ns) (k := 1) (by omega)
          rw [(numsI_some hns).2, hth] at h1
          obtain ⟨x, _, hx⟩ := Option.bind_eq_some_iff.1 h1
          exact refI_i hx
        have hc1 : Hid (Calls Tryz.prog 68 #[.slice (some ⟨b, o' + 1, none⟩) (n - 1) (c - 1)] W0 fun e w' => Below W0.heap.size W0 w' ∧ ∃ g d, e = .returned (.tuple #[.slice (some ⟨g, 0, none⟩) N d, .bool true]) ∧ W0.heap.size ≤ g ∧ N ≤ d ∧ ∀ (k : Nat) (v : Int), ns[k]? = some v → w'.cell? ⟨g, k, none⟩ = some (.int .i64 v)) := hcn.out.mono fun e w' q => by
          have q1 := q.1
          have q2 := q.2
          rw [hns] at q2
          obtain ⟨A', d, he, own⟩ := q2
          rw [hN] at he own
          have hnd := (Sl.of_own ic_len (by decide) own).cap
          obtain ⟨g, rfl, hg1, hg2, hgf, hgc⟩ := own_form1 own (by omega)
          refine ⟨q1, g, d, he, hg1, hnd, fun k v hk => hgc k _ ?_⟩
          have := flat_get ic_len ns k 0 v (.int .i64 v) hk rfl
          rwa [Nat.mul_one, Nat.add_zero] at this
        have hE1 : Hid (rConf ws = if th ≤ 8 ∧ (N : Int) = 6 + max 0 th then some (cfAll ns) else none) := by rw [Hid, hE0.out, hns, Option.bind_some, hth, hN]
        have hgn : Hid (∀ k : Nat, k < N → ns[k]? = some (ns.getD k 0)) := fun k hk => getD_ns (by omega)
        have HTH := Lib.hid hth
        have HNN := Lib.hid hN
        unfold I64 at hthi
        have hN6 : 6 ≤ N := by omega
        have hN7 : N ≤ 1000001 := by omega
        clear hcn hns hE0 hN hNn
        by_cases h8 : 8 < th
        · have hE : Hid (rConf ws = none) := by rw [Hid, hE1.out, if_neg (fun q => by omega)]
          clear hE1
          have tok1 : True := trivial; have tok2 : True := trivial
          go_wp2_with (first | (go_at_call 68; refine hc1.out.mono ?_; rintro e w1 ⟨hb1, g, d, rfl, hg1, hd1, hci⟩; have A1 := HA.out.below_ hb1; have B1 := HB.out.below_ hb1; have q1 : w1.cell? ⟨g, 1, none⟩ = some (.int .i64 th) := (by rw [← HTH.out]; exact hci 1 _ (hgn.out 1 (by omega))); have z1 := block_lt_of_cell q1; have HCI := Lib.hid hci; clear hci) | (have _t := tok1; refine wpList_load_row (o := ⟨some 44, _, _, _, _, _⟩) rfl 25 (.tmp 4) rfl (a + 1) rfl 25 _ _ _ B1 Tryz.underlying25 rfl (by kernel_rfl) ?_; clear tok1 _t) | (have _t := tok2; refine wpList_store_row (o := ⟨none, .store 25 (.tmp 2) (.tmp 44), _, _, _, _⟩) rfl 25 (.tmp 2) (.tmp 44) rfl a _ rfl rfl 25 _ A1 (by kernel_rfl) (by simp) (by simp [Value.oneCell']) ?_; clear tok2 _t))
          have kr := keeps_row w1 a #[.int .i64 0, .int .i64 0, .int .i64 0, .int .i64 0, .int .i64 0, .int .i64 0, .int .i64 0, .int .i64 0, .int .i64 0, .int .i64 0, .int .i64 0, .int .i64 0, .int .i64 0, .int .i64 0]
          exact bodyPost_ret (results_two Tryz.results32 rfl rfl (A1.row _) (by kernel_rfl)) rfl (R := RConfR w ws) ⟨kr.below (bnext k0 hb1) (by have := hb1.size; omega) (fun x e _ => by have e' : x = a := e; omega), by rw [hE.out]; rfl⟩
        · obtain ⟨t, ht⟩ : ∃ t : Nat, max 0 th = (t : Int) := ⟨(max 0 th).toNat, by omega⟩
          have t8 : decide ((8 : Int) < th) = false := decide_eq_false (by omega)
          have ht8 : t ≤ 8 := by omega
          have hmx : ∀ ts ty W, (Builtin.max_ ts ty #[.int .i64 0, .int .i64 th]).run Tryz.prog W = .ok (.int .i64 (t : Int)) W := fun ts ty W => by rw [← ht]; exact Lib.run_max_ints W ts ty .i64 .i64 0 th
          have c6 : IntKind.i64.wrap (6 + (t : Int)) = 6 + (t : Int) := IntWalk.i64_in _ (by omega)
          by_cases hNt : N = 6 + t
          · subst hNt
            have hE : Hid (rConf ws = some (cfAll ns)) := by rw [Hid, hE1.out, if_pos ⟨by omega, by omega⟩]
            have c4 : IntKind.i64.wrap (6 + (t : Int) - 4) = 2 + (t : Int) := by rw [IntWalk.i64_in _ (by omega)]; omega
            have HT := Lib.hid ht
            have HMX : Hid (∀ k : Nat, k < t → (k : Int) < th) := fun k hk => by omega
            have HEX : Hid (decide ((t : Int) < th) = false) := decide_eq_false (by omega)
            clear hE1 ht
            go_upto_region 8 with ((go_at_call 68; refine hc1.out.mono ?_; rintro e w1 ⟨hb1, g, d, rfl, hg1, hd1, hci⟩; have A1 := HA.out.below_ hb1; have B1 := HB.out.below_ hb1; have q1 : w1.cell? ⟨g, 1, none⟩ = some (.int .i64 th) := (by rw [← HTH.out]; exact hci 1 _ (hgn.out 1 (by omega))); have z1 := block_lt_of_cell q1; have HCI := Lib.hid hci; clear hci))
            go_loopg [7] t (fun gk s7 wr => ∃ (k : Nat) (c' : Cf), k + gk = t ∧ s7 = .int .i64 k ∧ Blk wr (a + 1) 25 (cfc c').toArray ∧ Keeps (fun b => b = a + 1) w1 wr ∧ Hid (cfFrom t 0 cf0 ns = cfFrom gk k c' ns))
            case atStart => exact ⟨0, cf0, by omega, rfl, B1, Keeps.refl _ _, rfl⟩
            case round =>
              obtain ⟨k, c', hk, rfl, Br, kk, ho⟩ := hrel
              have hza : W0.heap.size = a + 2 := z0
              have q1' := kk.cell q1 (by omega)
              by_cases hlt : k < t
              · obtain ⟨gg, rfl⟩ : ∃ gg, gk = gg + 1 := ⟨gk - 1, by omega⟩
                have i2 := HMX.out k hlt
                have i3 : (0 : Int) ≤ (k : Int) := by omega
                have i4 : (k : Int) < 8 := by omega
                have j0 : (0 : Int) ≤ 2 + (k : Int) := by omega
                have j1 : 2 + (k : Int) < 6 + (t : Int) := by omega
                have j2 : (2 + (k : Int)).toNat = 2 + k := by omega
                have c2 : IntKind.i64.wrap (2 + (k : Int)) = 2 + (k : Int) := IntWalk.i64_in _ (by omega)
                have ck : IntKind.i64.wrap ((k : Int) + 1) = (k : Int) + 1 := IntWalk.i64_in _ (by omega)
                have qk : wr.cell? ⟨g, 2 + k, none⟩ = some (.int .i64 (ns.getD (2 + k) 0)) := kk.cell (HCI.out (2 + k) _ (hgn.out _ (by omega))) (by omega)
                have y0 : wr.cell? ⟨a + 1, 2 + k, none⟩ = some (.int .i64 (c'.of k)) := Br.cell_ (by rw [List.getElem?_toArray]; have := get_of (c := c') (k := k) (R := []) (by omega); rwa [List.append_nil] at this)
                have f0 := Br.frozen (2 + k)
                have zr := Br.lt
                have T5 : Hid (Blk (wr.setCell ⟨a + 1, 2 + k, none⟩ (.int .i64 (ns.getD (2 + k) 0))) (a + 1) 25 (cfc (c'.setO k (ns.getD (2 + k) 0))).toArray) := by
                  have := Br.set_ (2 + k) (.int .i64 (ns.getD (2 + k) 0))
                  rw [List.setIfInBounds_toArray] at this
                  have e := set_of (c := c') (k := k) (v := ns.getD (2 + k) 0) (R := []) (by omega)
                  rw [List.append_nil, List.append_nil] at e
                  rwa [e] at this
                have K5 : Hid (Keeps (fun b => b = a + 1) w1 (wr.setCell ⟨a + 1, 2 + k, none⟩ (.int .i64 (ns.getD (2 + k) 0)))) := kk.setCell (fun _ => rfl) _
                have HO : Hid (cfFrom t 0 cf0 ns = cfFrom gg (k + 1) (c'.setO k (ns.getD (2 + k) 0)) ns) := by rw [Hid, ho.out]; rfl
                obtain ⟨V, hV⟩ : ∃ V, ns.getD (2 + k) 0 = V := ⟨_, rfl⟩
                rw [hV] at qk T5 K5 HO
                clear Br hV ho
                go_wp2_with fail
                go_roundg gg
                case measure => omega
                case rel => exact ⟨k + 1, _, by omega, by go_num, T5.out, K5.out, HO⟩
              · obtain rfl : k = t := by omega
                obtain rfl : gk = 0 := by omega
                have u0 := HEX.out
                have HF : Hid (cfFrom k 0 cf0 ns = c') := ho
                have b0' : (0 : Int) ≤ 2 + (k : Int) := by omega
                have e1' : 6 + k - 4 = 2 + k := by omega
                have e2' : 6 + k - (2 + k) = 4 := by omega
                have b1' : 2 + (k : Int) ≤ 6 + (k : Int) := by omega
                have b2' : 6 + (k : Int) ≤ (d : Int) := by omega
                clear ho
                go_upto_region 12 with fail
                rw [e2']
                obtain ⟨d2, hd2⟩ : ∃ d2, d - (2 + k) = d2 := ⟨_, rfl⟩
                rw [hd2]
                clear hd2 e1' e2' c4 b0' b1' b2'
                have hga : g ≠ a + 1 := by omega
                have q0 : wr.cell? ⟨g, 0, none⟩ = some (.int .i64 (ns.getD 0 0)) := kk.cell (HCI.out 0 _ (hgn.out _ (by omega))) hga
                have r0 : wr.cell? ⟨g, 2 + k, none⟩ = some (.int .i64 (ns.getD (2 + k) 0)) := kk.cell (HCI.out (2 + k) _ (hgn.out _ (by omega))) hga
                have r1 : wr.cell? ⟨g, 2 + k + 1, none⟩ = some (.int .i64 (ns.getD (2 + k + 1) 0)) := kk.cell (HCI.out (2 + k + 1) _ (hgn.out _ (by omega))) hga
                have r2 : wr.cell? ⟨g, 2 + k + 2, none⟩ = some (.int .i64 (ns.getD (2 + k + 2) 0)) := kk.cell (HCI.out (2 + k + 2) _ (hgn.out _ (by omega))) hga
                have r3 : wr.cell? ⟨g, 2 + k + 3, none⟩ = some (.int .i64 (ns.getD (2 + k + 3) 0)) := kk.cell (HCI.out (2 + k + 3) _ (hgn.out _ (by omega))) hga
                have HCF : Hid (cfAll ns = { c' with lv := ns.getD 0 0, th := th, sl := ns.getD (2 + k) 0, li := ns.getD (2 + k + 1) 0, ge := ns.getD (2 + k + 2) 0, qu := ns.getD (2 + k + 3) 0 }) := by
                  have ek : th.toNat = k := by have := HT.out; omega
                  rw [Hid, cfAll, HTH.out, ek, HF.out]
                obtain ⟨v0, hv0⟩ : ∃ v0, ns.getD 0 0 = v0 := ⟨_, rfl⟩
                obtain ⟨v1, hv1⟩ : ∃ v1, ns.getD (2 + k) 0 = v1 := ⟨_, rfl⟩
                obtain ⟨v2, hv2⟩ : ∃ v2, ns.getD (2 + k + 1) 0 = v2 := ⟨_, rfl⟩
                obtain ⟨v3, hv3⟩ : ∃ v3, ns.getD (2 + k + 2) 0 = v3 := ⟨_, rfl⟩
                obtain ⟨v4, hv4⟩ : ∃ v4, ns.getD (2 + k + 3) 0 = v4 := ⟨_, rfl⟩
                rw [hv0] at q0 HCF
                rw [hv1] at r0 HCF
                rw [hv2] at r1 HCF
                rw [hv3] at r2 HCF
                rw [hv4] at r3 HCF
                clear hv0 hv1 hv2 hv3 hv4 HF
                have y0 := Br.cell 0
                have y1 := Br.cell 1
                have y10 := Br.cell 10
                have y11 := Br.cell 11
                have y12 := Br.cell 12
                have y13 := Br.cell 13
                have g0 := Br.frozen 0
                have g1 := Br.frozen 1
                have g10 := Br.frozen 10
                have g11 := Br.frozen 11
                have g12 := Br.frozen 12
                have g13 := Br.frozen 13
                have hza2 := Br.lt
                have hX := @ExtK.cell ((a + 1)) wr
                have hzz0 := block_lt_of_cell q0
                refine wp_region_noPanic ?_
                refine wp_region_tree (fun w' => ∃ x : ExtK ((a + 1)) wr, w' = x.w) (PT.one [0, 1, 2, 3, 4, 5, 6, 7, 8, 9, 10, 11, 12, 13, 14, 15, 16, 17, 18] 19 (PT.one [20] 21 (PT.one [22] 23 (PT.one [24] 25 (PT.one [26] 27 (PT.one [28] 29 (PT.fin []))))))) (by kernel_rfl) (by kernel_rfl) (by kernel_rfl) (fun _ _ _ _ _ h => h) ⟨⟨_, (Keeps.refl _ wr).drew⟩, rfl⟩ ?_
                refine wpTree_one ?_
                simp only [pickOps, List.getElem?_cons_succ, List.getElem?_cons_zero, Option.elim_some]
                repeat (go_big_quiet_step (fail))
                refine wpQuiet_nil ?_
                refine planAct_some (fun K hK => ?_)
                go_simp
                refine hK.out _ _ (extk_mem (by repeat (first | (with_reducible exact (Keeps.refl _ wr).drew) | (with_reducible exact Keeps.refl _ _) | (with_reducible refine keepq_set ?_) | (with_reducible refine keepq_drew ?_)))) ?_
                clear hK K
                simp only [Act.put]
                refine wpTree_one ?_
                simp only [pickOps, List.getElem?_cons_succ, List.getElem?_cons_zero, Option.elim_some]
                repeat (go_big_quiet_step (fail))
                refine wpQuiet_nil ?_
                refine planAct_some (fun K hK => ?_)
                go_simp
                refine hK.out _ _ (extk_mem (by repeat (first | (with_reducible exact (by repeat (first | (with_reducible exact (Keeps.refl _ wr).drew) | (with_reducible exact Keeps.refl _ _) | (with_reducible refine keepq_set ?_) | (with_reducible refine keepq_drew ?_)))) | (with_reducible exact Keeps.refl _ _) | (with_reducible refine keepq_set ?_) | (with_reducible refine keepq_drew ?_)))) ?_
                clear hK K
                simp only [Act.put]
                refine wpTree_one ?_
                simp only [pickOps, List.getElem?_cons_succ, List.getElem?_cons_zero, Option.elim_some]
                repeat (go_big_quiet_step (fail))
                refine wpQuiet_nil ?_
                refine planAct_some (fun K hK => ?_)
                go_simp
                refine hK.out _ _ (extk_mem (by repeat (first | (with_reducible exact (by repeat (first | (with_reducible exact (by repeat (first | (with_reducible exact (Keeps.refl _ wr).drew) | (with_reducible exact Keeps.refl _ _) | (with_reducible refine keepq_set ?_) | (with_reducible refine keepq_drew ?_)))) | (with_reducible exact Keeps.refl _ _) | (with_reducible refine keepq_set ?_) | (with_reducible refine keepq_drew ?_)))) | (with_reducible exact Keeps.refl _ _) | (with_reducible refine keepq_set ?_) | (with_reducible refine keepq_drew ?_)))) ?_
                clear hK K
                simp only [Act.put]
                refine wpTree_one ?_
                simp only [pickOps, List.getElem?_cons_succ, List.getElem?_cons_zero, Option.elim_some]
                repeat (go_big_quiet_step (fail))
                refine wpQuiet_nil ?_
                refine planAct_some (fun K hK => ?_)
                go_simp
                refine hK.out _ _ (extk_mem (by repeat (first | (with_reducible exact (by repeat (first | (with_reducible exact (by repeat (first | (with_reducible exact (by repeat (first | (with_reducible exact (Keeps.refl _ wr).drew) | (with_reducible exact Keeps.refl _ _) | (with_reducible refine keepq_set ?_) | (with_reducible refine keepq_drew ?_)))) | (with_reducible exact Keeps.refl _ _) | (with_reducible refine keepq_set ?_) | (with_reducible refine keepq_drew ?_)))) | (with_reducible exact Keeps.refl _ _) | (with_reducible refine keepq_set ?_) | (with_reducible refine keepq_drew ?_)))) | (with_reducible exact Keeps.refl _ _) | (with_reducible refine keepq_set ?_) | (with_reducible refine keepq_drew ?_)))) ?_
                clear hK K
                simp only [Act.put]
                refine wpTree_one ?_
                simp only [pickOps, List.getElem?_cons_succ, List.getElem?_cons_zero, Option.elim_some]
                repeat (go_big_quiet_step (fail))
                refine wpQuiet_nil ?_
                refine planAct_some (fun K hK => ?_)
                go_simp
                refine hK.out _ _ (extk_mem (by repeat (first | (with_reducible exact (by repeat (first | (with_reducible exact (by repeat (first | (with_reducible exact (by repeat (first | (with_reducible exact (by repeat (first | (with_reducible exact (Keeps.refl _ wr).drew) | (with_reducible exact Keeps.refl _ _) | (with_reducible refine keepq_set ?_) | (with_reducible refine keepq_drew ?_)))) | (with_reducible exact Keeps.refl _ _) | (with_reducible refine keepq_set ?_) | (with_reducible refine keepq_drew ?_)))) | (with_reducible exact Keeps.refl _ _) | (with_reducible refine keepq_set ?_) | (with_reducible refine keepq_drew ?_)))) | (with_reducible exact Keeps.refl _ _) | (with_reducible refine keepq_set ?_) | (with_reducible refine keepq_drew ?_)))) | (with_reducible exact Keeps.refl _ _) | (with_reducible refine keepq_set ?_) | (with_reducible refine keepq_drew ?_)))) ?_
                clear hK K
                simp only [Act.put]
                refine wpTree_one ?_
                simp only [pickOps, List.getElem?_cons_succ, List.getElem?_cons_zero, Option.elim_some]
                repeat (go_big_quiet_step (fail))
                refine wpQuiet_nil ?_
                refine planAct_some (fun K hK => ?_)
                go_simp
                refine hK.out _ _ (extk_mem (by repeat (first | (with_reducible exact (by repeat (first | (with_reducible exact (by repeat (first | (with_reducible exact (by repeat (first | (with_reducible exact (by repeat (first | (with_reducible exact (by repeat (first | (with_reducible exact (Keeps.refl _ wr).drew) | (with_reducible exact Keeps.refl _ _) | (with_reducible refine keepq_set ?_) | (with_reducible refine keepq_drew ?_)))) | (with_reducible exact Keeps.refl _ _) | (with_reducible refine keepq_set ?_) | (with_reducible refine keepq_drew ?_)))) | (with_reducible exact Keeps.refl _ _) | (with_reducible refine keepq_set ?_) | (with_reducible refine keepq_drew ?_)))) | (with_reducible exact Keeps.refl _ _) | (with_reducible refine keepq_set ?_) | (with_reducible refine keepq_drew ?_)))) | (with_reducible exact Keeps.refl _ _) | (with_reducible refine keepq_set ?_) | (with_reducible refine keepq_drew ?_)))) | (with_reducible exact Keeps.refl _ _) | (with_reducible refine keepq_set ?_) | (with_reducible refine keepq_drew ?_)))) ?_
                clear hK K
                simp only [Act.put]
                refine wpTree_fin ?_
                simp only [pickOps, List.getElem?_cons_succ, List.getElem?_cons_zero, Option.elim_some]
                repeat (go_big_quiet_step (fail))
                refine wpQuiet_nil ?_
                refine NoPanic.normal ?_
                clear hX hzz0
                obtain ⟨V, hV, BV, KV⟩ : ∃ V, ((((((wr.setCell ⟨a + 1, 0, none⟩ (.int .i64 v0)).setCell ⟨a + 1, 1, none⟩ (.int .i64 th)).setCell ⟨a + 1, 10, none⟩ (.int .i64 v1)).setCell ⟨a + 1, 11, none⟩ (.int .i64 v2)).setCell ⟨a + 1, 12, none⟩ (.int .i64 v3)).setCell ⟨a + 1, 13, none⟩ (.int .i64 v4)).drew = V ∧ Blk V (a + 1) 25 (cfc (cfAll ns)).toArray ∧ Keeps (fun b => b = a + 1) w1 V := by
                  refine ⟨_, rfl, ?_, ((((((kk.setCell (p := ⟨a + 1, 0, none⟩) (fun _ => rfl) _).setCell (p := ⟨a + 1, 1, none⟩) (fun _ => rfl) _).setCell (p := ⟨a + 1, 10, none⟩) (fun _ => rfl) _).setCell (p := ⟨a + 1, 11, none⟩) (fun _ => rfl) _).setCell (p := ⟨a + 1, 12, none⟩) (fun _ => rfl) _).setCell (p := ⟨a + 1, 13, none⟩) (fun _ => rfl) _).drew⟩
                  have := (((((Br.set_ 0 (.int .i64 v0)).set_ 1 (.int .i64 th)).set_ 10 (.int .i64 v1)).set_ 11 (.int .i64 v2)).set_ 12 (.int .i64 v3)).set_ 13 (.int .i64 v4)
                  simp only [List.setIfInBounds_toArray] at this
                  rw [HCF.out]
                  exact this.drew
                rw [hV]
                have AV := KV.blk A1 (by omega)
                have hi : (Tryz.prog.info? 25).map (·.size) = some (cfc (cfAll ns)).toArray.size := by kernel_rfl
                have hold : (#[.int .i64 0, .int .i64 0, .int .i64 0, .int .i64 0, .int .i64 0, .int .i64 0, .int .i64 0, .int .i64 0, .int .i64 0, .int .i64 0, .int .i64 0, .int .i64 0, .int .i64 0, .int .i64 0] : Array Value).size = (cfc (cfAll ns)).toArray.size := rfl
                have hone := cfc_one (cfAll ns)
                obtain ⟨cs, hcs⟩ : ∃ cs, (cfc (cfAll ns)).toArray = cs := ⟨_, rfl⟩
                rw [hcs] at BV hi hold hone
                have HCS := Lib.hid hcs
                clear hV hcs y0 y1 y10 y11 y12 y13 g0 g1 g10 g11 g12 g13 q0 r0 r1 r2 r3 Br HCF
                have tok1 : True := trivial; have tok2 : True := trivial
                go_wp2_with (first | (have _t := tok1; refine wpList_load_row (o := ⟨some 89, _, _, _, _, _⟩) rfl 25 (.tmp 4) rfl (a + 1) rfl 25 _ _ _ BV Tryz.underlying25 rfl hi ?_; clear tok1 _t) | (have _t := tok2; refine wpList_store_row (o := ⟨none, .store 25 (.tmp 2) (.tmp 89), _, _, _, _⟩) rfl 25 (.tmp 2) (.tmp 89) rfl a _ rfl rfl 25 _ AV hi hold hone ?_; clear tok2 _t))
                have kr := keeps_row V a cs
                exact bodyPost_ret (results_two Tryz.results32 rfl rfl (AV.row _) hi) rfl (R := RConfR w ws) ⟨kr.below (KV.below (bnext k0 hb1) (by have := hb1.size; omega) (fun x e _ => by omega)) (by have := AV.lt; omega) (fun x e _ => by have e' : x = a := e; omega), by rw [hE.out, ← HCS.out]; rfl⟩
          · have hE : Hid (rConf ws = none) := by rw [Hid, hE1.out, if_neg (fun q => by omega)]
            have tn : ((N : Int) == 6 + (t : Int)) = false := by rw [beq_eq_false_iff_ne]; omega
            have HT := Lib.hid ht
            clear hE1 ht hNt
            have tok1 : True := trivial; have tok2 : True := trivial
            go_wp2_with (first | (go_at_call 68; refine hc1.out.mono ?_; rintro e w1 ⟨hb1, g, d, rfl, hg1, hd1, hci⟩; have A1 := HA.out.below_ hb1; have B1 := HB.out.below_ hb1; have q1 : w1.cell? ⟨g, 1, none⟩ = some (.int .i64 th) := (by rw [← HTH.out]; exact hci 1 _ (hgn.out 1 (by omega))); have z1 := block_lt_of_cell q1; have HCI := Lib.hid hci; clear hci) | (have _t := tok1; refine wpList_load_row (o := ⟨some 44, _, _, _, _, _⟩) rfl 25 (.tmp 4) rfl (a + 1) rfl 25 _ _ _ B1 Tryz.underlying25 rfl (by kernel_rfl) ?_; clear tok1 _t) | (have _t := tok2; refine wpList_store_row (o := ⟨none, .store 25 (.tmp 2) (.tmp 44), _, _, _, _⟩) rfl 25 (.tmp 2) (.tmp 44) rfl a _ rfl rfl 25 _ A1 (by kernel_rfl) (by simp) (by simp [Value.oneCell']) ?_; clear tok2 _t))
            have kr := keeps_row w1 a #[.int .i64 0, .int .i64 0, .int .i64 0, .int .i64 0, .int .i64 0, .int .i64 0, .int .i64 0, .int .i64 0, .int .i64 0, .int .i64 0, .int .i64 0, .int .i64 0, .int .i64 0, .int .i64 0]
            exact bodyPost_ret (results_two Tryz.results32 rfl rfl (A1.row _) (by kernel_rfl)) rfl (R := RConfR w ws) ⟨kr.below (bnext k0 hb1) (by have := hb1.size; omega) (fun x e _ => by have e' : x = a := e; omega), by rw [hE.out]; rfl⟩
    · have hfb : ((bstr f).toList == [99, 111, 110, 102]) = false := by
        rw [beq_eq_false_iff_ne, ef]
        exact hfc
      have hE : Hid (rConf ws = none) := by
        rw [Hid, rConf, if_neg]
        rintro ⟨_, q⟩
        rw [hf] at q
        exact hfc (by injection q)
      obtain ⟨S, hS⟩ : ∃ S, bstr f = S := ⟨_, rfl⟩
      rw [hS] at hfb hc0
      clear ef hf hfc hS
      have tok1 : True := trivial; have tok2 : True := trivial
      go_wp2_with (first | (have _t := tok1; refine wpList_load_row (o := ⟨some 19, _, _, _, _, _⟩) rfl 25 (.tmp 4) rfl (a + 1) rfl 25 _ _ _ HB.out Tryz.underlying25 rfl (by kernel_rfl) ?_; clear tok1 _t) | (have _t := tok2; refine wpList_store_row (o := ⟨none, .store 25 (.tmp 2) (.tmp 19), _, _, _, _⟩) rfl 25 (.tmp 2) (.tmp 19) rfl a _ rfl rfl 25 _ HA.out (by kernel_rfl) (by simp) (by simp [Value.oneCell']) ?_; clear tok2 _t))
      have kr := keeps_row W0 a #[.int .i64 0, .int .i64 0, .int .i64 0, .int .i64 0, .int .i64 0, .int .i64 0, .int .i64 0, .int .i64 0, .int .i64 0, .int .i64 0, .int .i64 0, .int .i64 0, .int .i64 0, .int .i64 0]
      exact bodyPost_ret (results_two Tryz.results32 rfl rfl (HA.out.row _) (by kernel_rfl)) rfl (R := RConfR w ws) ⟨kr.below k0 (by omega) (fun x e _ => by have e' : x = a := e; omega), by rw [hE.out]; rfl⟩
end Go.Proofs.YtjjgngccgjpnaaaGreatDoor
