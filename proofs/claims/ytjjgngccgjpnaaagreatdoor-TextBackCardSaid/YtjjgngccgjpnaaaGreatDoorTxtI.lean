/- What a taker of lines knows; a call's line. -/
import Derived.Test.YtjjgngccgjpnaaaGreatDoorTxtH
namespace Go.Proofs.YtjjgngccgjpnaaaGreatDoor
set_option linter.unusedVariables false
set_option linter.unusedSimpArgs false
open Go.RowKit

theorem elem_cv : ∃ i, Elem Tryz.prog 26 51 i (.agg #[.int .i64 0, .int .i64 0, .int .i64 0, .int .u64 0, .int .u64 0, .int .u64 0, .int .i64 0]) 7 56 := Elem.of Tryz.underlying26 (by kernel_rfl) rfl (by decide)
theorem elem_en : ∃ i, Elem Tryz.prog 28 61 i (.agg #[.int .i64 0, .int .i64 0]) 2 16 := Elem.of Tryz.underlying28 (by kernel_rfl) rfl (by decide)
/-- A script that is taken. -/
structure St where
  c : Cf
  ps : List (List CV)
  es : List En
  last : Int
  done : Bool
  was : En
def tkc (s : St) (vs : List Value) (ev : Value) : List Value := scc s.c vs ev ++ [.int .i64 s.last, .bool s.done, .int .i64 s.was.th, .int .i64 s.was.wh]
/-- Eight rows that are own, each by itself. -/
structure OW (w : World) (B : Nat) (vs : List Value) (ps : List (List CV)) : Prop where
  u8 : vs.length = 8
  p8 : ps.length = 8
  at_ : ∀ (j : Nat) (l : List CV), ps[j]? = some l → ∃ A c, vs[j]? = some (.slice A l.length c) ∧ w.ownsRow B 51 7 (.slice A l.length c) l.length (l.flatMap cvc)
  ap : ∀ (i j : Nat) (v v' : Value), i ≠ j → vs[i]? = some v → vs[j]? = some v' → ∀ k, v.ownBlock = some k → v'.ownBlock ≠ some k
theorem own_lt {w : World} {B e size n : Nat} {v : Value} {xs : List Value} (h : w.ownsRow B e size v n xs) : ∀ k, v.ownBlock = some k → k < w.heap.size := fun k hk => by
  rcases h.2 with ⟨rfl, _⟩ | ⟨g, cap, cur, rfl, _, hh, _⟩
  · simp [Value.ownBlock] at hk
  · have : g = k := by simpa [Value.ownBlock] using hk
    subst this
    exact Blk.lt hh
theorem OW.row {w : World} {B : Nat} {vs : List Value} {ps : List (List CV)} (h : OW w B vs ps) {j : Nat} {v : Value} (hv : vs[j]? = some v) : ∃ l A c, ps[j]? = some l ∧ v = .slice A l.length c ∧ w.ownsRow B 51 7 v l.length (l.flatMap cvc) := by
  have hj : j < ps.length := by rw [h.p8, ← h.u8]; exact (List.getElem?_eq_some_iff.1 hv).1
  obtain ⟨A, c, h1, h2⟩ := h.at_ j _ (List.getElem?_eq_getElem hj)
  rw [hv] at h1
  injection h1 with h1
  exact ⟨_, A, c, List.getElem?_eq_getElem hj, h1, h1 ▸ h2⟩
theorem OW.lt {w : World} {B : Nat} {vs : List Value} {ps : List (List CV)} (h : OW w B vs ps) {j : Nat} {v : Value} (hv : vs[j]? = some v) : ∀ k, v.ownBlock = some k → k < w.heap.size := by
  obtain ⟨l, A, c, _, _, h3⟩ := h.row hv
  exact own_lt h3
theorem OW.keeps {w w' : World} {B : Nat} {vs : List Value} {ps : List (List CV)} {S : Nat → Prop} (h : OW w B vs ps) (hk : Keeps S w w') (hS : ∀ (j : Nat) (v : Value), vs[j]? = some v → ∀ k, v.ownBlock = some k → ¬ S k) : OW w' B vs ps :=
  ⟨h.u8, h.p8, fun j l hl => by
    obtain ⟨A, c, h1, h2⟩ := h.at_ j l hl
    exact ⟨A, c, h1, hk.own h2 (hS j _ h1)⟩, h.ap⟩
theorem OW.keepsT {w w' : World} {B : Nat} {vs : List Value} {ps : List (List CV)} {S : Nat → Prop} (h : OW w B vs ps) (hk : Keeps S w w') (hS : ∀ b, S b → b < w.heap.size → ∃ t cs, Blk w b t cs ∧ 51 ≠ t) : OW w' B vs ps := h.keeps hk fun j v hv k hk' hs => by
  obtain ⟨l, A, c, _, rfl, h3⟩ := h.row hv
  obtain ⟨t, cs, hb, hne⟩ := hS k hs (own_lt h3 k hk')
  exact own_ne_blk h3 hb hne hk'
theorem OW.app {w w' : World} {B : Nat} {vs : List Value} {ps : List (List CV)} {t : Nat} {v : Value} {l : List CV} {x : CV} {A : Option Addr} {c : Nat} (h : OW w B vs ps) (hv : vs[t]? = some v) (hl : ps[t]? = some l)
    (ho : w'.ownsRow B 51 7 (.slice A (l.length + 1) c) (l.length + 1) (l.flatMap cvc ++ cvc x)) (hg : Keeps (fun b => v.ownBlock = some b) w w') (h3 : (Value.slice A (l.length + 1) c).ownBlock = v.ownBlock ∨ ∃ q, (Value.slice A (l.length + 1) c).ownBlock = some q ∧ w.heap.size ≤ q) : OW w' B (vs.set t (.slice A (l.length + 1) c)) (ps.set t (l ++ [x])) := by
  have ht : t < vs.length := (List.getElem?_eq_some_iff.1 hv).1
  have ht' : t < ps.length := (List.getElem?_eq_some_iff.1 hl).1
  have hfm : (l ++ [x]).flatMap cvc = l.flatMap cvc ++ cvc x := by rw [List.flatMap_append]; simp
  have hln : (l ++ [x]).length = l.length + 1 := by simp
  refine ⟨by rw [List.length_set]; exact h.u8, by rw [List.length_set]; exact h.p8, fun j l' hl' => ?_, fun i j v1 v2 hne h1 h2 k hk => ?_⟩
  · by_cases hjt : t = j
    · subst hjt
      rw [List.getElem?_set_self ht'] at hl'
      injection hl' with hl'
      subst hl'
      exact ⟨A, c, by rw [List.getElem?_set_self ht, hln], by rw [hln, hfm]; exact ho⟩
    · rw [List.getElem?_set_ne hjt] at hl'
      obtain ⟨A', c', h4, h5⟩ := h.at_ j l' hl'
      exact ⟨A', c', by rw [List.getElem?_set_ne hjt]; exact h4, hg.own h5 (fun k hk q => h.ap t j v _ hjt hv h4 k q hk)⟩
  · by_cases hit : t = i
    · subst hit
      rw [List.getElem?_set_self ht] at h1
      injection h1 with h1
      subst h1
      rw [List.getElem?_set_ne hne] at h2
      rcases h3 with q | ⟨q, hq, hge⟩
      · exact h.ap t j v v2 hne hv h2 k (q ▸ hk)
      · rw [hq] at hk
        injection hk with hk
        subst hk
        intro hc
        have := h.lt h2 _ hc
        omega
    · rw [List.getElem?_set_ne hit] at h1
      by_cases hjt : t = j
      · subst hjt
        rw [List.getElem?_set_self ht] at h2
        injection h2 with h2
        subst h2
        rcases h3 with q | ⟨q, hq, hge⟩
        · rw [q]
          exact h.ap i t v1 v hne h1 hv k hk
        · rw [hq]
          intro hc
          injection hc with hc
          have := h.lt h1 _ hk
          omega
      · rw [List.getElem?_set_ne hjt] at h2
        exact h.ap i j v1 v2 hne h1 h2 k hk
/-- What a line leaves. -/
structure KT (B : Nat) (w w' : World) : Prop where
  b : Below B w w'
  s : w.heap.size ≤ w'.heap.size
  k : ∀ q T cs, T ≠ 63 → T ≠ 70 → T ≠ 51 → T ≠ 61 → Blk w q T cs → Blk w' q T cs
theorem KT.refl (B : Nat) (w : World) : KT B w w := ⟨Below.refl _ _, Nat.le_refl _, fun _ _ _ _ _ _ _ h => h⟩
theorem KT.trans {B : Nat} {a b c : World} (h : KT B a b) (k : KT B b c) : KT B a c := ⟨h.b.trans k.b, Nat.le_trans h.s k.s, fun q T cs h1 h2 h3 h4 h5 => k.k q T cs h1 h2 h3 h4 (h.k q T cs h1 h2 h3 h4 h5)⟩
theorem KT.of {B : Nat} {w w' : World} {S : Nat → Prop} (hB : B ≤ w.heap.size) (hk : Keeps S w w') (hS : ∀ b, S b → B ≤ b) (hT : ∀ b, S b → b < w.heap.size → ∃ t cs, Blk w b t cs ∧ (t = 63 ∨ t = 70 ∨ t = 51 ∨ t = 61)) : KT B w w' :=
  ⟨keeps_bel hk hB hS, hk.size, fun q T cs h1 h2 h3 h4 h5 => hk.blk h5 fun hs => by
    obtain ⟨t, cs', hb, ht⟩ := hT q hs h5.lt
    unfold Blk at h5 hb
    rw [h5] at hb
    injection hb with hb
    injection hb with _ hb
    subst hb
    rcases ht with q | q | q | q
    · exact h1 q
    · exact h2 q
    · exact h3 q
    · exact h4 q⟩
/-- A taker in memory: so far N lines were taken. -/
structure TK (w : World) (B tb : Nat) (s : St) (N : Nat) : Prop where
  e : ∃ vs EA ec, Blk w tb 63 (tkc s vs (.slice EA s.es.length ec)).toArray ∧ OW w B vs s.ps ∧ w.ownsRow B 61 2 (.slice EA s.es.length ec) s.es.length (s.es.flatMap enc_)
  ps : ∀ l, l ∈ s.ps → l.length ≤ N
  es : s.es.length ≤ 60001 + N
  th : s.c.th ≤ 8
  n : N ≤ 1000000
  tb : B ≤ tb
def LineR (w : World) (B tb N : Nat) (x : Option St) (e : Ending) (w' : World) : Prop := KT B w w' ∧ match x with
  | none => PanW e
  | some s => e = .returned (.tuple #[]) ∧ TK w' B tb s N
def pCall (s : St) (ws : Wd) : Option St := (thrAt s.c.th ws 1).bind fun t => (ws[2]?).bind fun o => (numAt ws 3).bind fun lv => (numAt ws 4).bind fun key => (bitAt ws 5).bind fun a => (bitAt ws 6).bind fun b => (bitAt ws 7).bind fun h => (numAt ws 8).bind fun rg => (opOf (bstr o)).bind fun op => if s.last ≤ t ∧ s.done = false ∧ ws.length = 9 then some { s with last := t, ps := s.ps.set t.toNat (s.ps.getD t.toNat [] ++ [⟨(op : Int), lv, key, (a : Int), (b : Int), (h : Int), rg⟩]) } else none
structure ExtB2 (q : Nat) (t : TypeId) (cs : Array Value) (q' : Nat) (t' : TypeId) (cs' : Array Value) where
  w : World
  k : Blk w q t cs
  k' : Blk w q' t' cs'
theorem ext2_mem {w : World} {q : Nat} {t : TypeId} {cs : Array Value} {q' : Nat} {t' : TypeId} {cs' : Array Value} (h : Blk w q t cs) (h' : Blk w q' t' cs') : ∃ x : ExtB2 q t cs q' t' cs', w = x.w := ⟨⟨w, h, h'⟩, rfl⟩
structure ExtB (q : Nat) (t : TypeId) (cs : Array Value) where
  w : World
  k : Blk w q t cs
theorem extb_mem {w : World} {q : Nat} {t : TypeId} {cs : Array Value} (h : Blk w q t cs) : ∃ x : ExtB q t cs, w = x.w := ⟨⟨w, h⟩, rfl⟩
theorem extb_blk (q : Nat) (t : TypeId) (cs : Array Value) : ∀ w, (∃ x : ExtB q t cs, w = x.w) → Blk w q t cs := fun w ⟨x, e⟩ => e ▸ x.k
end Go.Proofs.YtjjgngccgjpnaaaGreatDoor
