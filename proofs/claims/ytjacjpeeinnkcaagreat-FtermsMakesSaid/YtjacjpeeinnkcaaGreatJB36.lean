/- Contract: a term with bound names told by numbers: how the walk stands; its first part. -/
import Derived.Test.YtjacjpeeinnkcaaGreatJB35
import Derived.Deep.Cut
/- Contract: a term with bound names told by numbers: how the walk stands; its first part. -/
namespace Go.Proofs.YtjacjpeeinnkcaaGreat
open Go.RowKit Go.Sort Go.Maps

/-- What names and variables become, in memory. -/
structure CnIn (w : World) (r : Option Nat) (V T : Option Addr) (n : Nat) (c : Cn) : Prop where
  nm : NmAt w (.map r) n c.look
  vars : Ints w V c.vars
  tys : RowOf tyC w T (c.tys.map varT)
  len : c.vars.length = c.tys.length
/-- How a term's walk stands: the boxes, what holds within, the count. -/
structure TmSt (w : World) (cb : Nat) (t : Tm) (n : Nat) (c : Cn) (s : Str) (vs : List Int) (nv nn : Int) (r : Option Nat) (V : Option Addr) (vc : Nat) (T : Option Addr) (tc : Nat) (A : Option Addr) (ac : Nat) (wx : World) : Prop where
  b0 : wx.heap[w.heap.size]? = some (.cells #[.map r, .slice V c.vars.length vc, .slice T c.tys.length tc] 110 (0, 0))
  b1 : wx.heap[w.heap.size + 1]? = some (.cells #[.int .i64 t.kind, .int .i64 t.n, encStr s, .slice A vs.length ac, .slice t.T t.types.length t.tc, .slice t.A t.kids.length t.cap] 31 (0, 0))
  b2 : wx.heap[w.heap.size + 2]? = some (.cells #[.int .i64 0, .int .i64 0, .string ⟨#[]⟩, .slice none 0 0, .slice none 0 0, .slice none 0 0] 31 (0, 0))
  cn : CnIn wx r V T n c
  own : Ints wx A vs
  ale : vs.length ≤ ac
  amx : ac ≤ 9223372036854775807
  txt : s.length ≤ 9223372036854775807
  away : ∀ k, k < w.heap.size → OffB k t.V t.vars.length → OffB k A vs.length
  far : ∀ k, k = cb ∨ (w.heap.size ≤ k ∧ k < w.heap.size + 3) → OffB k V c.vars.length ∧ OffB k T c.tys.length ∧ OffB k A vs.length
  cnt : wx.heap[cb]? = some (.cells #[.int .i64 nv, .int .i64 nn] 107 (0, 0))
  g : w.grownBy wx (some cb)

theorem map_ne_cells {w : World} {b n c : Nat} {f : Str → Option Str} {cs : Array Value} {ty : TypeId} {fr : Nat × Nat} (h : MapS w b n f) (hc : w.heap[c]? = some (.cells cs ty fr)) : c ≠ b := by
  rintro rfl
  obtain ⟨D, ⟨es, clock, hb, -⟩, -⟩ := h
  rw [hc] at hb
  cases hb
theorem NmAt.grown {w w' : World} {v : Value} {n : Nat} {f : Str → Option Str} (h : NmAt w v n f) {c : Nat} {cs : Array Value} {ty : TypeId} {fr : Nat × Nat} (hc : w.heap[c]? = some (.cells cs ty fr)) (g : w.grownBy w' (some c)) : NmAt w' v n f := by
  rcases h with h | ⟨b, h1, h2⟩
  · exact .inl h
  · exact .inr ⟨b, h1, h2.grown g (fun e => map_ne_cells h2 hc (by injection e))⟩
theorem row_off {w w' : World} {A : Option Addr} {k n c : Nat} {xs : List Value} (h : Row w A k n xs) (g : w.grownBy w' (some c)) (o : OffB c A n) : Row w' A k n xs :=
  row_grown h g (fun hn a e he => o hn a e (by injection he with he; exact he.symm))
theorem CnIn.grown {w w' : World} {r : Option Nat} {V T : Option Addr} {n c : Nat} {k : Cn} {cs : Array Value} {ty : TypeId} {fr : Nat × Nat} (h : CnIn w r V T n k) (hc : w.heap[c]? = some (.cells cs ty fr)) (g : w.grownBy w' (some c)) (ov : OffB c V k.vars.length) (ot : OffB c T k.tys.length) : CnIn w' r V T n k :=
  ⟨h.nm.grown hc g, row_off h.vars g ov, row_off h.tys g (fun hn => ot (by simpa using hn)), h.len⟩
theorem CnIn.ext {w w' : World} {r : Option Nat} {V T : Option Addr} {n : Nat} {k : Cn} (h : CnIn w r V T n k) (e : Ext w w') : CnIn w' r V T n k := ⟨h.nm.ext e, Row.ext h.vars e, RowOf.ext tyC h.tys e, h.len⟩
/-- A row that stands in a world lies in none of the blocks behind it. -/
theorem off_behind {w : World} {A : Option Addr} {k n c : Nat} {xs : List Value} (h : Row w A k n xs) (hc : w.heap.size ≤ c) : OffB c A n := OffB.new h hc

/-- At the start. -/
theorem tmst_start (w0 w : World) (cb : Nat) (r : Option Nat) (V : Option Addr) (vc : Nat) (T : Option Addr) (tc n : Nat) (c : Cn) (nv nn : Int) (t : Tm) (ht : TmIn w0 t) (hB : Below w0.heap.size w0 w) (hcb : w0.heap.size ≤ cb) (hcnt : w.heap[cb]? = some (.cells #[.int .i64 nv, .int .i64 nn] 107 (0, 0)))
    (hc : CnIn w r V T n c) (ov : OffB cb V c.vars.length) (ot : OffB cb T c.tys.length) (W : World)
    (hW : W = ((w.alloc (.cells #[.map r, .slice V c.vars.length vc, .slice T c.tys.length tc] 110)).alloc (.cells #[.int .i64 t.kind, .int .i64 t.n, encStr t.name, .slice t.V t.vars.length t.vc, .slice t.T t.types.length t.tc, .slice t.A t.kids.length t.cap] 31)).alloc (.cells #[.int .i64 0, .int .i64 0, .string ⟨#[]⟩, .slice none 0 0, .slice none 0 0, .slice none 0 0] 31)) :
    TmSt w cb t n c t.name t.vars nv nn r V vc T tc t.V t.vc W := by
  have X0 : Ext w W := by rw [hW]; exact (((Ext.refl _).alloc _).alloc _).alloc _
  have hw := ht.old hB
  have hcl := lt_of_obj hcnt
  have hbs := hB.size
  refine ⟨?_, ?_, ?_, hc.ext X0, Row.ext hw.hd.vars X0, hw.hd.vle, hw.hd.vmax, hw.hd.txt, fun k _ h => h, fun k hk => ?_, (X0.heap hcl).trans hcnt, ext_grown X0 _⟩
  · rw [hW]; exact (((Ext.refl _).alloc _).alloc _).heap (by simp) |>.trans (at_newB _ _ _ rfl)
  · rw [hW]; exact ((Ext.refl _).alloc _).heap (by simp) |>.trans (at_newB _ _ _ (by simp))
  · rw [hW]; exact at_newB _ _ _ (by simp)
  · rcases hk with rfl | ⟨h1, h2⟩
    · exact ⟨ov, ot, off_behind ht.hd.vars hcb⟩
    · exact ⟨off_behind hc.vars h1, fun hn => off_behind hc.tys h1 (by simpa using hn), off_behind hw.hd.vars h1⟩

theorem wp_cutB {P : Program} {s : Code} {n : Nat} {K : Act → World → Prop} {Q' : Exit → Act → World → Prop} {a : Act} {w : World} (R : Act → World → Prop)
    (rest : ∀ a' w', R a' w' → K a' w')
    (first : ∀ (J K' : Act → World → Prop), (∀ a' w', R a' w' → J a' w') → (∀ a' w', Met J a' w' → K' a' w') → s.wp P (Exit.inBlock n (Exit.then K' Q')) a w) : s.wp P (Exit.inBlock n (Exit.then K Q')) a w := by
  refine wp_mono (first R R (fun _ _ q => q) (fun _ _ q => q)) ?_
  intro e a' w' hq
  cases e with
  | normal => exact rest _ _ hq
  | exit id =>
    simp only [Exit.inBlock] at hq ⊢
    split
    · rename_i h
      rw [if_pos h] at hq
      exact rest _ _ hq
    · rename_i h
      rw [if_neg h] at hq
      exact hq
  | goto l => exact hq
  | ret => exact hq
  | panic ch => exact hq
  | outgrown => exact hq
theorem nm_look {w : World} {r : Option Nat} {n : Nat} {c : Cn} (h : NmAt w (.map r) n c.look) {x : Str} (hx : x.length ≤ 9223372036854775807) :
    ∃ (s : Str) (b : Bool), (Instr.lookup 108 (.map r) (encStr x) true).run Tryz.prog w = .ok (.tuple #[encStr s, .bool b]) w ∧ s.length ≤ 9223372036854775807 ∧ (c.look x).getD x = if b then s else x := by
  rcases h with ⟨h1, h2⟩ | ⟨b, h1, h2⟩
  · injection h1 with h1
    subst h1
    exact ⟨[], false, look_none w hx, by decide, by rw [h2 x]; rfl⟩
  · injection h1 with h1
    subst h1
    obtain ⟨s, e1, e2, e3⟩ := h2.look hx
    refine ⟨s, (c.look x).isSome, e1, e3, ?_⟩
    cases hf : c.look x with
    | none => rfl
    | some y => rw [e2 y hf]; rfl
theorem pvM_txt {w : World} (t : Tm) : TmIn w t → ∀ s ∈ pvM t, s.length ≤ 9223372036854775807 := by
  induction t using Tm.ind with
  | h t ih =>
  intro h s hs
  rw [pvM_eq] at hs
  split at hs
  · rw [List.mem_singleton] at hs
    subst hs
    exact h.hd.txt
  · obtain ⟨k, hk, hs⟩ := List.mem_flatMap.1 hs
    exact ih k hk (h.all.kids k hk) s hs
theorem bindsM_lt {t : Tm} (h : t.size ≤ 10000) : (bindsM t).length ≤ 9999 := by
  by_cases h3 : t.kind = 3
  · rw [bindsM_lam h3]; simp
  by_cases h10 : t.kind = 10
  · rw [bindsM_let h10]; have := bnsM_len t.kids; have := t.kids_len; omega
  by_cases h9 : t.kind = 9
  · rw [bindsM_alt h9]
    cases hk : t.kids with
    | nil => simp
    | cons p l =>
      have h1 := pvM_len p
      have h2 := Tm.size_kid (t := t) (k := p) (by rw [hk]; simp)
      show (pvM p).length ≤ _
      omega
  · rw [bindsM_none h3 h10 h9]; simp
theorem bindsM_txt {w : World} {t : Tm} (h : TmIn w t) : ∀ s ∈ bindsM t, s.length ≤ 9223372036854775807 := by
  intro s hs
  by_cases h3 : t.kind = 3
  · rw [bindsM_lam h3, List.mem_singleton] at hs
    subst hs
    exact h.hd.txt
  by_cases h10 : t.kind = 10
  · rw [bindsM_let h10] at hs
    obtain ⟨k, hk, rfl⟩ := List.mem_map.1 hs
    exact (h.all.kids k (List.mem_filter.1 hk).1).hd.txt
  by_cases h9 : t.kind = 9
  · rw [bindsM_alt h9] at hs
    cases hk : t.kids with
    | nil => rw [hk] at hs; cases hs
    | cons p l =>
      rw [hk] at hs
      exact pvM_txt p (h.all.kids p (by rw [hk]; simp)) s hs
  · rw [bindsM_none h3 h10 h9] at hs
    cases hs
section
variable {w wx : World} {cb : Nat} {t : Tm} {n : Nat} {c : Cn} {s : Str} {vs : List Int} {nv nn : Int} {r : Option Nat} {V : Option Addr} {vc : Nat} {T : Option Addr} {tc : Nat} {A : Option Addr} {ac : Nat}
theorem TmSt.ext (h : TmSt w cb t n c s vs nv nn r V vc T tc A ac wx) {w' : World} (e : Ext wx w') : TmSt w cb t n c s vs nv nn r V vc T tc A ac w' :=
  ⟨(e.heap (lt_of_obj h.b0)).trans h.b0, (e.heap (lt_of_obj h.b1)).trans h.b1, (e.heap (lt_of_obj h.b2)).trans h.b2, h.cn.ext e, Row.ext h.own e, h.ale, h.amx, h.txt, h.away, h.far, (e.heap (lt_of_obj h.cnt)).trans h.cnt, grown_tr h.g (ext_grown e _)⟩
/-- Another name. -/
theorem TmSt.name (h : TmSt w cb t n c s vs nv nn r V vc T tc A ac wx) (hcb : cb < w.heap.size) (s' : Str) (hl : s'.length ≤ 9223372036854775807) : TmSt w cb t n c s' vs nv nn r V vc T tc A ac (wx.setCell ⟨w.heap.size + 1, 2, none⟩ (encStr s')) := by
  have g := grown_cell wx (w.heap.size + 1) 2 (encStr s')
  have f := h.far (w.heap.size + 1) (.inr ⟨by omega, by omega⟩)
  have o : ∀ j, j ≠ w.heap.size + 1 → j < wx.heap.size → (wx.setCell ⟨w.heap.size + 1, 2, none⟩ (encStr s')).heap[j]? = wx.heap[j]? := fun j hj hl => g.block j hl (fun e => hj (by injection e))
  exact ⟨(o _ (by omega) (lt_of_obj h.b0)).trans h.b0, by have := blk_setCell h.b1 2 (encStr s'); simpa using this, (o _ (by omega) (lt_of_obj h.b2)).trans h.b2, h.cn.grown h.b1 g f.1 f.2.1, row_off h.own g f.2.2, h.ale, h.amx, hl, h.away, h.far,
    (o _ (by omega) (lt_of_obj h.cnt)).trans h.cnt, grown_own h.g g (fun j e => by injection e with e; omega)⟩
/-- Another count. -/
theorem TmSt.count (h : TmSt w cb t n c s vs nv nn r V vc T tc A ac wx) (hcb : cb < w.heap.size) (m : Int) : TmSt w cb t n c s vs nv m r V vc T tc A ac (wx.setCell ⟨cb, 1, none⟩ (.int .i64 m)) := by
  have g := grown_cell wx cb 1 (.int .i64 m)
  have f := h.far cb (.inl rfl)
  have o : ∀ j, j ≠ cb → j < wx.heap.size → (wx.setCell ⟨cb, 1, none⟩ (.int .i64 m)).heap[j]? = wx.heap[j]? := fun j hj hl => g.block j hl (fun e => hj (by injection e))
  exact ⟨(o _ (by omega) (lt_of_obj h.b0)).trans h.b0, (o _ (by omega) (lt_of_obj h.b1)).trans h.b1, (o _ (by omega) (lt_of_obj h.b2)).trans h.b2, h.cn.grown h.cnt g f.1 f.2.1, row_off h.own g f.2.2, h.ale, h.amx, h.txt, h.away, h.far,
    by have := blk_setCell h.cnt 1 (.int .i64 m); simpa using this, grown_tr h.g g⟩
/-- Other names, in a map that has just been made. -/
theorem TmSt.within (h : TmSt w cb t n c s vs nv nn r V vc T tc A ac wx) (hcb : cb < w.heap.size) {w' : World} (e : Ext wx w') {b n' : Nat} (l : List Str) (hm : MapS w' b n' (fun s => if l.any (· == s) then some s else c.look s)) :
    TmSt w cb t n' (c.within l) s vs nv nn (some b) V vc T tc A ac (((w'.setCell ⟨w.heap.size, 0, none⟩ (.map (some b))).setCell ⟨w.heap.size, 1, none⟩ (.slice V c.vars.length vc)).setCell ⟨w.heap.size, 2, none⟩ (.slice T c.tys.length tc)) := by
  have h2 := h.ext e
  generalize hW : ((w'.setCell ⟨w.heap.size, 0, none⟩ (.map (some b))).setCell ⟨w.heap.size, 1, none⟩ (.slice V c.vars.length vc)).setCell ⟨w.heap.size, 2, none⟩ (.slice T c.tys.length tc) = W
  have g : w'.grownBy W (some w.heap.size) := by rw [← hW]; exact grown_tr (grown_tr (grown_cell _ _ _ _) (grown_cell _ _ _ _)) (grown_cell _ _ _ _)
  have f := h2.far w.heap.size (.inr ⟨by omega, by omega⟩)
  have o : ∀ j, j ≠ w.heap.size → j < w'.heap.size → W.heap[j]? = w'.heap[j]? := fun j hj hl => g.block j hl (fun e => hj (by injection e))
  have hcn : CnIn w' (some b) V T n' (c.within l) := ⟨.inr ⟨b, rfl, by rw [show (c.within l).look = fun s => if l.any (· == s) then some s else c.look s from funext (look_within c l)]; exact hm⟩, h2.cn.vars, h2.cn.tys, h2.cn.len⟩
  exact ⟨by rw [← hW]; have := blk_setCell (blk_setCell (blk_setCell h2.b0 0 (.map (some b))) 1 (.slice V c.vars.length vc)) 2 (.slice T c.tys.length tc); simpa [Cn.within] using this, (o _ (by omega) (lt_of_obj h2.b1)).trans h2.b1, (o _ (by omega) (lt_of_obj h2.b2)).trans h2.b2,
    hcn.grown h2.b0 g f.1 f.2.1, row_off h2.own g f.2.2, h2.ale, h2.amx, h2.txt, h2.away, h2.far, (o _ (by omega) (lt_of_obj h2.cnt)).trans h2.cnt, grown_own h2.g g (fun j e => by injection e with e; omega)⟩
/-- Other variables, and their numbers. -/
theorem TmSt.opened (h : TmSt w cb t n c s vs nv nn r V vc T tc A ac wx) (hcb : cb < w.heap.size) {w' : World} (g1 : wx.grownBy w' (some cb)) {vs' tys' own' : List Int} {nv' : Int} {V' T' A' : Option Addr} {vc' tc' ac' m : Nat} (hm : own'.length = m)
    (hV : Ints w' V' vs') (hT : RowOf tyC w' T' (tys'.map varT)) (hA : Ints w' A' own') (nV : ∀ c o, V' = some ⟨c, o, none⟩ → wx.heap.size ≤ c) (nT : ∀ c o, T' = some ⟨c, o, none⟩ → wx.heap.size ≤ c) (nA : ∀ c o, A' = some ⟨c, o, none⟩ → wx.heap.size ≤ c)
    (hl : vs'.length = tys'.length) (a1 : own'.length ≤ ac') (a2 : ac' ≤ 9223372036854775807) (hc : w'.heap[cb]? = some (.cells #[.int .i64 nv', .int .i64 nn] 107 (0, 0))) :
    TmSt w cb t n ⟨c.names, vs', tys'⟩ s own' nv' nn r V' vc' T' tc' A' ac' ((((w'.setCell ⟨w.heap.size, 0, none⟩ (.map r)).setCell ⟨w.heap.size, 1, none⟩ (.slice V' vs'.length vc')).setCell ⟨w.heap.size, 2, none⟩ (.slice T' tys'.length tc')).setCell ⟨w.heap.size + 1, 3, none⟩ (.slice A' m ac')) := by
  subst hm
  generalize hW : ((w'.setCell ⟨w.heap.size, 0, none⟩ (.map r)).setCell ⟨w.heap.size, 1, none⟩ (.slice V' vs'.length vc')).setCell ⟨w.heap.size, 2, none⟩ (.slice T' tys'.length tc') = W
  have hb0 := lt_of_obj h.b0
  have hb2 := lt_of_obj h.b2
  have o1 : ∀ j, j ≠ cb → j < wx.heap.size → w'.heap[j]? = wx.heap[j]? := fun j hj hl => g1.block j hl (fun e => hj (by injection e))
  have g : w'.grownBy W (some w.heap.size) := by rw [← hW]; exact grown_tr (grown_tr (grown_cell _ _ _ _) (grown_cell _ _ _ _)) (grown_cell _ _ _ _)
  have g2 := grown_cell W (w.heap.size + 1) 3 (.slice A' own'.length ac')
  have hs1 := g1.size
  have hs2 := g.size
  have o : ∀ j, j ≠ w.heap.size → j ≠ w.heap.size + 1 → j < w'.heap.size → (W.setCell ⟨w.heap.size + 1, 3, none⟩ (.slice A' own'.length ac')).heap[j]? = w'.heap[j]? := fun j hj hj2 hl => (g2.block j (by omega) (fun e => hj2 (by injection e))).trans (g.block j hl (fun e => hj (by injection e)))
  have e0 : W.heap[w.heap.size]? = some (.cells #[.map r, .slice V' vs'.length vc', .slice T' tys'.length tc'] 110 (0, 0)) := by
    rw [← hW]
    have := blk_setCell (blk_setCell (blk_setCell ((o1 _ (by omega) (lt_of_obj h.b0)).trans h.b0) 0 (.map r)) 1 (.slice V' vs'.length vc')) 2 (.slice T' tys'.length tc')
    simpa using this
  have e1 : W.heap[w.heap.size + 1]? = _ := (g.block _ (by omega) (fun e => by injection e with e; omega)).trans ((o1 _ (by omega) (lt_of_obj h.b1)).trans h.b1)
  have off : ∀ {A : Option Addr} {m : Nat} (k : Nat), (∀ c o, A = some ⟨c, o, none⟩ → wx.heap.size ≤ c) → ∀ {q : Nat} {xs : List Value}, Row w' A q m xs → k < wx.heap.size → OffB k A m := fun k hn q xs hr hk hne a ha => by
    obtain ⟨b, o, e, -, -⟩ := hr.2 (Nat.pos_of_ne_zero hne)
    have := hn b o e
    rw [e] at ha
    injection ha with ha
    subst ha
    show b ≠ k
    omega
  have fr : ∀ k, k < wx.heap.size → OffB k V' vs'.length ∧ OffB k T' tys'.length ∧ OffB k A' own'.length := fun k hk => ⟨off k nV hV hk, fun hn => off k nT hT hk (by simpa using hn), off k nA hA hk⟩
  have hcn : CnIn w' r V' T' n ⟨c.names, vs', tys'⟩ := ⟨h.cn.nm.grown h.cnt g1, hV, hT, hl⟩
  have f0 := fr w.heap.size (by omega)
  have f1 := fr (w.heap.size + 1) (by omega)
  have hsz := h.g.size
  exact ⟨(g2.block _ (by omega) (fun e => by injection e with e; omega)).trans e0, by have := blk_setCell e1 3 (.slice A' own'.length ac'); simpa using this, (o _ (by omega) (by omega) (by omega)).trans ((o1 _ (by omega) (lt_of_obj h.b2)).trans h.b2),
    (hcn.grown ((o1 _ (by omega) (lt_of_obj h.b0)).trans h.b0) g f0.1 f0.2.1).grown e1 g2 f1.1 f1.2.1, row_off (row_off hA g f0.2.2) g2 f1.2.2, a1, a2, h.txt, fun k hk _ => (fr k (by omega)).2.2,
    fun k hk => fr k (by rcases hk with rfl | hk <;> omega), (o _ (by omega) (by omega) (by omega)).trans hc, grown_own (grown_own (grown_tr h.g g1) g (fun j e => by injection e with e; omega)) g2 (fun j e => by injection e with e; omega)⟩
/-- One more name in the map. -/
theorem TmSt.put {b : Nat} (h : TmSt w cb t n c s vs nv nn (some b) V vc T tc A ac wx) (hcb : cb < w.heap.size) {w' : World} (hb : w.heap.size ≤ b) (g : wx.grownBy w' (some b)) (x y : Str) {n' : Nat} (hm : MapS w' b n' (fun s => if s = x then some y else c.look s)) :
    TmSt w cb t n' ⟨(x, y) :: c.names, c.vars, c.tys⟩ s vs nv nn (some b) V vc T tc A ac w' := by
  have hmb : MapS wx b n c.look := by
    rcases h.cn.nm with ⟨e, -⟩ | ⟨b', e, k⟩
    · cases e
    · injection e with e; injection e with e; subst e; exact k
  have ne : ∀ {j : Nat} {cs : Array Value} {ty : TypeId} {fr : Nat × Nat}, wx.heap[j]? = some (.cells cs ty fr) → w'.heap[j]? = some (.cells cs ty fr) := fun hj => (g.block _ (lt_of_obj hj) (fun e => map_ne_cells hmb hj (by injection e))).trans hj
  have row : ∀ {A : Option Addr} {k m : Nat} {xs : List Value}, 0 < k → Row wx A k m xs → Row w' A k m xs := fun {A k m xs} hk hr => by
    rcases Nat.eq_zero_or_pos m with h0 | h0
    · exact ⟨hr.1, fun hm => absurd hm (by omega)⟩
    · refine hr.keep g.size fun b1 o e hb1 => g.block b1 hb1 fun hbr => ?_
      injection hbr with hbr
      subst hbr
      obtain ⟨b', o', e', _, hc⟩ := hr.2 h0
      rw [e] at e'
      injection e' with e'
      injection e' with e1 e2
      subst e1 e2
      have hl : 0 < xs.length := by rw [hr.1]; exact Nat.mul_pos h0 hk
      have := hc 0 _ (List.getElem?_eq_getElem hl)
      obtain ⟨D, ⟨es, clock, hbk, _⟩, _⟩ := hmb
      simp [World.cell?, hbk] at this
  exact ⟨ne h.b0, ne h.b1, ne h.b2, ⟨.inr ⟨b, rfl, by rw [show (⟨(x, y) :: c.names, c.vars, c.tys⟩ : Cn).look = fun s => if s = x then some y else c.look s from funext (look_cons c x y)]; exact hm⟩, row (by decide) h.cn.vars, row (by decide) h.cn.tys, h.cn.len⟩, row (by decide) h.own, h.ale, h.amx, h.txt, h.away, h.far, ne h.cnt, grown_own h.g g (fun j e => by injection e with e; omega)⟩
end
def numS (i : Int) : Str := digs i.toNat
theorem can_room (t : Tm) : FewM t → ∀ (c : Cn) (V L : Int), V ≤ (canQ numS t.pure c V L).2.1 ∧ (canQ numS t.pure c V L).2.1 ≤ V + (t.size * 10000 : Nat) ∧ L ≤ (canQ numS t.pure c V L).2.2 ∧ (canQ numS t.pure c V L).2.2 ≤ L + (t.size : Nat) := by
  induction t using Tm.ind with
  | h t ih =>
  intro hf c V L
  have hl : ∀ (l : List Tm), (∀ x ∈ l, x ∈ t.kids) → ∀ (c : Cn) (V L : Int), V ≤ (canQs numS (l.map Tm.pure) c V L).2.1 ∧ (canQs numS (l.map Tm.pure) c V L).2.1 ≤ V + (((l.map Tm.size).sum * 10000 : Nat) : Int) ∧ L ≤ (canQs numS (l.map Tm.pure) c V L).2.2 ∧ (canQs numS (l.map Tm.pure) c V L).2.2 ≤ L + ((l.map Tm.size).sum : Nat) := by
    intro l
    induction l with
    | nil => intro _ c V L; exact ⟨Int.le_refl _, by show V ≤ V + ((0 * 10000 : Nat) : Int); omega, Int.le_refl _, by show L ≤ L + ((0 : Nat) : Int); omega⟩
    | cons x l ihl =>
      intro hx c V L
      rw [List.map_cons, canQs_cons]
      obtain ⟨a1, a2, a3, a4⟩ := ih x (hx x (by simp)) (hf.kids x (hx x (by simp))) c V L
      obtain ⟨b1, b2, b3, b4⟩ := ihl (fun y hy => hx y (List.mem_cons_of_mem _ hy)) c (canQ numS x.pure c V L).2.1 (canQ numS x.pure c V L).2.2
      simp only [List.map_cons, List.sum_cons]
      rw [Nat.add_mul]
      refine ⟨Int.le_trans a1 b1, ?_, Int.le_trans a3 b3, ?_⟩
      · show (canQs numS (l.map Tm.pure) c _ _).2.1 ≤ _
        omega
      · show (canQs numS (l.map Tm.pure) c _ _).2.2 ≤ _
        omega
  rw [Tm.pure_eq, canQ_eq]
  have hs : V ≤ (stepQ numS t.kind t.name t.vars (t.kids.map Tm.pure) c V L).2.2.2.1 ∧ (stepQ numS t.kind t.name t.vars (t.kids.map Tm.pure) c V L).2.2.2.1 ≤ V + 10000 ∧ L ≤ (stepQ numS t.kind t.name t.vars (t.kids.map Tm.pure) c V L).2.2.2.2 ∧ (stepQ numS t.kind t.name t.vars (t.kids.map Tm.pure) c V L).2.2.2.2 ≤ L + 1 := by
    have hv := hf.vl
    unfold stepQ
    split
    · exact ⟨Int.le_refl _, by show V ≤ V + 10000; omega, Int.le_refl _, by show L ≤ L + 1; omega⟩
    split
    · exact ⟨by show V ≤ V + (t.vars.length : Int); omega, by show V + (t.vars.length : Int) ≤ V + 10000; omega, Int.le_refl _, by show L ≤ L + 1; omega⟩
    split
    · exact ⟨Int.le_refl _, by show V ≤ V + 10000; omega, by show L ≤ L + 1; omega, Int.le_refl _⟩
    · exact ⟨Int.le_refl _, by show V ≤ V + 10000; omega, Int.le_refl _, by show L ≤ L + 1; omega⟩
  generalize stepQ numS t.kind t.name t.vars (t.kids.map Tm.pure) c V L = q at *
  obtain ⟨s1, s2, s3, s4⟩ := hs
  obtain ⟨b1, b2, b3, b4⟩ := hl t.kids (fun _ h => h) q.1 q.2.2.2.1 q.2.2.2.2
  rw [Tm.size_eq]
  rw [Nat.add_mul]
  refine ⟨Int.le_trans s1 b1, ?_, Int.le_trans s3 b3, ?_⟩
  · show (canQs numS (t.kids.map Tm.pure) q.1 _ _).2.1 ≤ _
    omega
  · show (canQs numS (t.kids.map Tm.pure) q.1 _ _).2.2 ≤ _
    omega

theorem preB_sharp (s : Str) : preB 35 s = sharpB s := by
  cases s with
  | nil => rfl
  | cons b l => rfl
/-- Both parts of a step. -/
theorem step_both {t : Tm} {c cA cQ : Cn} {nv nA nQ : Int} {m : Nat} {mQ : Int} {sA sQ : Str} {vA vQ : List Int} (hA : stepA t.kind t.name t.vars (bindsM t) c nv = (cA, sA, vA, nA)) (hQ : stepQ numS t.kind t.name t.vars (t.kids.map Tm.pure) c nv m = (cQ, sQ, vQ, nQ, mQ)) :
    ((((t.kind == 3) && preB 35 sA) = true → t.kind = 3 ∧ cQ = ⟨(sA, 35 :: digs m) :: cA.names, cA.vars, cA.tys⟩ ∧ sQ = 35 :: digs m ∧ vQ = vA ∧ nQ = nA ∧ mQ = (m : Int) + 1) ∧
     (((t.kind == 3) && preB 35 sA) = false → cQ = cA ∧ sQ = sA ∧ vQ = vA ∧ nQ = nA ∧ mQ = m)) := by
  have hs : t.kind = 3 → sA = t.name := fun h => by
    unfold stepA at hA
    rw [if_neg (by omega), if_neg (by omega)] at hA
    exact (congrArg (fun x => x.2.1) hA).symm
  have hb : bindsM t = bindsQ t.kind t.name (t.kids.map Tm.pure) := rfl
  rw [hb] at hA
  constructor
  · intro h
    rw [Bool.and_eq_true, beq_iff_eq] at h
    have e := hs h.1
    subst e
    rw [step_sharp numS t.kind t.name t.vars _ c nv m h.1 (by rw [← preB_sharp]; exact h.2), hA] at hQ
    injection hQ with q1 q2
    injection q2 with q2 q3
    injection q3 with q3 q4
    injection q4 with q4 q5
    exact ⟨h.1, q1.symm, q2.symm, q3.symm, q4.symm, q5.symm⟩
  · intro h
    have hn : ¬ (t.kind = 3 ∧ sharpB t.name = true) := fun ⟨h1, h2⟩ => by
      rw [hs h1, preB_sharp, h2, h1] at h
      exact absurd h (by decide)
    rw [step_plain numS t.kind t.name t.vars _ c nv m hn, hA] at hQ
    injection hQ with q1 q2
    injection q2 with q2 q3
    injection q3 with q3 q4
    injection q4 with q4 q5
    exact ⟨q1.symm, q2.symm, q3.symm, q4.symm, q5.symm⟩

end Go.Proofs.YtjacjpeeinnkcaaGreat

/- Chapter 32's example: what it comes to. No program in sight. -/
namespace Go.Proofs.YtjacjpeeinnkcaaGreat
open Go.RowKit

def exX : Tm.Pure := .mk 1 0 [35, 120] [] [] []
def exL : Tm.Pure := .mk 3 0 [35, 120] [] [.mk [] 7 []] [exX]
def exA : Tm.Pure := .mk 5 0 [] [7] [] [exL]
def exC : Tm.Pure := .mk 5 0 [] [0] [] [.mk 3 0 [35, 48] [] [.mk [] 0 []] [.mk 1 0 [35, 48] [] [] []]]
def exF : Tm.Pure := .mk 3 0 [120] [] [.mk [73, 110, 116] 0 []] [.mk 4 0 [] [] [] [exX, exX]]
theorem digs0 : digs 0 = [48] := by rw [digs_lo (by decide)]; rfl
theorem ex_canon : (canQs numS [exA] ⟨[], [], []⟩ 0 0).1 = [exC] := by
  have h0 : numS 0 = [48] := digs0
  simp only [canQs_cons, exA, exL, exX, canQ_eq, canQs]
  simp [stepQ, rowI, List.range_succ, sharpB, h0, typQ_eq, varAt, idxI, Cn.within, Cn.look, bindsQ, exC]

theorem one_of {α β : Type} {f : α → β} {l : List α} {y : β} (h : l.map f = [y]) : ∃ x, l = [x] ∧ f x = y := by
  match l, h with
  | [x], h => exact ⟨x, rfl, by simpa using h⟩
theorem two_of {α β : Type} {f : α → β} {l : List α} {y z : β} (h : l.map f = [y, z]) : ∃ a b, l = [a, b] ∧ f a = y ∧ f b = z := by
  match l, h with
  | [a, b], h => exact ⟨a, b, rfl, by simpa using h⟩
theorem nil_of {α β : Type} {f : α → β} {l : List α} (h : l.map f = []) : l = [] := by simpa using h
theorem tm_of {u : Tm} {k n : Int} {s : Str} {vs : List Int} {ts : List Ty.Pure} {l : List Tm.Pure} (h : u.pure = .mk k n s vs ts l) :
    ∃ V vc T tc ty A cap ks, u = .mk k n s V vc vs T tc ty A cap ks ∧ ty.map Ty.pure = ts ∧ ks.map Tm.pure = l := by
  obtain ⟨k', n', s', V, vc, vs', T, tc, ty, A, cap, ks⟩ := u
  rw [Tm.pure_eq] at h
  injection h with h1 h2 h3 h4 h5 h6
  have h1 : k' = k := h1
  have h2 : n' = n := h2
  have h3 : s' = s := h3
  have h4 : vs' = vs := h4
  subst h1 h2 h3 h4
  exact ⟨V, vc, T, tc, ty, A, cap, ks, rfl, h5, h6⟩
theorem ty_of {u : Ty} {s : Str} {v : Int} (h : u.pure = .mk s v []) : ∃ A c, u = .mk s v A c [] := by
  obtain ⟨s', v', A, c, l⟩ := u
  rw [Ty.pure_eq] at h
  injection h with h1 h2 h3
  have h1 : s' = s := h1
  have h2 : v' = v := h2
  have h3 : l.map Ty.pure = [] := h3
  subst h1 h2
  have := nil_of h3
  subst this
  exact ⟨A, c, rfl⟩
section
variable (V V1 V2 : Option Addr) (vc vc1 vc2 : Nat) (T T1 T2 : Option Addr) (tc tc1 tc2 : Nat) (A A1 A2 : Option Addr) (cap cap1 cap2 : Nat) (B : Option Addr) (bc : Nat)
def tmX (s : Str) : Tm := .mk 1 0 s V vc [] T tc [] A cap []
def tyA (v : Int) : Ty := .mk [] v B bc []
theorem tyA_legal (v : Int) : legalD (tyA B bc v) = true := by
  have hc : classS [] = [] := by rfl
  unfold legalD
  rw [Ty.size_eq, Ty.depth_eq, shapeD_eq]
  simp [tyA, Ty.args, Ty.con, Ty.var, headOk]
theorem tyI_legal : legalD (.mk [73, 110, 116] 0 B bc []) = true := by
  unfold legalD
  rw [Ty.size_eq, Ty.depth_eq, shapeD_eq]
  show (_ && _ && ((dictB (Ty.mk [73, 110, 116] 0 B bc []) || headOk [73, 110, 116] 0 0) && _)) = true
  rw [show headOk [73, 110, 116] 0 0 = true from by decide]
  simp [Ty.args]
theorem tyS_tyA0 : tyS (tyA B bc 0) = [97] := by
  unfold tyS polyS
  rw [if_pos (tyA_legal B bc 0), if_pos rfl, textT_else (by rintro ⟨h, -⟩; cases h)]
  show (if ([] : Str) = [] then varS 0 else []) ++ restT [] = _
  rw [if_pos rfl]
  rfl
theorem tyS_int : tyS (.mk [73, 110, 116] 0 B bc []) = [73, 110, 116] := by
  unfold tyS polyS
  rw [if_pos (tyI_legal B bc), if_pos rfl, textT_else (by rintro ⟨h, -⟩; cases h)]
  rfl
end

/-! The terms of the example, by their pures. -/
theorem exV_of {t : Tm} {s : Str} (h : t.pure = .mk 1 0 s [] [] []) : ∃ V vc T tc A cap, t = .mk 1 0 s V vc [] T tc [] A cap [] := by
  obtain ⟨V, vc, T, tc, ty, A, cap, ks, rfl, h1, h2⟩ := tm_of h
  cases nil_of h1
  cases nil_of h2
  exact ⟨V, vc, T, tc, A, cap, rfl⟩
theorem exL_of {t : Tm} {s s' c : Str} {v : Int} (h : t.pure = .mk 3 0 s [] [.mk c v []] [.mk 1 0 s' [] [] []]) :
    ∃ V vc T tc A cap B bc V1 vc1 T1 tc1 A1 cap1, t = .mk 3 0 s V vc [] T tc [.mk c v B bc []] A cap [.mk 1 0 s' V1 vc1 [] T1 tc1 [] A1 cap1 []] := by
  obtain ⟨V, vc, T, tc, ty, A, cap, ks, rfl, h1, h2⟩ := tm_of h
  obtain ⟨x, rfl, hx⟩ := one_of h1
  obtain ⟨y, rfl, hy⟩ := one_of h2
  obtain ⟨B, bc, rfl⟩ := ty_of hx
  obtain ⟨V1, vc1, T1, tc1, A1, cap1, rfl⟩ := exV_of hy
  exact ⟨_, _, _, _, _, _, _, _, _, _, _, _, _, _, rfl⟩
theorem exA_of {t : Tm} {vs : List Int} {s s' c : Str} {v : Int} (h : t.pure = .mk 5 0 [] vs [] [.mk 3 0 s [] [.mk c v []] [.mk 1 0 s' [] [] []]]) :
    ∃ V vc T tc A cap u, t = .mk 5 0 [] V vc vs T tc [] A cap [u] ∧ u.pure = .mk 3 0 s [] [.mk c v []] [.mk 1 0 s' [] [] []] := by
  obtain ⟨V, vc, T, tc, ty, A, cap, ks, rfl, h1, h2⟩ := tm_of h
  cases nil_of h1
  obtain ⟨y, rfl, hy⟩ := one_of h2
  exact ⟨_, _, _, _, _, _, y, rfl, hy⟩
theorem exF_of {t : Tm} (h : t.pure = exF) : ∃ V vc T tc A cap B bc u, t = .mk 3 0 [120] V vc [] T tc [.mk [73, 110, 116] 0 B bc []] A cap [u] ∧
    ∃ V vc T tc A cap x y, u = .mk 4 0 [] V vc [] T tc [] A cap [x, y] ∧ x.pure = exX ∧ y.pure = exX := by
  obtain ⟨V, vc, T, tc, ty, A, cap, ks, rfl, h1, h2⟩ := tm_of h
  obtain ⟨x, rfl, hx⟩ := one_of h1
  obtain ⟨y, rfl, hy⟩ := one_of h2
  obtain ⟨B, bc, rfl⟩ := ty_of hx
  obtain ⟨V1, vc1, T1, tc1, ty1, A1, cap1, ks1, rfl, k1, k2⟩ := tm_of hy
  cases nil_of k1
  obtain ⟨p, q, rfl, hp, hq⟩ := two_of k2
  exact ⟨_, _, _, _, _, _, _, _, _, rfl, _, _, _, _, _, _, p, q, rfl, hp, hq⟩

theorem fold_one (x : Nat) : List.foldr max 0 [x] = x := by simp
theorem exV_size {t : Tm} {s : Str} (h : t.pure = .mk 1 0 s [] [] []) : t.size = 1 ∧ t.depth = 1 ∧ t.types = [] := by
  obtain ⟨V, vc, T, tc, A, cap, rfl⟩ := exV_of h
  refine ⟨?_, ?_, rfl⟩
  · rw [Tm.size_eq]; rfl
  · rw [Tm.depth_eq]; rfl
theorem exV_tb {t : Tm} {s : Str} (h : t.pure = .mk 1 0 s [] [] []) (hs : (s == []) = false) : t.tb.term = true := by
  obtain ⟨V, vc, T, tc, A, cap, rfl⟩ := exV_of h
  rw [tb_eq]
  have : fitsM (.mk 1 0 s V vc [] T tc [] A cap []) = true := by
    unfold fitsM
    show (fitsOf 1 0 (!(s == [])) 0 0 0 && true) = true
    rw [hs]
    rfl
  rw [this]
  rfl
end Go.Proofs.YtjacjpeeinnkcaaGreat

/- Chapter 32's example: sizes, legality. No program in sight. -/
namespace Go.Proofs.YtjacjpeeinnkcaaGreat
open Go.RowKit

theorem exLam_size {t : Tm} {s s' c : Str} {v : Int} (h : t.pure = .mk 3 0 s [] [.mk c v []] [.mk 1 0 s' [] [] []]) : t.size = 2 ∧ t.depth = 2 := by
  obtain ⟨V, vc, T, tc, A, cap, B, bc, V1, vc1, T1, tc1, A1, cap1, rfl⟩ := exL_of h
  have hk := exV_size (t := .mk 1 0 s' V1 vc1 [] T1 tc1 [] A1 cap1 []) (s := s') (by rw [Tm.pure_eq]; rfl)
  refine ⟨?_, ?_⟩
  · rw [Tm.size_eq]
    show ([Tm.mk 1 0 s' V1 vc1 [] T1 tc1 [] A1 cap1 []].map Tm.size).sum + 1 = 2
    rw [List.map_cons, hk.1]
    rfl
  · rw [Tm.depth_eq]
    show ([Tm.mk 1 0 s' V1 vc1 [] T1 tc1 [] A1 cap1 []].map Tm.depth).foldr max 0 + 1 = 2
    rw [List.map_cons, hk.2.1]
    rfl
theorem exLam_tb {t : Tm} {s s' : Str} {v : Int} (h : t.pure = .mk 3 0 s [] [.mk [] v []] [.mk 1 0 s' [] [] []]) (hs : (s == []) = false) (hs' : (s' == []) = false) : t.tb.term = true := by
  obtain ⟨V, vc, T, tc, A, cap, B, bc, V1, vc1, T1, tc1, A1, cap1, rfl⟩ := exL_of h
  have hk := exV_tb (t := .mk 1 0 s' V1 vc1 [] T1 tc1 [] A1 cap1 []) (s := s') (by rw [Tm.pure_eq]; rfl) hs'
  rw [tb_eq]
  have : fitsM (.mk 3 0 s V vc [] T tc [.mk [] v B bc []] A cap [.mk 1 0 s' V1 vc1 [] T1 tc1 [] A1 cap1 []]) = true := by
    unfold fitsM
    show (fitsOf 3 0 (!(s == [])) 0 1 1 && (legalD (tyA B bc v) && true)) = true
    rw [hs, tyA_legal]
    rfl
  rw [this]
  show (true && ((Tm.tb (.mk 1 0 s' V1 vc1 [] T1 tc1 [] A1 cap1 [])).term && true)) = true
  rw [hk]
  rfl
theorem exAll_facts {t : Tm} {vs : List Int} {s s' : Str} {v : Int} (h : t.pure = .mk 5 0 [] vs [] [.mk 3 0 s [] [.mk [] v []] [.mk 1 0 s' [] [] []]]) (hs : (s == []) = false) (hs' : (s' == []) = false) : t.size = 3 ∧ legalM t = true := by
  obtain ⟨V, vc, T, tc, A, cap, u, rfl, hu⟩ := exA_of h
  obtain ⟨k1, k2⟩ := exLam_size hu
  have k3 := exLam_tb hu hs hs'
  have e1 : (Tm.mk 5 0 [] V vc vs T tc [] A cap [u]).size = 3 := by
    rw [Tm.size_eq]
    show ([u].map Tm.size).sum + 1 = 3
    rw [List.map_cons, k1]
    rfl
  have e2 : (Tm.mk 5 0 [] V vc vs T tc [] A cap [u]).depth = 3 := by
    rw [Tm.depth_eq]
    show ([u].map Tm.depth).foldr max 0 + 1 = 3
    rw [List.map_cons, k2]
    rfl
  refine ⟨e1, ?_⟩
  unfold legalM
  rw [e1, e2, tb_eq]
  have : fitsM (.mk 5 0 [] V vc vs T tc [] A cap [u]) = true := by
    unfold fitsM
    show (fitsOf 5 0 false vs.length 0 1 && true) = true
    unfold fitsOf
    simp [shapeK]
  rw [this]
  show (true && true && (true && (u.tb.term && true))) = true
  rw [k3]
  rfl
theorem exF_facts {t : Tm} (h : t.pure = exF) : t.size = 4 ∧ legalM t = true := by
  obtain ⟨V, vc, T, tc, A, cap, B, bc, u, rfl, V1, vc1, T1, tc1, A1, cap1, x, y, rfl, hx, hy⟩ := exF_of h
  obtain ⟨x1, x2, -⟩ := exV_size hx
  obtain ⟨y1, y2, -⟩ := exV_size hy
  have x3 := exV_tb hx rfl
  have y3 := exV_tb hy rfl
  have u1 : (Tm.mk 4 0 [] V1 vc1 [] T1 tc1 [] A1 cap1 [x, y]).size = 3 := by
    rw [Tm.size_eq]
    show ([x, y].map Tm.size).sum + 1 = 3
    rw [List.map_cons, List.map_cons, x1, y1]
    rfl
  have u2 : (Tm.mk 4 0 [] V1 vc1 [] T1 tc1 [] A1 cap1 [x, y]).depth = 2 := by
    rw [Tm.depth_eq]
    show ([x, y].map Tm.depth).foldr max 0 + 1 = 2
    rw [List.map_cons, List.map_cons, x2, y2]
    rfl
  have u3 : (Tm.mk 4 0 [] V1 vc1 [] T1 tc1 [] A1 cap1 [x, y]).tb.term = true := by
    rw [tb_eq]
    show (true && (x.tb.term && (y.tb.term && true))) = true
    rw [x3, y3]
    rfl
  generalize hu : Tm.mk 4 0 [] V1 vc1 [] T1 tc1 [] A1 cap1 [x, y] = u at *
  have e1 : (Tm.mk 3 0 [120] V vc [] T tc [.mk [73, 110, 116] 0 B bc []] A cap [u]).size = 4 := by
    rw [Tm.size_eq]
    show ([u].map Tm.size).sum + 1 = 4
    rw [List.map_cons, u1]
    rfl
  have e2 : (Tm.mk 3 0 [120] V vc [] T tc [.mk [73, 110, 116] 0 B bc []] A cap [u]).depth = 3 := by
    rw [Tm.depth_eq]
    show ([u].map Tm.depth).foldr max 0 + 1 = 3
    rw [List.map_cons, u2]
    rfl
  refine ⟨e1, ?_⟩
  unfold legalM
  rw [e1, e2, tb_eq]
  have : fitsM (.mk 3 0 [120] V vc [] T tc [.mk [73, 110, 116] 0 B bc []] A cap [u]) = true := by
    unfold fitsM
    show (fitsOf 3 0 true 0 1 1 && (legalD (.mk [73, 110, 116] 0 B bc []) && true)) = true
    rw [tyI_legal]
    rfl
  rw [this]
  show (true && true && (true && (u.tb.term && true))) = true
  rw [u3]
  rfl
/-- The term of nothing is no term. -/
theorem zero_legalM {t : Tm} (h : t.kind = 0) : legalM t = false := by
  unfold legalM
  rw [tb_eq]
  have : fitsM t = false := by
    unfold fitsM fitsOf
    rw [h]
    rfl
  rw [this]
  show (_ && _ && ((_ && false) && _)) = false
  simp
end Go.Proofs.YtjacjpeeinnkcaaGreat

/- Contracts: whether terms are not too great. -/
namespace Go.Proofs.YtjacjpeeinnkcaaGreat
open Go.RowKit

/-- Not too many variables and types, no types too great, all the way down. -/
inductive F32 : Tm → Prop
  | mk {t : Tm} (v : t.vars.length ≤ 100) (ty : t.types.length ≤ 30) (tys : tsizes t.types ≤ 20000) (kids : ∀ k ∈ t.kids, F32 k) : F32 t
theorem F32.kids {t : Tm} (h : F32 t) : ∀ k ∈ t.kids, F32 k := by cases h; assumption
theorem tsizes_mem {l : List Ty} {x : Ty} (h : x ∈ l) : x.size ≤ tsizes l := by
  unfold tsizes
  induction l with
  | nil => cases h
  | cons y l ih =>
    rw [List.map_cons, List.sum_cons]
    rcases List.mem_cons.1 h with rfl | h
    · omega
    · have := ih h; omega
theorem F32.few {t : Tm} (h : F32 t) : t.size ≤ 1000000 → FewM t := by
  induction h with
  | mk v ty tys _ ih =>
    rename_i t _
    intro hs
    exact .mk (by omega) (fun x hx => by have := tsizes_mem hx; omega) (by have := t.kids_len; omega) (by omega) (fun k hk => ih k hk (by have := Tm.size_kid hk; omega))
theorem F32.vsz {t : Tm} (h : F32 t) : vszM t ≤ t.size * 20000 := by
  induction h with
  | mk v ty tys _ ih =>
    rename_i t _
    rw [vszM_eq, Tm.size_eq, Nat.add_mul]
    have h1 : ∀ l : List Tm, (∀ k ∈ l, vszM k ≤ k.size * 20000) → (l.map vszM).sum ≤ (l.map Tm.size).sum * 20000 := by
      intro l
      induction l with
      | nil => intro _; simp
      | cons x l ihl =>
        intro hx
        have a := hx x (by simp)
        have b := ihl (fun y hy => hx y (List.mem_cons_of_mem _ hy))
        simp only [List.map_cons, List.sum_cons, Nat.add_mul]
        omega
    have := h1 t.kids ih
    have h2 : (t.types.map Ty.size).sum ≤ 20000 := tys
    omega
theorem dmaxM_take {l : List Tm} {k : Nat} (h : k < l.length) : ((l.take (k + 1)).map Tm.depth).foldr max 0 = max (((l.take k).map Tm.depth).foldr max 0) (l[k]'h).depth := by
  have ms : ∀ (l : List Nat) (x : Nat), (l ++ [x]).foldr max 0 = max (l.foldr max 0) x := by
    intro l x
    induction l with
    | nil => simp
    | cons y l ih => simp only [List.cons_append, List.foldr_cons, ih]; omega
  rw [List.take_succ_eq_append_getElem h, List.map_append, List.map_singleton, ms]
/-- What is left of so many is told aright, unless it is below 0. -/
def LeftM (t : Tm) (L D v : Int) : Prop := (v ≤ L - 1 ∨ v ≤ -1) ∧ (-1 ≤ v ∨ L - 1 ≤ v) ∧ (0 ≤ v → v = L - t.size ∧ (t.depth : Int) ≤ D ∧ F32 t)

set_option maxRecDepth 10000 in
set_option maxHeartbeats 4000000 in
theorem l_count32 (t : Tm) : ∀ (L D : Int) (w : World), TmIn w t → -1000000 ≤ L → L ≤ 1000000 → -1000000 ≤ D → D ≤ 1000000 →
    Calls Tryz.prog 49 #[tmV t, .int .i64 L, .int .i64 D] w fun e w' => (∃ v : Int, e = .returned (.int .i64 v) ∧ LeftM t L D v) ∧ Ext w w' := by
  induction t using Tm.ind with
  | h t ih =>
  intro L D w h h0 hL hD0 hD
  have IH := hide ih
  have Hk := hide h.all
  have Hty := hide h.hd.types
  have hle := h.hd.le
  have hmx := h.hd.max
  have HB0 := hide (TmBox.new w t)
  have X0 : Hid (Ext w (w.alloc (.cells #[.int .i64 t.kind, .int .i64 t.n, encStr t.name, .slice t.V t.vars.length t.vc, .slice t.T t.types.length t.tc, .slice t.A t.kids.length t.cap] 31))) := hide ((Ext.refl w).alloc _)
  have HS : Hid (t.size = msizes t.kids + 1) := hide (Tm.size_eq t)
  have HD : Hid (t.depth = (t.kids.map Tm.depth).foldr max 0 + 1) := hide (Tm.depth_eq t)
  have HSt := hide (fun k (hk : k < t.kids.length) => msizes_take t.kids hk)
  have HDt := hide (fun k (hk : k < t.kids.length) => dmaxM_take (l := t.kids) hk)
  obtain ⟨c0, c1, c2, c3, c4, c5⟩ := HB0.out.cells
  clear ih h
  unfold tmV
  by_cases hd : D < 1
  · go_enter Tryz.func49, Tryz.ntmps49
    go_wp2
    go_ret
    exact ⟨⟨-1, rfl, .inr (by omega), .inl (by omega), fun h => by omega⟩, X0.out⟩
  by_cases hv : (t.vars.length : Int) > 100
  · go_enter Tryz.func49, Tryz.ntmps49
    go_wp2
    go_ret
    exact ⟨⟨-1, rfl, .inr (by omega), .inl (by omega), fun h => by omega⟩, X0.out⟩
  by_cases ht : (t.types.length : Int) > 30
  · go_enter Tryz.func49, Tryz.ntmps49
    go_wp2
    go_ret
    exact ⟨⟨-1, rfl, .inr (by omega), .inl (by omega), fun h => by omega⟩, X0.out⟩
  have HFw := hide (fun w' (e : Ext w w') => hide (l_few16 t.T t.tc t.types w' (Hty.out.ext e) (by omega)))
  go_enter Tryz.func49, Tryz.ntmps49
  go_wp2_with fail
  refine (HFw.out _ X0.out).out.mono ?_
  rintro e w1 ⟨⟨r, rfl, hr⟩, hx1⟩
  rcases hr with rfl | ⟨rfl, hts, -⟩
  · go_wp2
    go_ret
    exact ⟨⟨-1, rfl, .inr (by omega), .inl (by omega), fun h => by omega⟩, X0.out.trans hx1⟩
  have X1 := hide (X0.out.trans hx1)
  have HB1 := hide (HB0.out.ext hx1)
  have Hts := hide hts
  have Hv := hide hv
  have Ht := hide ht
  clear hx1 hts c0 c1 c2 c3 c4 c5 HFw HB0 hv ht
  go_wp2
  rename World => w0
  go_loopw [1, 7] (fun v i wr => ∃ (k : Nat) (V : Int), k ≤ t.kids.length ∧ i = .int .i64 k ∧ v = .int .i64 V ∧ (V ≤ L - 1 ∨ V ≤ -1) ∧ (-1 ≤ V ∨ L - 1 ≤ V) ∧ Hid (0 ≤ V → V = L - 1 - msizes (t.kids.take k) ∧ ((((t.kids.take k).map Tm.depth).foldr max 0 : Nat) : Int) + 1 ≤ D ∧ ∀ x ∈ t.kids.take k, F32 x) ∧ Hid (Ext w0 wr)) (fun _ i _ => t.kids.length - (intOf i).toNat)
  case atStart => exact ⟨0, L - 1, Nat.zero_le _, rfl, rfl, by omega, by omega, hide (fun _ => by simp [msizes]; omega), hide (Ext.refl _)⟩
  case round =>
    obtain ⟨k, V, hk, rfl, rfl, hV1, hV2, HV, HX⟩ := hrel
    have HB := hide (HB1.out.ext HX.out)
    obtain ⟨-, -, -, -, -, c5⟩ := HB.out.cells
    by_cases hlt : k < t.kids.length
    · have hlt' : (k : Int) < (t.kids.length : Int) := by omega
      have hk0 : (0 : Int) ≤ (k : Int) := by omega
      by_cases hv0 : V ≥ 0
      · obtain ⟨b, o, hA, hb, q0, q1, q2, q3, q4, q5⟩ := (Hk.out.ext (X1.out.trans HX.out)).at_ hlt
        have HC := hide (IH.out _ (List.getElem_mem hlt) V (D - 1) wr ((Hk.out.kids _ (List.getElem_mem hlt)).ext (X1.out.trans HX.out)) (by omega) (by omega) (by omega) (by omega))
        have Hst := hide (HSt.out k hlt)
        have Hdt := hide (HDt.out k hlt)
        have Htk : Hid (t.kids.take (k + 1) = t.kids.take k ++ [t.kids[k]'hlt]) := hide (List.take_succ_eq_append_getElem hlt)
        rw [hA] at c5; clear hA
        generalize t.kids[k]'hlt = c at *
        generalize msizes (t.kids.take k) = s at *
        generalize ((t.kids.take k).map Tm.depth).foldr max 0 = d at *
        unfold tmV at HC
        go_wp2_with fail
        refine HC.out.mono ?_
        rintro e w3 ⟨⟨v, rfl, hv⟩, hx3⟩
        have X3 := hide (HX.out.trans hx3)
        have Hv := hide hv
        clear hx3 hv
        go_wp2
        go_roundw
        case rel =>
          obtain ⟨a1, a2, a3⟩ := Hv.out
          have a4 := HV.out
          exact ⟨k + 1, v, hlt, by go_num, rfl, by omega, by omega, hide (fun hv => by
            rw [Hst.out, Hdt.out]
            obtain ⟨b1, b2, b5⟩ := a3 hv
            obtain ⟨b3, b4, b6⟩ := a4 hv0
            refine ⟨by omega, by omega, fun x hx => ?_⟩
            rw [Htk.out, List.mem_append, List.mem_singleton] at hx
            rcases hx with hx | rfl
            · exact b6 x hx
            · exact b5), X3⟩
        case measure => simp [intOf]; omega
      · go_wp2
        go_ret
        exact ⟨⟨V, rfl, hV1, hV2, fun h => absurd h (by omega)⟩, X1.out.trans HX.out⟩
    · have hge : ¬ (k : Int) < (t.kids.length : Int) := by omega
      have hT : t.kids.take k = t.kids := List.take_of_length_le (by omega)
      have HF : Hid (LeftM t L D V) := hide ⟨hV1, hV2, fun h => by
        have := HV.out h
        rw [HS.out, HD.out]
        rw [hT] at this
        have hv' := Hv.out
        have ht' := Ht.out
        exact ⟨by omega, by omega, .mk (by omega) (by omega) Hts.out this.2.2⟩⟩
      clear hT HV
      go_wp2
      go_ret
      exact ⟨⟨V, rfl, HF.out⟩, X1.out.trans HX.out⟩

set_option maxRecDepth 10000 in
set_option maxHeartbeats 2000000 in
theorem l_few32 (A : Option Addr) (cap : Nat) (l : List Tm) (w : World) (h : TmsIn w A l) (hle : l.length ≤ 100000) :
    Calls Tryz.prog 9 #[.slice A l.length cap] w fun e w' => (∃ r : Int, e = .returned (.int .i64 r) ∧ (r = 0 ∨ (r = 1 ∧ msizes l ≤ 3000 ∧ ∀ t ∈ l, F32 t))) ∧ Ext w w' := by
  have HL := hide h
  have HSt := hide (fun k (hk : k < l.length) => msizes_take l hk)
  clear h
  go_enter Tryz.func9, Tryz.ntmps9
  go_wp2
  go_loopw [3, 4] (fun v i wr => ∃ (k : Nat) (V : Int), k ≤ l.length ∧ i = .int .i64 k ∧ v = .int .i64 V ∧ V ≤ 3000 ∧ -1 - (k : Int) ≤ V ∧ Hid (0 ≤ V → V = 3000 - msizes (l.take k) ∧ ∀ t ∈ l.take k, F32 t) ∧ Hid (Ext w wr)) (fun _ i _ => l.length - (intOf i).toNat)
  case atStart => exact ⟨0, 3000, Nat.zero_le _, rfl, rfl, by omega, by omega, hide (fun _ => by simp [msizes]), hide (Ext.refl _)⟩
  case round =>
    obtain ⟨k, V, hk, rfl, rfl, hV1, hV2, HV, HX⟩ := hrel
    by_cases hlt : k < l.length
    · have hlt' : (k : Int) < (l.length : Int) := by omega
      have hk0 : (0 : Int) ≤ (k : Int) := by omega
      obtain ⟨b, o, hA, hb, q0, q1, q2, q3, q4, q5⟩ := (HL.out.ext HX.out).at_ hlt
      have HC := hide (l_count32 (l[k]'hlt) V 450 wr ((HL.out.kids _ (List.getElem_mem hlt)).ext HX.out) (by omega) (by omega) (by omega) (by omega))
      have Hst := hide (HSt.out k hlt)
      have Htk : Hid (l.take (k + 1) = l.take k ++ [l[k]'hlt]) := hide (List.take_succ_eq_append_getElem hlt)
      generalize l[k]'hlt = c at *
      rw [hA]
      clear hA
      unfold tmV at HC
      go_wp2_with fail
      refine HC.out.mono ?_
      rintro e w3 ⟨⟨v, rfl, hv⟩, hx3⟩
      have X3 := hide (HX.out.trans hx3)
      have Hv := hide hv
      clear hx3 hv
      go_wp2
      go_roundw
      case rel =>
        obtain ⟨a1, a2, a3⟩ := Hv.out
        have a4 := HV.out
        exact ⟨k + 1, v, hlt, by go_num, rfl, by omega, by omega, hide (fun hv => by
          obtain ⟨b1, b2, b5⟩ := a3 hv
          obtain ⟨b3, b4⟩ := a4 (by omega)
          rw [Hst.out]
          refine ⟨by omega, fun t ht => ?_⟩
          rw [Htk.out, List.mem_append, List.mem_singleton] at ht
          rcases ht with ht | rfl
          · exact b4 t ht
          · exact b5), X3⟩
      case measure => simp [intOf]; omega
    · have hge : ¬ (k : Int) < (l.length : Int) := by omega
      have HF : Hid (0 ≤ V → msizes l ≤ 3000 ∧ ∀ t ∈ l, F32 t) := hide (fun h => by
        have := HV.out h
        rw [List.take_of_length_le (by omega)] at this
        exact ⟨by omega, this.2⟩)
      clear HV
      by_cases hv : V < 0
      · go_wp2
        go_ret
        exact ⟨⟨0, rfl, .inl rfl⟩, HX.out⟩
      · go_wp2
        go_ret
        exact ⟨⟨1, rfl, .inr ⟨rfl, HF.out (by omega)⟩⟩, HX.out⟩

end Go.Proofs.YtjacjpeeinnkcaaGreat

/- Chapter 32's example: texts, names, variables. -/
namespace Go.Proofs.YtjacjpeeinnkcaaGreat
open Go.RowKit

theorem okI_leaf {s : Str} {v : Int} {B : Option Addr} {bc : Nat} (h0 : -9223372036854775808 ≤ v) (h1 : v ≤ 9223372036854775807) (hs : s.length ≤ 140737488351232) : okI (.mk s v B bc []) = true := okI_mk h0 h1 hs (by simp)
theorem leaf_size {s : Str} {v : Int} {B : Option Addr} {bc : Nat} : (Ty.mk s v B bc []).size = 1 := by rw [Ty.size_eq]; rfl
theorem exC_text {t : Tm} (h : t.pure = exC) : TextsTo t [40, 47, 97, 46, 32, 40, 92, 35, 48, 32, 58, 32, 97, 46, 32, 35, 48, 41, 41] := by
  obtain ⟨V, vc, T, tc, A, cap, u, rfl, hu⟩ := exA_of h
  obtain ⟨V1, vc1, T1, tc1, A1, cap1, B, bc, V2, vc2, T2, tc2, A2, cap2, rfl⟩ := exL_of hu
  have hk := txt_var (.mk 1 0 [35, 48] V2 vc2 [] T2 tc2 [] A2 cap2 []) rfl
  have hl := txt_lam (.mk 3 0 [35, 48] V1 vc1 [] T1 tc1 [.mk [] 0 B bc []] A1 cap1 [.mk 1 0 [35, 48] V2 vc2 [] T2 tc2 [] A2 cap2 []]) rfl (by show 0 < 1; decide) (by show 0 < 1; decide) rfl (okI_leaf (by decide) (by decide) (by decide)) (by show (Ty.mk [] 0 B bc []).size ≤ 20000; rw [leaf_size]; decide) [97] (tyS_tyA0 B bc) _ hk (by show 2 + 1 + 2 ≤ 1000000; decide)
  exact txt_all (.mk 5 0 [] V vc [0] T tc [] A cap [.mk 3 0 [35, 48] V1 vc1 [] T1 tc1 [.mk [] 0 B bc []] A1 cap1 [.mk 1 0 [35, 48] V2 vc2 [] T2 tc2 [] A2 cap2 []]]) rfl (by show 0 < 1; decide) (by show 0 < 1; decide) rfl (by show (-9223372036854775808 : Int) ≤ 0 ∧ (0 : Int) ≤ 9223372036854775807; decide) [97] (tyS_tyA0 none 0) _ hl (by show 0 + 1 + 13 ≤ 1000000; decide)
theorem exF_text {t : Tm} (h : t.pure = exF) : TextsTo t [40, 92, 120, 32, 58, 32, 73, 110, 116, 46, 32, 40, 35, 120, 32, 35, 120, 41, 41] := by
  obtain ⟨V, vc, T, tc, A, cap, B, bc, u, rfl, V1, vc1, T1, tc1, A1, cap1, x, y, rfl, hx, hy⟩ := exF_of h
  obtain ⟨V2, vc2, T2, tc2, A2, cap2, rfl⟩ := exV_of hx
  obtain ⟨V3, vc3, T3, tc3, A3, cap3, rfl⟩ := exV_of hy
  have k1 := txt_var (.mk 1 0 [35, 120] V2 vc2 [] T2 tc2 [] A2 cap2 []) rfl
  have k2 := txt_var (.mk 1 0 [35, 120] V3 vc3 [] T3 tc3 [] A3 cap3 []) rfl
  have ha := txt_app (.mk 4 0 [] V1 vc1 [] T1 tc1 [] A1 cap1 [.mk 1 0 [35, 120] V2 vc2 [] T2 tc2 [] A2 cap2 [], .mk 1 0 [35, 120] V3 vc3 [] T3 tc3 [] A3 cap3 []]) rfl (by show 0 < 2; decide) (by show 1 < 2; decide) _ _ k1 k2 (by show 2 + 2 ≤ 1000000; decide)
  exact txt_lam (.mk 3 0 [120] V vc [] T tc [.mk [73, 110, 116] 0 B bc []] A cap [.mk 4 0 [] V1 vc1 [] T1 tc1 [] A1 cap1 [.mk 1 0 [35, 120] V2 vc2 [] T2 tc2 [] A2 cap2 [], .mk 1 0 [35, 120] V3 vc3 [] T3 tc3 [] A3 cap3 []]]) rfl (by show 0 < 1; decide) (by show 0 < 1; decide) rfl (okI_leaf (by decide) (by decide) (by decide)) (by show (Ty.mk [73, 110, 116] 0 B bc []).size ≤ 20000; rw [leaf_size]; decide) [73, 110, 116] (tyS_int B bc) _ ha (by show 1 + 3 + 7 ≤ 1000000; decide)

theorem few_var {t : Tm} {s : Str} (h : t.pure = .mk 1 0 s [] [] []) : F32 t := by
  obtain ⟨V, vc, T, tc, A, cap, rfl⟩ := exV_of h
  exact .mk (by show 0 ≤ 100; decide) (by show 0 ≤ 30; decide) (by show tsizes [] ≤ 20000; unfold tsizes; decide) (fun k hk => by cases hk)
theorem ts_leaf {s : Str} {v : Int} {B : Option Addr} {bc : Nat} : tsizes [.mk s v B bc []] ≤ 20000 := by unfold tsizes; rw [List.map_cons, leaf_size]; decide
theorem few_lam {t : Tm} {s s' c : Str} {v : Int} (h : t.pure = .mk 3 0 s [] [.mk c v []] [.mk 1 0 s' [] [] []]) : F32 t := by
  obtain ⟨V1, vc1, T1, tc1, A1, cap1, B, bc, V2, vc2, T2, tc2, A2, cap2, rfl⟩ := exL_of h
  refine .mk (by show 0 ≤ 100; decide) (by show 1 ≤ 30; decide) ts_leaf (fun k hk => ?_)
  rcases List.mem_singleton.1 hk with rfl
  exact few_var (s := s') (by rw [Tm.pure_eq]; rfl)
theorem few_all {t : Tm} {a : Int} {s s' c : Str} {v : Int} (h : t.pure = .mk 5 0 [] [a] [] [.mk 3 0 s [] [.mk c v []] [.mk 1 0 s' [] [] []]]) : F32 t := by
  obtain ⟨V, vc, T, tc, A, cap, u, rfl, hu⟩ := exA_of h
  refine .mk (by show 1 ≤ 100; decide) (by show 0 ≤ 30; decide) (by show tsizes [] ≤ 20000; unfold tsizes; decide) (fun k hk => ?_)
  rcases List.mem_singleton.1 hk with rfl
  exact few_lam hu
theorem few_exF {t : Tm} (h : t.pure = exF) : F32 t := by
  obtain ⟨V, vc, T, tc, A, cap, B, bc, u, rfl, V1, vc1, T1, tc1, A1, cap1, x, y, rfl, hx, hy⟩ := exF_of h
  refine .mk (by show 0 ≤ 100; decide) (by show 1 ≤ 30; decide) ts_leaf (fun k hk => ?_)
  rcases List.mem_singleton.1 hk with rfl
  refine .mk (by show 0 ≤ 100; decide) (by show 0 ≤ 30; decide) (by show tsizes [] ≤ 20000; unfold tsizes; decide) (fun k hk => ?_)
  have hk' : k ∈ [x, y] := hk
  rcases List.mem_cons.1 hk' with rfl | hk'
  · exact few_var hx
  · rcases List.mem_singleton.1 hk' with rfl
    exact few_var hy
theorem ex_free_x {t : Tm} (h : t.pure = exX) : frL t = [[35, 120]] := by
  unfold frL freeM
  rw [h]
  rfl
theorem ex_free_l {t : Tm} (h : t.pure = exL) : frL t = [] := by
  unfold frL freeM
  rw [h]
  rfl
theorem vs_var {t : Tm} {s : Str} (h : t.pure = .mk 1 0 s [] [] []) (b : List Int) : vsM t b = [] := by
  obtain ⟨V, vc, T, tc, A, cap, rfl⟩ := exV_of h
  rw [vsM_eq]
  rfl
theorem vs_lam {t : Tm} {s s' : Str} {v : Int} (h : t.pure = .mk 3 0 s [] [.mk [] v []] [.mk 1 0 s' [] [] []]) (b : List Int) : vsM t b = [v].filter fun y => !(b.any (· == y)) := by
  obtain ⟨V1, vc1, T1, tc1, A1, cap1, B, bc, V2, vc2, T2, tc2, A2, cap2, rfl⟩ := exL_of h
  have hk := vs_var (t := .mk 1 0 s' V2 vc2 [] T2 tc2 [] A2 cap2 []) (s := s') (by rw [Tm.pure_eq]; rfl) b
  have hv : (Ty.mk [] v B bc []).vars = [v] := by rw [vars_eq]; rfl
  have hb : vbM (.mk 3 0 s V1 vc1 [] T1 tc1 [.mk [] v B bc []] A1 cap1 [.mk 1 0 s' V2 vc2 [] T2 tc2 [] A2 cap2 []]) b = b := rfl
  rw [vsM_eq, hb]
  unfold tvL vsMs
  show List.flatMap _ [Ty.mk [] v B bc []] ++ List.flatMap _ [Tm.mk 1 0 s' V2 vc2 [] T2 tc2 [] A2 cap2 []] = _
  rw [List.flatMap_cons, List.flatMap_cons, hk, hv]
  simp [onceI, onceGo]
theorem ex_vars_l {t : Tm} (h : t.pure = exL) : vrL t = [7] := by
  unfold vrL
  rw [vs_lam h]
  rfl
theorem ex_vars_a {t : Tm} (h : t.pure = exA) : vrL t = [] := by
  obtain ⟨V, vc, T, tc, A, cap, u, rfl, hu⟩ := exA_of h
  have hk := vs_lam hu [7]
  unfold vrL
  rw [vsM_eq]
  unfold vsMs
  show onceGo [] ([] ++ List.flatMap (fun k => vsM k [7]) [u]) = []
  rw [List.flatMap_cons, hk]
  rfl
end Go.Proofs.YtjacjpeeinnkcaaGreat

/- Terms with bound names told by numbers: what has been made of a term's parts; the whole. -/
namespace Go.Proofs.YtjacjpeeinnkcaaGreat
open Go.RowKit Go.Sort Go.Maps

theorem cans_room (l : List Tm) (hf : ∀ x ∈ l, FewM x) : ∀ (c : Cn) (V L : Int), V ≤ (canQs numS (l.map Tm.pure) c V L).2.1 ∧ (canQs numS (l.map Tm.pure) c V L).2.1 ≤ V + ((msizes l * 10000 : Nat) : Int) ∧ L ≤ (canQs numS (l.map Tm.pure) c V L).2.2 ∧ (canQs numS (l.map Tm.pure) c V L).2.2 ≤ L + (msizes l : Nat) := by
  induction l with
  | nil => intro c V L; exact ⟨Int.le_refl _, by show V ≤ V + ((0 * 10000 : Nat) : Int); omega, Int.le_refl _, by show L ≤ L + ((0 : Nat) : Int); omega⟩
  | cons x l ihl =>
    intro c V L
    rw [List.map_cons, canQs_cons]
    obtain ⟨a1, a2, a3, a4⟩ := can_room x (hf x (by simp)) c V L
    obtain ⟨b1, b2, b3, b4⟩ := ihl (fun y hy => hf y (List.mem_cons_of_mem _ hy)) c (canQ numS x.pure c V L).2.1 (canQ numS x.pure c V L).2.2
    unfold msizes at *
    simp only [List.map_cons, List.sum_cons]
    rw [Nat.add_mul]
    refine ⟨Int.le_trans a1 b1, ?_, Int.le_trans a3 b3, ?_⟩
    · show (canQs numS (l.map Tm.pure) c _ _).2.1 ≤ _
      omega
    · show (canQs numS (l.map Tm.pure) c _ _).2.2 ≤ _
      omega
theorem step_room {t : Tm} {c cQ : Cn} {nv nQ : Int} {m : Nat} {mQ : Int} {sQ : Str} {vQ : List Int} (hf : t.vars.length ≤ 10000) (hQ : stepQ numS t.kind t.name t.vars (t.kids.map Tm.pure) c nv m = (cQ, sQ, vQ, nQ, mQ)) :
    cQ.vars.length ≤ c.vars.length + 10000 ∧ nv ≤ nQ ∧ nQ ≤ nv + 10000 ∧ (m : Int) ≤ mQ ∧ mQ ≤ (m : Int) + 1 := by
  unfold stepQ at hQ
  split at hQ
  · injection hQ with q1 q2; injection q2 with q2 q3; injection q3 with q3 q4; injection q4 with q4 q5
    subst q1 q4 q5
    omega
  split at hQ
  · injection hQ with q1 q2; injection q2 with q2 q3; injection q3 with q3 q4; injection q4 with q4 q5
    subst q1 q4 q5
    refine ⟨by show (t.vars ++ c.vars).length ≤ _; rw [List.length_append]; omega, by omega, by omega, by omega, by omega⟩
  split at hQ
  · injection hQ with q1 q2; injection q2 with q2 q3; injection q3 with q3 q4; injection q4 with q4 q5
    subst q1 q4 q5
    refine ⟨by show c.vars.length ≤ _; omega, by omega, by omega, by omega, by omega⟩
  · injection hQ with q1 q2; injection q2 with q2 q3; injection q3 with q3 q4; injection q4 with q4 q5
    subst q1 q4 q5
    refine ⟨by show c.vars.length ≤ _; omega, by omega, by omega, by omega, by omega⟩
/-- What has been made of some parts, away from the blocks that are written meanwhile (those before B). -/
structure MsOk (wr : World) (B : Nat) (num : Int → Str) (c : Cn) (V L : Int) (kids l us : List Tm) (V' L' : Int) : Prop where
  len : us.length = l.length
  tm : ∀ u ∈ us, TmIn wr u
  is : us.map Tm.pure = (canQs num (l.map Tm.pure) c V L).1
  cv : V' = (canQs num (l.map Tm.pure) c V L).2.1
  cl : L' = (canQs num (l.map Tm.pure) c V L).2.2
  away : ∀ u ∈ us, ∀ j, j < B → (∀ x ∈ kids, AwayM j x) → AwayM j u
section
variable {wr w' : World} {B : Nat} {num : Int → Str} {c : Cn} {V L V' L' : Int} {kids l us : List Tm}
theorem MsOk.nil (wr : World) (B : Nat) (num : Int → Str) (c : Cn) (V L : Int) (kids : List Tm) : MsOk wr B num c V L kids [] [] V L := ⟨rfl, by simp, rfl, rfl, rfl, by simp⟩
theorem MsOk.ext (h : MsOk wr B num c V L kids l us V' L') (e : Ext wr w') : MsOk w' B num c V L kids l us V' L' := ⟨h.len, fun u hu => (h.tm u hu).ext e, h.is, h.cv, h.cl, h.away⟩
theorem MsOk.grown (h : MsOk wr B num c V L kids l us V' L') {row : Nat} (g : wr.grownBy w' (some row)) (hB : row < B) (ha : ∀ x ∈ kids, AwayM row x) : MsOk w' B num c V L kids l us V' L' :=
  ⟨h.len, fun u hu => (h.tm u hu).grown g (fun c e => by injection e with e; subst e; exact h.away u hu _ hB ha), h.is, h.cv, h.cl, h.away⟩
theorem MsOk.snoc (h : MsOk wr B num c V L kids l us V' L') {x u : Tm} (hx : x ∈ kids) (hu : TmIn wr u) (hp : u.pure = (canQ num x.pure c V' L').1) (ha : ∀ j, j < B → AwayM j x → AwayM j u) :
    MsOk wr B num c V L kids (l ++ [x]) (us ++ [u]) (canQ num x.pure c V' L').2.1 (canQ num x.pure c V' L').2.2 := by
  have e : canQs num ((l ++ [x]).map Tm.pure) c V L = ((canQs num (l.map Tm.pure) c V L).1 ++ [(canQ num x.pure c V' L').1], (canQ num x.pure c V' L').2) := by
    rw [List.map_append, canQs_app, ← h.cv, ← h.cl]
    show ((canQs num (l.map Tm.pure) c V L).1 ++ (canQs num [x.pure] c V' L').1, (canQs num [x.pure] c V' L').2) = _
    rw [canQs_cons]
    rfl
  refine ⟨by simp [h.len], fun v hv => ?_, by rw [e, List.map_append, h.is]; simp [hp], by rw [e], by rw [e], fun v hv j hj hk => ?_⟩
  · rcases List.mem_append.1 hv with hv | hv
    · exact h.tm v hv
    · rw [List.mem_singleton] at hv; subst hv; exact hu
  · rcases List.mem_append.1 hv with hv | hv
    · exact h.away v hv j hj hk
    · rw [List.mem_singleton] at hv; subst hv; exact ha j hj (hk x hx)
end
/-- The whole. -/
theorem can_whole {t : Tm} {c cQ : Cn} {nv nQ : Int} {m : Nat} {mQ V' L' : Int} {sQ : Str} {vQ : List Int} (hQ : stepQ numS t.kind t.name t.vars (t.kids.map Tm.pure) c nv m = (cQ, sQ, vQ, nQ, mQ))
    {us : List Tm} {ts : List Ty} (hus : us.map Tm.pure = (canQs numS (t.kids.map Tm.pure) cQ nQ mQ).1) (hV : V' = (canQs numS (t.kids.map Tm.pure) cQ nQ mQ).2.1) (hL : L' = (canQs numS (t.kids.map Tm.pure) cQ nQ mQ).2.2)
    (hts : ts.map Ty.pure = t.types.map (putP cQ.vars (cQ.tys.map varT))) (A : Option Addr) (ac : Nat) (T : Option Addr) (tc : Nat) (K : Option Addr) (kc : Nat) :
    (Tm.mk t.kind t.n sQ A ac vQ T tc ts K kc us).pure = (canQ numS t.pure c nv m).1 ∧ V' = (canQ numS t.pure c nv m).2.1 ∧ L' = (canQ numS t.pure c nv m).2.2 := by
  rw [Tm.pure_eq t, canQ_eq, hQ]
  refine ⟨?_, hV, hL⟩
  rw [Tm.pure_eq]
  show Tm.Pure.mk t.kind t.n sQ vQ (ts.map Ty.pure) (us.map Tm.pure) = Tm.Pure.mk t.kind t.n sQ vQ ((t.types.map Ty.pure).map (typQ cQ.vars cQ.tys)) _
  rw [hus, hts, List.map_map]
  congr 1
  exact List.map_congr_left (fun x _ => putP_typQ _ _ x)

end Go.Proofs.YtjacjpeeinnkcaaGreat
