/- Contract: the term of a proof by an instance; of any proof that is one. (A program of ours has printed this.) -/
import Derived.Test.YtcnkfkjgpdmebaaGreatDoorJN27
import Derived.Deep.DeepCutAuto
import Derived.Test.YtcnkfkjgpdmebaaGreatDoorProg
import Derived.WalkKit
import Derived.LaidEql
import Derived.Stop.Asserts
import Derived.RowKitTokens
import Derived.Shelf.Abstract
import Derived.WalkSpells
import Derived.WalkLawsBesides
import Derived.Laws.OwnMore
/- Contract: the term of a proof by an instance; of any proof that is one. (A program of ours has printed this.) -/
namespace Go.Proofs.YtcnkfkjgpdmebaaGreatDoor
open Go.RowKit

theorem tm_infoE : (Tryz.prog.info? 40).map (fun i => (i.zero, i.size, i.bytes)) = some (some (.agg #[.int .i64 0, .int .i64 0, .string ⟨#[]⟩, .slice none 0 0, .slice none 0 0, .slice none 0 0]), 6, 104) := by kernel_rfl
/-- The terms of a proof's kids, so far. -/
structure KmSt (w WF wr : World) (base rb : Nat) (given : List Tm) (p : Pf) (Q : List Tm.Pure) (ts : List Tm) (v : Value) : Prop where
  own : wr.ownsRow base 40 6 v ts.length (ts.flatMap tmC.f)
  inn : ∀ t ∈ ts, TmIn wr t
  offr : ∀ t ∈ ts, ∀ c, v.ownBlock = some c → AwayM c t
  res : ∀ t ∈ ts, AwayM rb t
  away : ∀ t ∈ ts, ∀ c, c < w.heap.size → (∀ g ∈ given, AwayM c g) → AwayF c p → AwayM c t
  is : ts.map Tm.pure = Q
  ext : Ext WF wr
theorem KmSt.snoc {w WF wr w5 w6 : World} {base rb : Nat} {given : List Tm} {p : Pf} {Q : List Tm.Pure} {ts : List Tm} {v v6 : Value} {t : Tm} {q : Tm.Pure} (h : KmSt w WF wr base rb given p Q ts v) (hb : WF.heap.size ≤ base) (e : Ext wr w5) (ht : TmIn w5 t) (hq : t.pure = q) (htr : ∀ c, v.ownBlock = some c → AwayM c t) (hrb : AwayM rb t)
    (hta : ∀ c, c < w.heap.size → (∀ g ∈ given, AwayM c g) → AwayF c p → AwayM c t)
    (hown : w6.ownsRow base 40 6 v6 (ts ++ [t]).length ((ts ++ [t]).flatMap tmC.f)) (hg : w5.grownBy w6 v.ownBlock) (hat : v6.ownBlock = v.ownBlock ∨ ∀ c, v6.ownBlock = some c → w5.heap.size ≤ c) :
    KmSt w WF w6 base rb given p (Q ++ [q]) (ts ++ [t]) v6 := by
  have all : ∀ z ∈ ts ++ [t], TmIn w5 z ∧ (∀ c, v.ownBlock = some c → AwayM c z) ∧ AwayM rb z ∧ ∀ c, c < w.heap.size → (∀ g ∈ given, AwayM c g) → AwayF c p → AwayM c z := fun z hz => by
    rcases List.mem_append.1 hz with hz | hz
    · exact ⟨(h.inn z hz).ext e, h.offr z hz, h.res z hz, h.away z hz⟩
    · rw [List.mem_singleton] at hz; subst hz
      exact ⟨ht, htr, hrb, hta⟩
  refine ⟨hown, fun z hz => (all z hz).1.grown hg (all z hz).2.1, fun z hz c hc => ?_, fun z hz => (all z hz).2.2.1, fun z hz => (all z hz).2.2.2, by rw [List.map_append, h.is]; simp [hq], ?_⟩
  · rcases hat with h1 | h1
    · exact (all z hz).2.1 c (h1 ▸ hc)
    · exact awayM_new (all z hz).1 (h1 c hc)
  · exact (h.ext.trans e).grown hg (fun c hc => Nat.le_trans hb (h.own.lt c hc).1)
/-- The name of an instance, as a term. -/
def vrT (s : Str) : Tm := .mk 1 0 s none 0 [] none 0 [] none 0 []
theorem vrT_in (w : World) {s : Str} (hs : s.length ≤ 9223372036854775807) : TmIn w (vrT s) :=
  .mk ⟨Nat.zero_le _, by show 0 ≤ 9223372036854775807; omega, Nat.zero_le _, by show 0 ≤ 9223372036854775807; omega, Nat.zero_le _, by show 0 ≤ 9223372036854775807; omega, hs, RowOf.nil _ _ _, TysIn.nil _ _, RowOf.nil _ _ _⟩ (by intro k hk; cases hk)
theorem vrT_away (c : Nat) (s : Str) : AwayM c (vrT s) := .mk (fun h => absurd rfl h) (fun h => absurd rfl h) (by intro x hx; cases hx) (fun h => absurd rfl h) (by intro k hk; cases hk)
theorem vrT_pure (s : Str) : (vrT s).pure = .mk 1 0 s [] [] [] := by rw [Tm.pure_eq]; rfl
/-- A term with types. -/
def isT (T : Option Addr) (tc : Nat) (types : List Ty) (g : Nat) (t : Tm) : Tm := .mk 6 0 [] none 0 [] T tc types (some ⟨g, 0, none⟩) 1 [t]
theorem isT_in {w : World} {T : Option Addr} {tc : Nat} {types : List Ty} {g : Nat} {t : Tm} (hT : TysIn w T types) (hl : types.length ≤ tc) (hm : tc ≤ 9223372036854775807) (ht : TmIn w t) (hg : TmBox w g t) : TmIn w (isT T tc types g t) :=
  .mk ⟨Nat.zero_le _, by show 0 ≤ 9223372036854775807; omega, hl, hm, Nat.le_refl _, by show 1 ≤ 9223372036854775807; omega, by show 0 ≤ 9223372036854775807; omega, RowOf.nil _ _ _, hT, RowOf.block tmC [t] hg⟩ (fun k hk => by
    have hk : k ∈ [t] := hk
    rw [List.mem_singleton] at hk; subst hk; exact ht)
theorem isT_away {c : Nat} {T : Option Addr} {tc : Nat} {types : List Ty} {g : Nat} {t : Tm} (hT : OffF c T types.length) (hts : ∀ x ∈ types, awayB c x = true) (hg : g ≠ c) (ht : AwayM c t) : AwayM c (isT T tc types g t) :=
  .mk (fun h => absurd rfl h) hT hts (fun _ a e => by injection e with e; subst e; exact hg) (fun k hk => by
    have hk : k ∈ [t] := hk
    rw [List.mem_singleton] at hk; subst hk; exact ht)
theorem isT_pure (T : Option Addr) (tc : Nat) (types : List Ty) (g : Nat) (t : Tm) : (isT T tc types g t).pure = .mk 6 0 [] [] (types.map Ty.pure) [t.pure] := by rw [Tm.pure_eq]; rfl

set_option maxRecDepth 10000 in
set_option maxHeartbeats 1600000 in
theorem e_mterm_inst (x : EnD) (P : Option Addr) (pc : Nat) (preds : List Pd) (L : Option Addr) (lc : Nat) (given : List Tm) (hpl : ∀ y ∈ x.insts, y.preds.length ≤ 40000) (p : Pf) (hk : p.kind = 3) (ih : ∀ k ∈ p.kids, EvC x P pc preds L lc given k) : EvC x P pc preds L lc given p := by
  intro w he hP hL hp hq hlen hgl
  obtain ⟨q, hq⟩ := Option.isSome_iff_exists.1 hq
  rcases prv_parts hq with ⟨h, -⟩ | ⟨h, -⟩ | ⟨-, y, hy, hkl, hkp⟩
  · omega
  · omega
  rw [ev_inst hk hy]
  obtain ⟨h0, -, hnl, hyn⟩ := atZ_some hy
  obtain ⟨n, hn⟩ : ∃ n : Nat, p.n = (n : Int) := ⟨p.n.toNat, by omega⟩
  rw [hn, Int.toNat_natCast] at hnl
  have hyn : x.insts[n]'hnl = y := by rw [← hyn]; congr 1; omega
  obtain ⟨W, hW⟩ : ∃ W, W = ((w.alloc (.cells #[.slice x.D x.datas.length x.dc, .slice x.C x.classes.length x.cc, .slice x.I x.insts.length x.ic, .slice P preds.length pc, .slice L given.length lc] 81)).alloc (.cells #[.int .i64 p.kind, .int .i64 p.n, .slice p.T p.types.length p.tc, .slice p.A p.kids.length p.cap] 34)).alloc (.cells #[.int .i64 0, .int .i64 0, .string ⟨#[]⟩, .slice none 0 0, .slice none 0 0, .slice none 0 0] 40) := ⟨_, rfl⟩
  have HW := hide hW.symm
  have X0 : Hid (Ext w W) := hide (by rw [hW]; exact (((Ext.refl _).alloc _).alloc _).alloc _)
  have B1 : Hid (MkBox W w.heap.size x P pc preds L lc given) := hide (by rw [hW]; exact (MkBox.new w).ext (((Ext.refl _).alloc _).alloc _))
  have B2 : Hid (FBox W (w.heap.size + 1) p) := hide (by rw [hW]; exact FBox.ext (at_newB _ _ _ (by simp)) ((Ext.refl _).alloc _))
  have B3 : Hid (W.heap[w.heap.size + 1 + 1]? = some (.cells #[.int .i64 0, .int .i64 0, .string ⟨#[]⟩, .slice none 0 0, .slice none 0 0, .slice none 0 0] 40)) := hide (by rw [hW]; exact at_newB _ _ _ (by simp))
  have HsW : Hid (W.heap.size = w.heap.size + 3) := hide (by rw [hW]; simp)
  obtain ⟨bi, oi, hIA, hbi, r0, r1, r2, r3⟩ := (he.insts.ext X0.out).at_ hnl
  rw [hyn] at r0 r1 r2 r3
  have hyin := he.insts.all _ (List.getElem_mem hnl)
  rw [hyn] at hyin
  have hy4 := hpl _ (List.getElem_mem hnl)
  rw [hyn] at hy4
  have HN := hide (fun w' => f_name y.cls y.con w' hyin.txt hyin.ctxt)
  have HNl : Hid ((nameS y.cls y.con).length ≤ 9223372036854775807) := hide (by have := hyin.txt; have := hyin.ctxt; unfold nameS; simp; omega)
  have hall := hide hp.all
  have hpty := hide hp.hd.types
  have hple := hp.hd.tle
  have hpmax := hp.hd.tmax
  have HT := hide (fun j (hj : j < p.kids.length) w' (e : Ext W w') => hide (ih _ (List.getElem_mem hj) w' (he.ext (X0.out.trans e)) (hP.ext (X0.out.trans e)) (hL.ext (X0.out.trans e)) ((hp.all.kids _ (List.getElem_mem hj)).ext (X0.out.trans e)) (by obtain ⟨b, hb⟩ := hkp _ (List.getElem_mem hj); rw [hb]; rfl) hlen (HGe.ext hgl (X0.out.trans e))))
  have HAg : Hid (∀ c, w.heap.size ≤ c → (∀ g ∈ given, AwayM c g) ∧ AwayF c p) := hide (fun c hc => ⟨fun g hg => awayM_new (hL.kids g hg) hc, awayF_new hp hc⟩)
  have HAk : Hid (∀ c, AwayF c p → ∀ k ∈ p.kids, AwayF c k) := hide (fun c h => h.kids)
  have hkl4 : p.kids.length ≤ 40000 := by omega
  obtain ⟨j0, hj, hy0, hy1, hy2⟩ := info_parts tm_infoE
  obtain ⟨c0, c1, c2, c3⟩ := B2.out.cells
  obtain ⟨e0, e1, e2, e3, e4⟩ := B1.out.cells
  rw [hk] at c0
  rw [hn] at c1
  rw [hIA] at e2
  have n1 := B1.out.lt
  have n2 := B2.out.lt
  have n3 := lt_of_obj B3.out
  have hn0 : (0 : Int) ≤ (n : Int) := by omega
  have hn1 : (n : Int) < (x.insts.length : Int) := by omega
  have HcW := hide (And.intro c2 c3)
  have HV : Hid (pfV p = .agg #[.int .i64 3, .int .i64 (n : Int), .slice p.T p.types.length p.tc, .slice p.A p.kids.length p.cap]) := hide (by unfold pfV; rw [hk, hn])
  have HMk := hide (fun w' (e : Ext W w') => (B1.out.ext e).cells)
  have HIA := hide hIA
  rw [HV.out]
  have HW : Hid (((w.alloc (.cells #[.slice x.D x.datas.length x.dc, .slice x.C x.classes.length x.cc, .slice (some ⟨bi, oi, none⟩) x.insts.length x.ic, .slice P preds.length pc, .slice L given.length lc] 81)).alloc (.cells #[.int .i64 3, .int .i64 (n : Int), .slice p.T p.types.length p.tc, .slice p.A p.kids.length p.cap] 34)).alloc (.cells #[.int .i64 0, .int .i64 0, .string ⟨#[]⟩, .slice none 0 0, .slice none 0 0, .slice none 0 0] 40) = W) := hide (by have h := HW.out; rw [hk, hn, hIA] at h; exact h)
  have HMkv : Hid (.agg #[.slice x.D x.datas.length x.dc, .slice x.C x.classes.length x.cc, .slice x.I x.insts.length x.ic, .slice P preds.length pc, .slice L given.length lc] = Value.agg #[.slice x.D x.datas.length x.dc, .slice x.C x.classes.length x.cc, .slice (some ⟨bi, oi, none⟩) x.insts.length x.ic, .slice P preds.length pc, .slice L given.length lc]) := hide (by rw [hIA])
  rw [HMkv.out]
  rw [HMkv.out] at HT
  rw [hIA] at HMk
  generalize hEv : evP x.classes x.insts preds (given.map Tm.pure) = EV at *
  generalize hN : nameS y.cls y.con = nm at *
  generalize hQQ : (p.kids.map EV).foldl appP (if p.types.map Ty.pure = [] then .mk 1 0 nm [] [] [] else .mk 6 0 [] [] (p.types.map Ty.pure) [.mk 1 0 nm [] [] []]) = QQ at *
  have HQQ := hide hQQ
  clear hQQ
  unfold pfV at HT
  clear hW he hP hL hp hq hgl hlen ih hkp hIA HV hk hn h0 hkl hy hyn hpl hyin HIA HMkv
  generalize p.A = PA at *
  go_enter Tryz.func50, Tryz.ntmps50
  go_upto_region 1 with fail
  rw [HW.out]
  clear HW
  go_wp2_with fail
  refine (HN.out _).mono ?_
  rintro e w6 ⟨rfl, hw6⟩
  rw [hw6]
  clear hw6 w6
  clear HN e0 e1 e2 e3 e4 c0 c1 c2 c3 r0 r1 r2 r3
  go_upto_region 9 with fail
  refine wp_name ?_
  intro W8 hW8
  have X8 : Hid (Ext W W8) := hide (by rw [hW8]; exact ((Ext.refl _).alloc _).alloc _)
  have D8 : Hid (TmBox W8 (W.heap.size + 1) (vrT nm)) := hide (by rw [hW8]; exact at_newB _ _ _ (by simp))
  clear hW8
  replace n1 := (B1.out.ext X8.out).lt
  replace n2 := (B2.out.ext X8.out).lt
  have c2 := X8.out.cell HcW.out.1
  have c3 := X8.out.cell HcW.out.2
  by_cases hT : p.types = []
  · have hT2 : ¬ (p.types.length : Int) > 0 := by rw [hT]; simp
    have HF1 : Hid (TmIn W8 (vrT nm) ∧ (vrT nm).pure = (if p.types.map Ty.pure = [] then .mk 1 0 nm [] [] [] else .mk 6 0 [] [] (p.types.map Ty.pure) [.mk 1 0 nm [] [] []]) ∧ ∀ c, AwayM c (vrT nm)) := hide ⟨vrT_in _ HNl.out, by rw [hT, vrT_pure]; rfl, fun c => vrT_away c nm⟩
    have HFa : Hid (∀ c, c < W8.heap.size → AwayF c p → AwayM c (vrT nm)) := hide (fun c _ _ => HF1.out.2.2 c)
    obtain ⟨F, hF⟩ : ∃ F, F = vrT nm := ⟨_, rfl⟩
    rw [← hF] at D8 HF1 HFa
    have XF : Hid (Ext W W8) := X8
    have HFi : Hid (TmIn W8 F) := hide HF1.out.1
    have HFp := hide HF1.out.2.1
    have hFs : W.heap.size + 1 < W8.heap.size := D8.out.lt
    clear hF HF1 hT X8
    obtain ⟨WF, hWF⟩ : ∃ WF, WF = W8 := ⟨_, rfl⟩
    subst hWF
    have hW8s : W.heap.size + 1 < WF.heap.size := D8.out.lt
    have HFa2 : Hid (∀ c, c < w.heap.size + 3 → AwayF c p → AwayM c F) := hide (fun c hc h => HFa.out c (by have := HsW.out; have := XF.out.size; omega) h)
    have DF := D8
    clear HFa D8 hFs
    have hFW := XF.out.size
    have hWs : w.heap.size + 3 ≤ W.heap.size := by have := HsW.out; omega
    go_wp2
    go_loopw [9, 73] (fun v i wr => ∃ (j : Nat) (ts : List Tm), j ≤ p.kids.length ∧ i = .int .i64 j ∧ Hid (ts.length = j) ∧ Hid (KmSt w WF wr WF.heap.size (w.heap.size + 1 + 1) given p ((p.kids.take j).map EV) ts v)) (fun _ i _ => p.kids.length - (intOf i).toNat)
    case atStart => exact ⟨0, [], Nat.zero_le _, rfl, hide rfl, hide ⟨World.ownsRow_nil _ _ _ _, by simp, by simp, by simp, by simp, rfl, Ext.refl _⟩⟩
    case round =>
      obtain ⟨j, ts, hjl, rfl, htl, HK⟩ := hrel
      have XR := hide (XF.out.trans HK.out.ext)
      have hwr := HK.out.ext.size
      by_cases hlt : j < p.kids.length
      · have hlt' : (j : Int) < (p.kids.length : Int) := by omega
        have hj0 : (0 : Int) ≤ (j : Int) := by omega
        obtain ⟨bq, oq, rfl, hbq, q0, q1, q2, q3⟩ := (hall.out.ext (X0.out.trans XR.out)).at_ hlt
        have HC := hide (fun w' (e : Ext W w') => (HT.out j hlt w' e).out)
        have Htk : Hid (p.kids.take (j + 1) = p.kids.take j ++ [p.kids[j]'hlt]) := hide (List.take_succ_eq_append_getElem hlt)
        have Hkm := hide (List.getElem_mem hlt)
        generalize p.kids[j]'hlt = k at *
        obtain ⟨m0, m1, m2, m3, m4⟩ := HMk.out wr XR.out
        have n1 := (B1.out.ext XR.out).lt
        go_wp2_with fail
        refine (HC.out _ (XR.out.alloc (.cells #[.int .i64 k.kind, .int .i64 k.n, .slice k.T k.types.length k.tc, .slice k.A k.kids.length k.cap] 34))).mono ?_
        rintro e w6 ⟨⟨t, rfl, ht⟩, hx6⟩
        have X6 : Hid (Ext wr w6) := hide (((Ext.refl wr).alloc (.cells #[.int .i64 k.kind, .int .i64 k.n, .slice k.T k.types.length k.tc, .slice k.A k.kids.length k.cap] 34)).trans hx6)
        have hsa : (wr.alloc (.cells #[.int .i64 k.kind, .int .i64 k.n, .slice k.T k.types.length k.tc, .slice k.A k.kids.length k.cap] 34)).heap.size = wr.heap.size + 1 := World.size_alloc _ _
        have hr6 := X6.out.size
        obtain ⟨A6, c6, hv, -, -, -, -⟩ := RowOf.own tmC (l := ts) HK.out.own
        subst hv
        have Htr : Hid (∀ c, (Value.slice A6 ts.length c6).ownBlock = some c → AwayM c t) := hide (fun c hc => by
          have := HK.out.own.lt c hc
          have h9 := HAg.out c (by omega)
          exact ht.away c (by omega) h9.1 (HAk.out c h9.2 k Hkm.out))
        have Hrb : Hid (AwayM (w.heap.size + 1 + 1) t) := hide (by
          have h9 := HAg.out (w.heap.size + 1 + 1) (by omega)
          exact ht.away _ (by omega) h9.1 (HAk.out _ h9.2 k Hkm.out))
        have Hta : Hid (∀ c, c < w.heap.size → (∀ g ∈ given, AwayM c g) → AwayF c p → AwayM c t) := hide (fun c hc h1 h2 => ht.away c (by omega) h1 (HAk.out c h2 k Hkm.out))
        have Hq : Hid (t.pure = EV k) := hide ht.is
        have Hin := hide (ht.inn.ext ((Ext.refl w6).alloc (.cells #[.int .i64 t.kind, .int .i64 t.n, encStr t.name, .slice t.V t.vars.length t.vc, .slice t.T t.types.length t.tc, .slice t.A t.kids.length t.cap] 40)))
        have O6 := hide (own_extB HK.out.own X6.out)
        have E67 : Hid (Ext wr (w6.alloc (.cells #[.int .i64 t.kind, .int .i64 t.n, encStr t.name, .slice t.V t.vars.length t.vc, .slice t.T t.types.length t.tc, .slice t.A t.kids.length t.cap] 40))) := hide (X6.out.alloc _)
        clear ht hx6 hsa q0 q1 q2 q3 hbq m0 m1 m2 m3 m4 n1 HC
        have h40 : ts.length ≤ 40000 := by have := htl.out; omega
        go_wp2_with (at_builtin; refine wpList_append_row _ rfl _ _ 28 rfl WF.heap.size 40 j0 _ 6 104 Tryz.underlying28 hj hy0 hy1 hy2 rfl (by decide) (.slice A6 ts.length c6) ts.length (ts.flatMap tmC.f) rfl (O6.out.alloc _) _ 1 1 [.int .i64 t.kind, .int .i64 t.n, encStr t.name, .slice t.V t.vars.length t.vc, .slice t.T t.types.length t.tc, .slice t.A t.kids.length t.cap] rfl ?c2 ?c3 ?c4 ?c5 ?c6 ?_)
        case c2 => exact Row.tm6e _ _ _ _ _ _ (at_newB _ _ _ rfl)
        case c3 => first | exact ⟨rfl, rfl, rfl, rfl, rfl, rfl⟩ | (intro z hz; simp at hz; rcases hz with rfl | rfl | rfl | rfl | rfl | rfl <;> rfl)
        case c4 => unfold maxLen; omega
        case c5 => omega
        case c6 => simp; omega
        intro v4 w7 hown4 hg4 hat4
        have HK2 := hide (HK.out.snoc (Nat.le_refl _) E67.out Hin.out Hq.out Htr.out Hrb.out Hta.out (by rw [flatMe_snoc, List.length_append]; exact hown4) hg4 (by
          rcases hat4 with e | e
          · exact .inl e
          · exact .inr (fun c hc => by rw [e] at hc; injection hc with hc; simp at hc ⊢; omega)))
        have HK3 : Hid (KmSt w WF w7 WF.heap.size (w.heap.size + 1 + 1) given p ((p.kids.take (j + 1)).map EV) (ts ++ [t]) v4) := hide (by rw [Htk.out, List.map_append]; exact HK2.out)
        have htl2 : Hid ((ts ++ [t]).length = j + 1) := hide (by have := htl.out; simp [this])
        clear hown4 hg4 hat4 O6 E67 Hin Hq Htr Hrb Hta HK HK2
        go_wp2
        go_roundw
        case rel => exact ⟨j + 1, ts ++ [t], hlt, by go_num, htl2, HK3⟩
        case measure => simp [intOf]; omega
      · have hge : ¬ (j : Int) < (p.kids.length : Int) := by omega
        have HKf : Hid (KmSt w WF wr WF.heap.size (w.heap.size + 1 + 1) given p (p.kids.map EV) ts u9) := hide (by have := HK.out; rwa [List.take_of_length_le (by omega)] at this)
        obtain ⟨A6, c6, hv, l1, l2, hrow, -⟩ := RowOf.own tmC (l := ts) HKf.out.own
        subst hv
        have HC := hide (m_apps A6 c6 ts F wr ⟨hrow, HKf.out.inn⟩ (HFi.out.ext HKf.out.ext) (by have := htl.out; omega))
        obtain ⟨d0, d1, d2, d3, d4, d5⟩ := (DF.out.ext HKf.out.ext).cells
        have d6 := (DF.out.ext HKf.out.ext).lt
        unfold tmV at HC
        clear hrow HK
        go_wp2_with fail
        refine HC.out.mono ?_
        rintro e w9 ⟨⟨u, rfl, hu1, hu2, hu3⟩, hx⟩
        have X9 := hide (X0.out.trans (XR.out.trans hx))
        have B9 : Hid (w9.heap[w.heap.size + 1 + 1]? = some (.cells #[.int .i64 0, .int .i64 0, .string ⟨#[]⟩, .slice none 0 0, .slice none 0 0, .slice none 0 0] 40)) := hide (((XR.out.trans hx).heap (lt_of_obj B3.out)).trans B3.out)
        have hAg := HAg.out (w.heap.size + 1 + 1) (by omega)
        have HAu := hide (hu3 (w.heap.size + 1 + 1) (by omega) (HFa2.out _ (by omega) hAg.2) (fun t ht => HKf.out.res t ht))
        have HE : Hid (EvOk w (putTm w9 (w.heap.size + 1 + 1) u) given p QQ u) := hide ⟨hu1.grown (putTm_grown _ _ _) (fun c e => by injection e with e; subst e; exact HAu.out), by rw [hu2, ← HQQ.out, ← HKf.out.is, ← HFp.out, List.foldl_map]; rfl, fun c hc h1 h2 => hu3 c (by omega) (HFa2.out c (by omega) h2) (fun t ht => HKf.out.away t ht c hc h1 h2)⟩
        have XG := hide (putTm_ext X9.out (by omega : w.heap.size ≤ w.heap.size + 1 + 1) u)
        obtain ⟨z0, z1, z2, z3, z4, z5, zf0, zf1, zf2, zf3, zf4, zf5⟩ := m0_cells B9.out
        have hz := lt_of_obj B9.out
        clear hu1 hu2 hu3 hx HC d0 d1 d2 d3 d4 d5 d6 HAu hAg
        go_wp2
        refine bodyPost_ret (v := tmV u) ?_ rfl ⟨⟨u, rfl, HE.out⟩, XG.out⟩
        simp [results, Tryz.f50, go_sem, z0, z1, z2, z3, z4, z5]
  · have hT2 : 0 < p.types.length := by
      cases ht : p.types with
      | nil => exact absurd ht hT
      | cons a l => simp
    have hTl : OffF (W.heap.size + 1) p.T p.types.length := OffF.new hpty.out.row (by have := X0.out.size; omega)
    obtain ⟨F, hF⟩ : ∃ F, F = isT p.T p.tc p.types W8.heap.size (vrT nm) := ⟨_, rfl⟩
    obtain ⟨WF, hWF⟩ : ∃ WF, WF = (putTm W8 (W.heap.size + 1) F).alloc (.cells #[.int .i64 (vrT nm).kind, .int .i64 (vrT nm).n, encStr (vrT nm).name, .slice (vrT nm).V (vrT nm).vars.length (vrT nm).vc, .slice (vrT nm).T (vrT nm).types.length (vrT nm).tc, .slice (vrT nm).A (vrT nm).kids.length (vrT nm).cap] 40) := ⟨_, rfl⟩
    have hps := putTm_size W8 (W.heap.size + 1) F
    have XF : Hid (Ext W WF) := hide (by rw [hWF]; exact (putTm_ext X8.out (by omega) F).alloc _)
    have DF : Hid (TmBox WF (W.heap.size + 1) F) := hide (by rw [hWF]; exact (putTm_box F D8.out).ext ((Ext.refl _).alloc _))
    have HFi : Hid (TmIn WF F) := hide (by
      rw [hF]
      refine isT_in (hpty.out.ext (X0.out.trans XF.out)) hple hpmax (vrT_in _ HNl.out) ?_
      have := TmBox.new (putTm W8 (W.heap.size + 1) F) (vrT nm)
      rw [hps] at this
      rw [hWF]
      exact this)
    have HFp : Hid (F.pure = (if p.types.map Ty.pure = [] then .mk 1 0 nm [] [] [] else .mk 6 0 [] [] (p.types.map Ty.pure) [.mk 1 0 nm [] [] []])) := hide (by rw [hF, isT_pure, vrT_pure, if_neg (fun h => hT (List.map_eq_nil_iff.1 h))])
    have HFa : Hid (∀ c, c < W8.heap.size → AwayF c p → AwayM c F) := hide (fun c hc ha => by rw [hF]; exact isT_away ha.ty ha.tys (by omega) (vrT_away c nm))
    have HWF : Hid (((((((W8.setCell ⟨W.heap.size + 1, 0, none⟩ (.int .i64 6)).setCell ⟨W.heap.size + 1, 1, none⟩ (.int .i64 0)).setCell ⟨W.heap.size + 1, 2, none⟩ (.string ⟨#[]⟩)).setCell ⟨W.heap.size + 1, 3, none⟩ (.slice none 0 0)).setCell ⟨W.heap.size + 1, 4, none⟩ (.slice p.T p.types.length p.tc)).setCell ⟨W.heap.size + 1, 5, none⟩ (.slice (some ⟨W8.heap.size, 0, none⟩) 1 1)).alloc (.cells #[.int .i64 1, .int .i64 0, encStr nm, .slice none 0 0, .slice none 0 0, .slice none 0 0] 40) = WF) := hide (by rw [hWF, hF]; rfl)
    have hW8s : W8.heap.size ≤ WF.heap.size := by rw [hWF]; simp [hps]
    obtain ⟨d0, d1, d2, d3, d4, d5⟩ := D8.out.cells
    obtain ⟨df0, df1, df2, df3, df4, df5⟩ := D8.out.frees
    have d6 := D8.out.lt
    unfold vrT at d0 d1 d2 d3 d4 d5
    simp only [Tm.kind, Tm.n, Tm.name, Tm.V, Tm.vars, Tm.vc, Tm.T, Tm.types, Tm.tc, Tm.A, Tm.kids, Tm.cap, List.length_nil] at d0 d1 d2 d3 d4 d5
    have HFa2 : Hid (∀ c, c < w.heap.size + 3 → AwayF c p → AwayM c F) := hide (fun c hc h => HFa.out c (by have := HsW.out; omega) h)
    clear hF hps hT hTl HFa
    go_upto_region 11 with fail
    rw [HWF.out]
    clear HWF hWF d0 d1 d2 d3 d4 d5 df0 df1 df2 df3 df4 df5 d6 n1 n2 c2 c3 D8
    have n2 := (B2.out.ext XF.out).lt
    have c3 := XF.out.cell HcW.out.2
    have hFW := XF.out.size
    have hWs : w.heap.size + 3 ≤ W.heap.size := by have := HsW.out; omega
    go_wp2
    go_loopw [9, 73] (fun v i wr => ∃ (j : Nat) (ts : List Tm), j ≤ p.kids.length ∧ i = .int .i64 j ∧ Hid (ts.length = j) ∧ Hid (KmSt w WF wr WF.heap.size (w.heap.size + 1 + 1) given p ((p.kids.take j).map EV) ts v)) (fun _ i _ => p.kids.length - (intOf i).toNat)
    case atStart => exact ⟨0, [], Nat.zero_le _, rfl, hide rfl, hide ⟨World.ownsRow_nil _ _ _ _, by simp, by simp, by simp, by simp, rfl, Ext.refl _⟩⟩
    case round =>
      obtain ⟨j, ts, hjl, rfl, htl, HK⟩ := hrel
      have XR := hide (XF.out.trans HK.out.ext)
      have hwr := HK.out.ext.size
      by_cases hlt : j < p.kids.length
      · have hlt' : (j : Int) < (p.kids.length : Int) := by omega
        have hj0 : (0 : Int) ≤ (j : Int) := by omega
        obtain ⟨bq, oq, rfl, hbq, q0, q1, q2, q3⟩ := (hall.out.ext (X0.out.trans XR.out)).at_ hlt
        have HC := hide (fun w' (e : Ext W w') => (HT.out j hlt w' e).out)
        have Htk : Hid (p.kids.take (j + 1) = p.kids.take j ++ [p.kids[j]'hlt]) := hide (List.take_succ_eq_append_getElem hlt)
        have Hkm := hide (List.getElem_mem hlt)
        generalize p.kids[j]'hlt = k at *
        obtain ⟨m0, m1, m2, m3, m4⟩ := HMk.out wr XR.out
        have n1 := (B1.out.ext XR.out).lt
        go_wp2_with fail
        refine (HC.out _ (XR.out.alloc (.cells #[.int .i64 k.kind, .int .i64 k.n, .slice k.T k.types.length k.tc, .slice k.A k.kids.length k.cap] 34))).mono ?_
        rintro e w6 ⟨⟨t, rfl, ht⟩, hx6⟩
        have X6 : Hid (Ext wr w6) := hide (((Ext.refl wr).alloc (.cells #[.int .i64 k.kind, .int .i64 k.n, .slice k.T k.types.length k.tc, .slice k.A k.kids.length k.cap] 34)).trans hx6)
        have hsa : (wr.alloc (.cells #[.int .i64 k.kind, .int .i64 k.n, .slice k.T k.types.length k.tc, .slice k.A k.kids.length k.cap] 34)).heap.size = wr.heap.size + 1 := World.size_alloc _ _
        have hr6 := X6.out.size
        obtain ⟨A6, c6, hv, -, -, -, -⟩ := RowOf.own tmC (l := ts) HK.out.own
        subst hv
        have Htr : Hid (∀ c, (Value.slice A6 ts.length c6).ownBlock = some c → AwayM c t) := hide (fun c hc => by
          have := HK.out.own.lt c hc
          have h9 := HAg.out c (by omega)
          exact ht.away c (by omega) h9.1 (HAk.out c h9.2 k Hkm.out))
        have Hrb : Hid (AwayM (w.heap.size + 1 + 1) t) := hide (by
          have h9 := HAg.out (w.heap.size + 1 + 1) (by omega)
          exact ht.away _ (by omega) h9.1 (HAk.out _ h9.2 k Hkm.out))
        have Hta : Hid (∀ c, c < w.heap.size → (∀ g ∈ given, AwayM c g) → AwayF c p → AwayM c t) := hide (fun c hc h1 h2 => ht.away c (by omega) h1 (HAk.out c h2 k Hkm.out))
        have Hq : Hid (t.pure = EV k) := hide ht.is
        have Hin := hide (ht.inn.ext ((Ext.refl w6).alloc (.cells #[.int .i64 t.kind, .int .i64 t.n, encStr t.name, .slice t.V t.vars.length t.vc, .slice t.T t.types.length t.tc, .slice t.A t.kids.length t.cap] 40)))
        have O6 := hide (own_extB HK.out.own X6.out)
        have E67 : Hid (Ext wr (w6.alloc (.cells #[.int .i64 t.kind, .int .i64 t.n, encStr t.name, .slice t.V t.vars.length t.vc, .slice t.T t.types.length t.tc, .slice t.A t.kids.length t.cap] 40))) := hide (X6.out.alloc _)
        clear ht hx6 hsa q0 q1 q2 q3 hbq m0 m1 m2 m3 m4 n1 HC
        have h40 : ts.length ≤ 40000 := by have := htl.out; omega
        go_wp2_with (at_builtin; refine wpList_append_row _ rfl _ _ 28 rfl WF.heap.size 40 j0 _ 6 104 Tryz.underlying28 hj hy0 hy1 hy2 rfl (by decide) (.slice A6 ts.length c6) ts.length (ts.flatMap tmC.f) rfl (O6.out.alloc _) _ 1 1 [.int .i64 t.kind, .int .i64 t.n, encStr t.name, .slice t.V t.vars.length t.vc, .slice t.T t.types.length t.tc, .slice t.A t.kids.length t.cap] rfl ?c2 ?c3 ?c4 ?c5 ?c6 ?_)
        case c2 => exact Row.tm6e _ _ _ _ _ _ (at_newB _ _ _ rfl)
        case c3 => first | exact ⟨rfl, rfl, rfl, rfl, rfl, rfl⟩ | (intro z hz; simp at hz; rcases hz with rfl | rfl | rfl | rfl | rfl | rfl <;> rfl)
        case c4 => unfold maxLen; omega
        case c5 => omega
        case c6 => simp; omega
        intro v4 w7 hown4 hg4 hat4
        have HK2 := hide (HK.out.snoc (Nat.le_refl _) E67.out Hin.out Hq.out Htr.out Hrb.out Hta.out (by rw [flatMe_snoc, List.length_append]; exact hown4) hg4 (by
          rcases hat4 with e | e
          · exact .inl e
          · exact .inr (fun c hc => by rw [e] at hc; injection hc with hc; simp at hc ⊢; omega)))
        have HK3 : Hid (KmSt w WF w7 WF.heap.size (w.heap.size + 1 + 1) given p ((p.kids.take (j + 1)).map EV) (ts ++ [t]) v4) := hide (by rw [Htk.out, List.map_append]; exact HK2.out)
        have htl2 : Hid ((ts ++ [t]).length = j + 1) := hide (by have := htl.out; simp [this])
        clear hown4 hg4 hat4 O6 E67 Hin Hq Htr Hrb Hta HK HK2
        go_wp2
        go_roundw
        case rel => exact ⟨j + 1, ts ++ [t], hlt, by go_num, htl2, HK3⟩
        case measure => simp [intOf]; omega
      · have hge : ¬ (j : Int) < (p.kids.length : Int) := by omega
        have HKf : Hid (KmSt w WF wr WF.heap.size (w.heap.size + 1 + 1) given p (p.kids.map EV) ts u9) := hide (by have := HK.out; rwa [List.take_of_length_le (by omega)] at this)
        obtain ⟨A6, c6, hv, l1, l2, hrow, -⟩ := RowOf.own tmC (l := ts) HKf.out.own
        subst hv
        have HC := hide (m_apps A6 c6 ts F wr ⟨hrow, HKf.out.inn⟩ (HFi.out.ext HKf.out.ext) (by have := htl.out; omega))
        obtain ⟨d0, d1, d2, d3, d4, d5⟩ := (DF.out.ext HKf.out.ext).cells
        have d6 := (DF.out.ext HKf.out.ext).lt
        unfold tmV at HC
        clear hrow HK
        go_wp2_with fail
        refine HC.out.mono ?_
        rintro e w9 ⟨⟨u, rfl, hu1, hu2, hu3⟩, hx⟩
        have X9 := hide (X0.out.trans (XR.out.trans hx))
        have B9 : Hid (w9.heap[w.heap.size + 1 + 1]? = some (.cells #[.int .i64 0, .int .i64 0, .string ⟨#[]⟩, .slice none 0 0, .slice none 0 0, .slice none 0 0] 40)) := hide (((XR.out.trans hx).heap (lt_of_obj B3.out)).trans B3.out)
        have hAg := HAg.out (w.heap.size + 1 + 1) (by omega)
        have HAu := hide (hu3 (w.heap.size + 1 + 1) (by omega) (HFa2.out _ (by omega) hAg.2) (fun t ht => HKf.out.res t ht))
        have HE : Hid (EvOk w (putTm w9 (w.heap.size + 1 + 1) u) given p QQ u) := hide ⟨hu1.grown (putTm_grown _ _ _) (fun c e => by injection e with e; subst e; exact HAu.out), by rw [hu2, ← HQQ.out, ← HKf.out.is, ← HFp.out, List.foldl_map]; rfl, fun c hc h1 h2 => hu3 c (by omega) (HFa2.out c (by omega) h2) (fun t ht => HKf.out.away t ht c hc h1 h2)⟩
        have XG := hide (putTm_ext X9.out (by omega : w.heap.size ≤ w.heap.size + 1 + 1) u)
        obtain ⟨z0, z1, z2, z3, z4, z5, zf0, zf1, zf2, zf3, zf4, zf5⟩ := m0_cells B9.out
        have hz := lt_of_obj B9.out
        clear hu1 hu2 hu3 hx HC d0 d1 d2 d3 d4 d5 d6 HAu hAg
        go_wp2
        refine bodyPost_ret (v := tmV u) ?_ rfl ⟨⟨u, rfl, HE.out⟩, XG.out⟩
        simp [results, Tryz.f50, go_sem, z0, z1, z2, z3, z4, z5]

/-- The term of any proof that is one. -/
theorem e_mterm (x : EnD) (P : Option Addr) (pc : Nat) (preds : List Pd) (L : Option Addr) (lc : Nat) (given : List Tm) (hpl : ∀ y ∈ x.insts, y.preds.length ≤ 40000) (p : Pf) : EvC x P pc preds L lc given p := by
  induction p using Pf.ind with
  | h p ih =>
  by_cases h1 : p.kind = 1
  · exact e_mterm_given x P pc preds L lc given p h1
  · by_cases h2 : p.kind = 2
    · exact e_mterm_super x P pc preds L lc given p h2 ih
    · by_cases h3 : p.kind = 3
      · exact e_mterm_inst x P pc preds L lc given hpl p h3 ih
      · intro w he hP hL hp hq hlen hgl
        obtain ⟨q, hq⟩ := Option.isSome_iff_exists.1 hq
        rcases prv_parts hq with ⟨h, -⟩ | ⟨h, -⟩ | ⟨h, -⟩
        · exact absurd h h1
        · exact absurd h h2
        · exact absurd h h3

end Go.Proofs.YtcnkfkjgpdmebaaGreatDoor

/- Contracts: errors.Is at a sentinel. (After the guide's worked text on errors.Is.) -/
namespace Go.Proofs.YtcnkfkjgpdmebaaGreatDoor
open Go.RowKit Go.Extern.Stop Go.Stop Go.Extern

/-! ### CLOSED FACTS: what 'reflectlite.TypeOf(target).Comparable()' gives at such a target -/
theorem er_typeOf (v : Value) (w : World) : (Extern.ReflectliteType.typeOf #[.iface 307 v]).run Tryz.prog w = .ok (.iface 203 (.agg #[.pointer (some ⟨4, 307, none⟩)])) w := by kernel_rfl
theorem er_comparable (w : World) : ((Extern.ReflectliteType.method fun t => do Rtype.noPackHeld "Comparable" t; (fun a => Value.bool a.comparable) <$> typeInfo t) #[.agg #[.pointer (some ⟨4, 307, none⟩)]]).run Tryz.prog w = .ok (.bool true) w := by kernel_rfl
theorem er_methodComparable (v : Value) (w : World) : (Go.method 439 203 v "Comparable").run Tryz.prog w = .ok (264, v) w := by kernel_rfl
theorem er_comp : (Tryz.prog.info? 307).map (·.comparable) = some true := by kernel_rfl
theorem er_size : (Tryz.prog.info? 327).map (·.size) = some 1 := by kernel_rfl

/-! ### CLOSED FACTS ON THE METHOD SETS: what errors.is's assertions find -/
theorem er_noIs (v : Value) (xT : TypeId) (w : World) : (Instr.typeAssert (.iface 307 v) xT 205 true).run Tryz.prog w = .ok (.tuple #[.nilIface, .bool false]) w := run_typeAssert_lacksB Tryz.underlying205 (by kernel_rfl) (by kernel_rfl) v xT w
theorem er_noUnwrap (v : Value) (xT : TypeId) (w : World) : (Instr.typeAssert (.iface 307 v) xT 208 true).run Tryz.prog w = .ok (.tuple #[.nilIface, .bool false]) w := run_typeAssert_lacksB Tryz.underlying208 (by kernel_rfl) (by kernel_rfl) v xT w
theorem er_noUnwraps (v : Value) (xT : TypeId) (w : World) : (Instr.typeAssert (.iface 307 v) xT 210 true).run Tryz.prog w = .ok (.tuple #[.nilIface, .bool false]) w := run_typeAssert_lacksB Tryz.underlying210 (by kernel_rfl) (by kernel_rfl) v xT w

set_option maxRecDepth 10000 in
set_option maxHeartbeats 1000000 in
/-- errors.Is(x, x), x a pointer to an errors.errorString. -/
theorem er_same (a : Addr) (w : World) :
    Calls Tryz.prog 51 #[.iface 307 (.pointer (some a)), .iface 307 (.pointer (some a))] w fun e w' => e = .returned (.bool true) ∧ w' = w := by
  obtain ⟨i, hi, hcmp⟩ := Option.map_eq_some_iff.1 er_comp
  obtain ⟨j, hj, hjs⟩ := Option.map_eq_some_iff.1 er_size
  have h8 := @run_callFunc_extern Tryz.prog 85 _ Extern.ReflectliteType.typeOf Tryz.func85 (by kernel_rfl) (by kernel_rfl) (by kernel_rfl) (by kernel_rfl)
  have h32 := @run_callFunc_extern Tryz.prog 264 _ (Extern.ReflectliteType.method fun t => do Rtype.noPackHeld "Comparable" t; pure (.bool (← typeInfo t).comparable)) Tryz.func264 (by kernel_rfl) (by kernel_rfl) (by kernel_rfl) (by kernel_rfl)
  have tT := er_typeOf
  have cT := er_comparable
  have mR := er_methodComparable
  have heq := run_eql_iface_ptr_same (P := Tryz.prog) w a Tryz.underlying78 Tryz.underlying307 hi hcmp hj
  go_enter Tryz.func51, Tryz.ntmps51
  go_wp2
  refine wp_loop_rounds 1 ?_
  rw [rounds_succ]
  go_wp2
  go_ret
  exact ⟨rfl, rfl⟩

set_option maxRecDepth 10000 in
set_option maxHeartbeats 1000000 in
/-- errors.Is(nil, x). -/
theorem er_nil (b : Addr) (w : World) :
    Calls Tryz.prog 51 #[.nilIface, .iface 307 (.pointer (some b))] w fun e w' => e = .returned (.bool false) ∧ w' = w := by
  have hn := run_eql_iface_nil_left (P := Tryz.prog) w 307 (.pointer (some b)) Tryz.underlying78
  go_enter Tryz.func51, Tryz.ntmps51
  go_wp2
  go_ret
  exact ⟨rfl, rfl⟩

set_option maxRecDepth 10000 in
set_option maxHeartbeats 1000000 in
/-- errors.Is(x, y), two different pointers to errors.errorString: neither has Is nor Unwrap: false. -/
theorem er_other (a b : Addr) (ca cb : Array Value) (ta tb : TypeId) (w : World) (hne : a ≠ b) (ha : w.heap[a.block]? = some (.cells ca ta (0, 0))) (hb : w.heap[b.block]? = some (.cells cb tb (0, 0))) :
    Calls Tryz.prog 51 #[.iface 307 (.pointer (some a)), .iface 307 (.pointer (some b))] w fun e w' => e = .returned (.bool false) ∧ w' = w := by
  obtain ⟨i, hi, hcmp⟩ := Option.map_eq_some_iff.1 er_comp
  obtain ⟨j, hj, hjs⟩ := Option.map_eq_some_iff.1 er_size
  have h8 := @run_callFunc_extern Tryz.prog 85 _ Extern.ReflectliteType.typeOf Tryz.func85 (by kernel_rfl) (by kernel_rfl) (by kernel_rfl) (by kernel_rfl)
  have h32 := @run_callFunc_extern Tryz.prog 264 _ (Extern.ReflectliteType.method fun t => do Rtype.noPackHeld "Comparable" t; pure (.bool (← typeInfo t).comparable)) Tryz.func264 (by kernel_rfl) (by kernel_rfl) (by kernel_rfl) (by kernel_rfl)
  have tT := er_typeOf
  have cT := er_comparable
  have mR := er_methodComparable
  have nE := er_noIs
  have uE := er_noUnwrap
  have vE := er_noUnwraps
  have heq := run_eql_iface_ptr_other (P := Tryz.prog) w Tryz.underlying78 Tryz.underlying307 hi hcmp hj (by rw [hjs]; decide) hne ha hb
  go_enter Tryz.func51, Tryz.ntmps51
  go_wp2
  refine wp_loop_rounds 1 ?_
  rw [rounds_succ]
  go_wp2
  go_ret
  exact ⟨rfl, rfl⟩

end Go.Proofs.YtcnkfkjgpdmebaaGreatDoor

/- Contracts: the error's number of why there is no term; the types of what is known. -/
namespace Go.Proofs.YtcnkfkjgpdmebaaGreatDoor
open Go.RowKit

/-- What the package variables hold. -/
structure EvGl (w : World) (a0 a1 : Addr) : Prop where
  v0 : w.cell? ⟨0, 0, none⟩ = some (.iface 307 (.pointer (some a0)))
  v1 : w.cell? ⟨1, 0, none⟩ = some (.iface 307 (.pointer (some a1)))
  ne : a0 ≠ a1
  b0 : ∃ c t, w.heap[a0.block]? = some (.cells c t (0, 0))
  b1 : ∃ c t, w.heap[a1.block]? = some (.cells c t (0, 0))
theorem EvGl.ext {w w' : World} {a0 a1 : Addr} (h : EvGl w a0 a1) (e : Ext w w') : EvGl w' a0 a1 := by
  obtain ⟨c0, t0, h0⟩ := h.b0
  obtain ⟨c1, t1, h1⟩ := h.b1
  exact ⟨e.cell h.v0, e.cell h.v1, h.ne, ⟨c0, t0, (e.heap (lt_of_obj h0)).trans h0⟩, ⟨c1, t1, (e.heap (lt_of_obj h1)).trans h1⟩⟩

set_option maxRecDepth 10000 in
set_option maxHeartbeats 1000000 in
theorem e_number_none (a0 a1 : Addr) (w : World) (h : EvGl w a0 a1) : Calls Tryz.prog 29 #[.iface 307 (.pointer (some a0))] w fun e w' => e = .returned (.int .i64 1) ∧ w' = w := by
  have g0 := h.v0
  go_enter Tryz.func29, Tryz.ntmps29
  go_wp2_with fail
  refine (er_same a0 _).mono ?_
  rintro e w2 ⟨rfl, rfl⟩
  go_wp2
  go_ret
  exact ⟨rfl, rfl⟩

set_option maxRecDepth 10000 in
set_option maxHeartbeats 1000000 in
theorem e_number_great (a0 a1 : Addr) (w : World) (h : EvGl w a0 a1) : Calls Tryz.prog 29 #[.iface 307 (.pointer (some a1))] w fun e w' => e = .returned (.int .i64 2) ∧ w' = w := by
  have g0 := h.v0
  have g1 := h.v1
  obtain ⟨c0, t0, b0⟩ := h.b0
  obtain ⟨c1, t1, b1⟩ := h.b1
  have hne : a1 ≠ a0 := fun e => h.ne e.symm
  go_enter Tryz.func29, Tryz.ntmps29
  go_wp2_with fail
  refine (er_other a1 a0 _ _ _ _ _ hne b1 b0).mono ?_
  rintro e w2 ⟨rfl, rfl⟩
  go_wp2_with fail
  refine (er_same a1 _).mono ?_
  rintro e w2 ⟨rfl, rfl⟩
  go_wp2
  go_ret
  exact ⟨rfl, rfl⟩

set_option maxRecDepth 10000 in
set_option maxHeartbeats 1000000 in
theorem e_number_ok (a0 a1 : Addr) (w : World) (h : EvGl w a0 a1) : Calls Tryz.prog 29 #[.nilIface] w fun e w' => e = .returned (.int .i64 0) ∧ w' = w := by
  have g0 := h.v0
  have g1 := h.v1
  go_enter Tryz.func29, Tryz.ntmps29
  go_wp2_with fail
  refine (er_nil a0 _).mono ?_
  rintro e w2 ⟨rfl, rfl⟩
  go_wp2_with fail
  refine (er_nil a1 _).mono ?_
  rintro e w2 ⟨rfl, rfl⟩
  go_wp2
  go_ret
  exact ⟨rfl, rfl⟩

end Go.Proofs.YtcnkfkjgpdmebaaGreatDoor

/- Contracts of Go's package slices on rows of types, and of terms: whether one is there. -/
namespace Go.Proofs.YtcnkfkjgpdmebaaGreatDoor
open Go.RowKit Go.Shelf

set_option maxRecDepth 10000 in
set_option maxHeartbeats 2000000 in
theorem index_fm (f : FuncId) (lb : Array Value) (ef : Opens f) (p : Tm → Bool) (A : Option Addr) (cap : Nat) (l : List Tm) (w : World) (h : TmsIn w A l) (hl : l.length ≤ 1000000) (hp : ∀ w', Ext w w' → ∀ x ∈ l, Calls Tryz.prog f (#[tmV x] ++ lb) w' fun e w'' => e = .returned (.bool (p x)) ∧ Ext w' w'') :
    Calls Tryz.prog 161 #[.slice A l.length cap, .func (.func f) #[] lb] w fun e w' => (∃ i : Int, e = .returned (.int .i64 i) ∧ (0 ≤ i ↔ l.any p = true)) ∧ Ext w w' := by
  have HL := hide h
  have HP := hide hp
  unfold Opens at ef
  clear h hp
  obtain ⟨R, hR⟩ : ∃ R, R = l.any p := ⟨_, rfl⟩
  have HR := hide hR
  rw [← hR]
  clear hR
  go_enter Tryz.func161, Tryz.ntmps161
  go_wp2
  go_loopw [8] (fun i wr => ∃ k : Nat, k ≤ l.length ∧ i = .int .i64 k ∧ Hid ((l.take k).any p = false) ∧ Hid (Ext w wr)) (fun i _ => l.length - (intOf i).toNat)
  case atStart => exact ⟨0, Nat.zero_le _, rfl, hide (by simp), hide (Ext.refl _)⟩
  case round =>
    obtain ⟨k, hk, rfl, HA, HX⟩ := hrel
    by_cases hlt : k < l.length
    · have hlt' : (k : Int) < (l.length : Int) := by omega
      have hk0 : (0 : Int) ≤ (k : Int) := by omega
      obtain ⟨b, o, rfl, hb, q0, q1, q2, q3, q4, q5⟩ := (HL.out.ext HX.out).at_ hlt
      have hm := List.getElem_mem hlt
      have HC := hide (HP.out wr HX.out _ hm)
      have Htk : Hid (l.take (k + 1) = l.take k ++ [l[k]'hlt]) := hide (List.take_succ_eq_append_getElem hlt)
      have Hm := hide hm
      clear hm
      unfold tmV at HC
      generalize l[k]'hlt = x at *
      cases hb : p x
      · rw [hb] at HC
        have Hb := hide hb
        clear hb
        go_wp2_with fail
        refine HC.out.mono ?_
        rintro e w3 ⟨rfl, hx⟩
        have X3 := hide (HX.out.trans hx)
        clear hx
        go_wp2
        go_roundw
        case rel => exact ⟨k + 1, hlt, by go_num, hide (by rw [Htk.out, List.any_append, HA.out]; simpa using Hb.out), X3⟩
        case measure => simp [intOf]; omega
      · rw [hb] at HC
        have HN : Hid (R = true) := hide (by rw [HR.out, List.any_eq_true]; exact ⟨x, Hm.out, hb⟩)
        clear hb
        go_wp2_with fail
        refine HC.out.mono ?_
        rintro e w3 ⟨rfl, hx⟩
        go_wp2
        go_ret
        exact ⟨⟨(k : Int), rfl, by rw [HN.out]; simp⟩, HX.out.trans hx⟩
    · have hge : ¬ (k : Int) < (l.length : Int) := by omega
      have HN : Hid (R = false) := hide (by rw [HR.out]; have := HA.out; rwa [List.take_of_length_le (by omega)] at this)
      go_wp2
      go_ret
      exact ⟨⟨-1, rfl, by rw [HN.out]; simp⟩, HX.out⟩

set_option maxRecDepth 10000 in
set_option maxHeartbeats 1000000 in
theorem has_fm (f : FuncId) (lb : Array Value) (ef : Opens f) (p : Tm → Bool) (A : Option Addr) (cap : Nat) (l : List Tm) (w : World) (h : TmsIn w A l) (hl : l.length ≤ 1000000) (hp : ∀ w', Ext w w' → ∀ x ∈ l, Calls Tryz.prog f (#[tmV x] ++ lb) w' fun e w'' => e = .returned (.bool (p x)) ∧ Ext w' w'') :
    Calls Tryz.prog 112 #[.slice A l.length cap, .func (.func f) #[] lb] w fun e w' => e = .returned (.bool (l.any p)) ∧ Ext w w' := by
  have HI := hide (index_fm f lb ef p A cap l w h hl hp)
  clear h hp
  generalize l.any p = R at *
  go_enter Tryz.func112, Tryz.ntmps112
  go_wp2_with fail
  refine HI.out.mono ?_
  rintro e w2 ⟨⟨i, rfl, hi⟩, hx⟩
  have HR : Hid (decide ((0 : Int) ≤ i) = R) := hide (by cases R <;> simp_all)
  have X := hide hx
  clear hi hx
  go_wp2
  go_ret
  exact ⟨by first | rfl | (rw [← HR.out]; rfl), X.out⟩

end Go.Proofs.YtcnkfkjgpdmebaaGreatDoor

/- Contracts: whether a scheme may be; of the program, and of the reference. -/
namespace Go.Proofs.YtcnkfkjgpdmebaaGreatDoor
open Go.RowKit

structure Sc where
  n : Int
  A : Option Addr
  cap : Nat
  preds : List Pd
  ty : Ty
structure ScIn (w : World) (s : Sc) : Prop where
  le : s.preds.length ≤ s.cap
  max : s.cap ≤ 9223372036854775807
  row : PdsIn w s.A s.preds
  ty : TyIn w s.ty
theorem ScIn.ext {w w' : World} {s : Sc} (h : ScIn w s) (e : Ext w w') : ScIn w' s := ⟨h.le, h.max, h.row.ext e, h.ty.ext e⟩

section
variable {w w' : World} {b : Nat} {s : Sc}




end
end Go.Proofs.YtcnkfkjgpdmebaaGreatDoor

/- A function's type, and contracts on it of the reference. -/
namespace Go.Proofs.YtcnkfkjgpdmebaaGreatDoor
open Go.RowKit

/-- From one type to another one. -/
def arrP (p q : Ty.Pure) : Ty.Pure := .mk [45, 62] 0 [p, q]
/-- One that has been made. -/
def arrT (a b : Ty) (g : Nat) : Ty := .mk [45, 62] 0 (some ⟨g, 0, none⟩) 2 [a, b]
theorem arrT_pure (a b : Ty) (g : Nat) : (arrT a b g).pure = arrP a.pure b.pure := by rw [Ty.pure_eq]; rfl
theorem arrT_in {w : World} {a b : Ty} {g : Nat} (ha : TyIn w a) (hb : TyIn w b) (h : w.heap[g]? = some (.cells #[encStr a.con, .int .i64 a.var, .slice a.A a.args.length a.cap, encStr b.con, .int .i64 b.var, .slice b.A b.args.length b.cap] 53 (0, 0))) : TyIn w (arrT a b g) :=
  TyIn.of (by simp) (by decide) (by decide) (RowOf.block tyC [a, b] (by simpa [tyC, Ty.cells] using h)) (by
    intro k hk
    simp at hk
    rcases hk with rfl | rfl
    · exact ha
    · exact hb)
theorem arrT_away {c g : Nat} {a b : Ty} (hg : g ≠ c) (ha : awayB c a = true) (hb : awayB c b = true) : awayB c (arrT a b g) = true :=
  awayB_mk (fun _ x e => by injection e with e; subst e; exact hg) (by
    intro k hk
    simp at hk
    rcases hk with rfl | rfl
    · exact ha
    · exact hb)



end Go.Proofs.YtcnkfkjgpdmebaaGreatDoor
