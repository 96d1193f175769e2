/- Contract of the reference: predicates that are the same. -/
import Derived.Test.YtbkdlbohhkakiaaGreatDoorJC28
import Derived.Deep.QuietTactic
import Derived.BigQuiet
import Derived.Deep.DeepCutAuto
import Derived.Deep.RegionHeld3
/- Contract of the reference: predicates that are the same. -/
namespace Go.Proofs.YtbkdlbohhkakiaaGreatDoor
open Go.RowKit

set_option maxRecDepth 10000 in
set_option maxHeartbeats 1000000 in
theorem r_same20 (a b : Pd) (w : World) (ha : TyIn w a.ty) (hb : TyIn w b.ty) (h : a.cls = b.cls) (hs : sameB a.ty b.ty = true) :
    Calls Tryz.prog 12 #[pdV a, pdV b] w fun e w' => e = .returned (.bool true) ∧ Ext w w' := by
  obtain ⟨W, hW⟩ : ∃ W, W = (w.alloc (.cells #[encStr a.cls, encStr a.ty.con, .int .i64 a.ty.var, .slice a.ty.A a.ty.args.length a.ty.cap] 39)).alloc (.cells #[encStr b.cls, encStr b.ty.con, .int .i64 b.ty.var, .slice b.ty.A b.ty.args.length b.ty.cap] 39) := ⟨_, rfl⟩
  have HW := hide hW.symm
  have X0 : Hid (Ext w W) := hide (by rw [hW]; exact ((Ext.refl _).alloc _).alloc _)
  have B1 : Hid (PdBox W w.heap.size a) := hide (by rw [hW]; exact (PdBox.new w a).ext ((Ext.refl _).alloc _))
  have B2 : Hid (PdBox W (w.heap.size + 1) b) := hide (by rw [hW]; exact at_newB _ _ _ (by simp))
  have HS := hide (r_same16 a.ty b.ty W (ha.ext X0.out) (hb.ext X0.out))
  rw [hs] at HS
  obtain ⟨c0, c1, c2, c3⟩ := B1.out.cells
  obtain ⟨d0, d1, d2, d3⟩ := B2.out.cells
  have hb1 := B1.out.lt
  have hb2 := B2.out.lt
  have hq : (b.cls == b.cls) = true := by simp
  rw [h] at c0
  clear hW ha hb h hs
  unfold tyV at HS
  unfold pdV
  go_enter Tryz.func12, Tryz.ntmps12
  go_upto_region 1 with fail
  rw [HW.out]
  go_wp2_with fail
  refine HS.out.mono ?_
  rintro e w2 ⟨rfl, hx⟩
  go_wp2
  go_ret
  exact ⟨rfl, X0.out.trans hx⟩

end Go.Proofs.YtbkdlbohhkakiaaGreatDoor

/- Contract: chapter 24's law of cuts. -/
namespace Go.Proofs.YtbkdlbohhkakiaaGreatDoor
open Go.RowKit

theorem putZ_bound (l : List Pf) (M : Nat) (hM : 1 ≤ M) (h : ∀ x ∈ l, x.size ≤ M) (p : Pf) : putZ l p ≤ M * p.size := by
  induction p using Pf.ind with
  | h p ih =>
  rw [putZ_eq, Pf.size_eq]
  split
  · cases e : atZ l p.n with
    | none => exact Nat.zero_le _
    | some x =>
      refine Nat.le_trans (h x (atZ_mem e)) ?_
      have := Nat.le_mul_of_pos_right M (show 0 < (p.kids.map Pf.size).sum + 1 by omega)
      omega
  · have : ∀ ks : List Pf, (∀ k ∈ ks, putZ l k ≤ M * k.size) → (ks.map (putZ l)).sum ≤ M * (ks.map Pf.size).sum := by
      intro ks
      induction ks with
      | nil => simp
      | cons k ks ihk =>
        intro hk
        have h1 := hk k (by simp)
        have h2 := ihk (fun k hk' => hk k (by simp [hk']))
        simp only [List.map_cons, List.sum_cons, Nat.mul_add]
        omega
    have := this p.kids ih
    rw [Nat.mul_add]
    omega

set_option maxRecDepth 10000 in
set_option maxHeartbeats 8000000 in
theorem l_cut24 (x : EnD) (G : Option Addr) (gc : Nat) (given : List Pd) (L : Option Addr) (cap : Nat) (l : List Pf) (w : World) (he : EnIn w x) (hg : PdsIn w G given) (hl : PfsIn w L l) (hle : l.length ≤ cap) (hmx : cap ≤ 9223372036854775807) (hw : ∀ y ∈ l, wideF y = true) (hgl : HGl w) :
    Calls Tryz.prog 5 #[enV x, .slice G given.length gc, .slice L l.length cap] w fun e w' => e = .returned (.bool true) ∧ Ext w w' := by
  obtain ⟨i0, hi, hz0, hz1, hz2⟩ := info_parts pred_info
  obtain ⟨W, hW⟩ : ∃ W, W = w.alloc (.cells #[.slice x.D x.datas.length x.dc, .slice x.C x.classes.length x.cc, .slice x.I x.insts.length x.ic] 26) := ⟨_, rfl⟩
  have HW := hide hW.symm
  have X0 : Hid (Ext w W) := hide (by rw [hW]; exact (Ext.refl _).alloc _)
  have B1 : Hid (EnBox W w.heap.size x) := hide (by rw [hW]; exact EnBox.new w x)
  have HG := hide (fun w' (e : Ext W w') => hgl.ext (X0.out.trans e))
  cases l with
  | nil =>
    clear hW
    unfold enV
    go_enter Tryz.func5, Tryz.ntmps5
    go_upto_region 1 with fail
    rw [HW.out]
    go_wp2_with fail
    refine (l_awake24 _ (HG.out _ (Ext.refl W))).mono ?_
    rintro e v ⟨rfl, hz⟩
    go_wp2
    go_ret
    exact ⟨rfl, X0.out.trans hz⟩
  | cons p rest =>
    obtain ⟨b, o, rfl, hb, q0, q1, q2, q3⟩ := (hl.ext X0.out).at_ (i := 0) (by simp)
    have HL := hide hl
    have HWd := hide hw
    have hrl : rest.length + 1 ≤ cap := hle
    have hne : ¬ ((rest.length : Int) + 1 = 0) := by omega
    have hne2 : ((0 : Int) < (rest.length : Int) + 1) := by omega
    clear hW hl hw
    simp only [List.getElem_cons_zero, Nat.zero_mul, Nat.add_zero] at q0 q1 q2 q3
    simp only [List.length_cons]
    unfold enV
    go_enter Tryz.func5, Tryz.ntmps5
    go_upto_region 1 with fail
    rw [HW.out]
    clear HW
    go_upto_region 3 with fail
    go_cut [2, 7, 8] (fun s2 s7 s8 wx => ∃ B7 A8 c8, s2 = .slice (some ⟨b, o, none⟩) (rest.length + 1) cap ∧ s7 = .pointer (some ⟨B7, 0, none⟩) ∧ s8 = .slice A8 rest.length c8 ∧ rest.length ≤ c8 ∧ c8 ≤ 9223372036854775807 ∧ W.heap.size ≤ B7 ∧ Hid (Ext W wx) ∧ Hid (FBox wx B7 p) ∧ Hid (PfsIn w A8 rest))
    case first =>
      go_region
      all_goals go_wp2_with fail
      all_goals (go_meet; first
        | (refine ⟨W.heap.size, some ⟨b, o, none⟩, 0, by rw [‹cap = 1›], rfl, rfl, by omega, by omega, Nat.le_refl _, hide (((Ext.refl W).alloc _).drew), hide (at_newD W _), hide ?_⟩
           have := HL.out.cut (k := 1) (cap := cap) (by simp) hle
           rw [if_pos ‹cap = 1›] at this
           exact this)
        | (refine ⟨W.heap.size, some ⟨b, o + 4, none⟩, cap - 1, rfl, rfl, rfl, by omega, by omega, Nat.le_refl _, hide (((Ext.refl W).alloc _).drew), hide (at_newD W _), hide ?_⟩
           have := HL.out.cut (k := 1) (cap := cap) (by simp) hle
           rw [if_neg ‹¬ cap = 1›] at this
           exact this))
    case rest =>
      obtain ⟨B7, A8, c8, rfl, rfl, rfl, h8a, h8b, hB7, HX, HB7, HL8⟩ := hcut
      clear q0 q1 q2 q3 hb
      have Hp := hide (HL.out.kids p (by simp))
      have HFe := hide (fun w' (e : Ext W w') => hide (l_fewenv x w' (he.ext (X0.out.trans e))))
      have HFp := hide (fun w' (e : Ext W w') => hide (l_few20 G gc given w' (hg.ext (X0.out.trans e))))
      have HFf := hide (fun A c l' w' (h : PfsIn w' A l') (hle : l'.length ≤ 100000) => hide (l_few24 A c l' w' h hle))
      have HP := hide (fun G' gc' given' q w' (e : Ext W w') (hg' : PdsIn w' G' given') (hq : PfIn w' q) => hide (p_proves x G' gc' given' q w' (he.ext (X0.out.trans e)) hg' hq (HG.out w' e)))
      have HIn := hide (fun q (hq : PfIn w q) a (h : prv x.classes x.insts given q = some a) => prv_in he hg q hq a h)
      have Hg := hide hg
      have Hw1 := hide (HWd.out p (by simp))
      have Hw2 := hide (fun y (hy : y ∈ rest) => HWd.out y (List.mem_cons_of_mem _ hy))
      unfold enV at HFe HP
      unfold pfV at HP
      clear he hg HWd HL hgl
      have eE := (B1.out.ext HX.out).cells
      obtain ⟨e0, e1, e2⟩ := eE
      have le0 := (B1.out.ext HX.out).lt
      go_wp2_with fail
      refine (HFe.out _ HX.out).out.mono ?_
      rintro e v1 ⟨⟨r, rfl, hr⟩, hx⟩
      have X1 := hide (HX.out.trans hx)
      have HB7 := hide (HB7.out.ext hx)
      clear e0 e1 e2 le0 hx HX
      rcases hr with rfl | ⟨rfl, -⟩
      · (go_wp2_with fail; refine (l_awake24 _ (HG.out _ X1.out)).mono ?_; rintro e v ⟨rfl, hz⟩; go_wp2; go_ret; exact ⟨rfl, X0.out.trans (Ext.trans X1.out hz)⟩)
      go_wp2_with fail
      refine (HFp.out _ X1.out).out.mono ?_
      rintro e v2 ⟨⟨r, rfl, hr⟩, hx⟩
      have X2 := hide (X1.out.trans hx)
      have HB7 := hide (HB7.out.ext hx)
      clear hx X1
      rcases hr with rfl | ⟨rfl, -⟩
      · (go_wp2_with fail; refine (l_awake24 _ (HG.out _ X2.out)).mono ?_; rintro e v ⟨rfl, hz⟩; go_wp2; go_ret; exact ⟨rfl, X0.out.trans (Ext.trans X2.out hz)⟩)
      by_cases h10 : (10 : Int) < (rest.length : Int)
      · (go_wp2_with fail; refine (l_awake24 _ (HG.out _ X2.out)).mono ?_; rintro e v ⟨rfl, hz⟩; go_wp2; go_ret; exact ⟨rfl, X0.out.trans (Ext.trans X2.out hz)⟩)
      obtain ⟨p0, p1, p2, p3⟩ := HB7.out.cells
      have lb7 := HB7.out.lt
      go_wp2_with fail
      refine (HFf.out (some ⟨v2.heap.size, 0, none⟩) 1 [p] _ ⟨RowOf.block pfC [p] (at_newB _ _ _ rfl), all1 ((Hp.out.ext (X0.out.trans X2.out)).ext ((Ext.refl _).alloc _))⟩ (by simp)).out.mono ?_
      rintro e v3 ⟨⟨r, rfl, hr⟩, hx⟩
      have X3 := hide ((X2.out.alloc _).trans hx)
      have HB7 := hide (HB7.out.ext (((Ext.refl _).alloc _).trans hx))
      clear hx X2 p0 p1 p2 p3 lb7
      rcases hr with rfl | ⟨rfl, hs1, -⟩
      · (go_wp2_with fail; refine (l_awake24 _ (HG.out _ X3.out)).mono ?_; rintro e v ⟨rfl, hz⟩; go_wp2; go_ret; exact ⟨rfl, X0.out.trans (Ext.trans X3.out hz)⟩)
      go_wp2_with fail
      refine (HFf.out A8 c8 rest _ (HL8.out.ext (X0.out.trans X3.out)) (by omega)).out.mono ?_
      rintro e v4 ⟨⟨r, rfl, hr⟩, hx⟩
      have X4 := hide (X3.out.trans hx)
      have HB7 := hide (HB7.out.ext hx)
      clear hx X3
      rcases hr with rfl | ⟨rfl, hs2, -⟩
      · (go_wp2_with fail; refine (l_awake24 _ (HG.out _ X4.out)).mono ?_; rintro e v ⟨rfl, hz⟩; go_wp2; go_ret; exact ⟨rfl, X0.out.trans (Ext.trans X4.out hz)⟩)
      have Hz1 : Hid (p.size ≤ 3000) := hide (by simpa [psizes] using hs1)
      have Hz2 : Hid (∀ y ∈ rest, y.size ≤ 3000) := hide (fun y hy => Nat.le_trans (Tree.mem_sum Pf.size hy) hs2)
      clear hs1 hs2 HFe HFp HFf
      go_upto_region 8 with fail
      go_loopw [9, 10] (fun v i wr => ∃ (k : Nat) (mid : List Pd), k ≤ rest.length ∧ i = .int .i64 k ∧ Hid (Ext v4 wr) ∧ Hid (wr.ownsRow v4.heap.size 39 4 v mid.length (mid.flatMap pdC.f)) ∧ Hid (MidOk x.classes x.insts given wr v.ownBlock (rest.take k) mid)) (fun _ i _ => rest.length - (intOf i).toNat)
      case atStart => exact ⟨0, [], Nat.zero_le _, rfl, hide (Ext.refl _), hide (World.ownsRow_nil _ _ _ _), hide (MidOk.nil _ _ _ _)⟩
      case round =>
        obtain ⟨k, mid, hk, rfl, HX, HO, HM⟩ := hrel
        have XR := hide (X4.out.trans HX.out)
        by_cases hlt : k < rest.length
        · have hlt' : (k : Int) < (rest.length : Int) := by omega
          have hk0 : (0 : Int) ≤ (k : Int) := by omega
          obtain ⟨b', o', rfl, hb', q0, q1, q2, q3⟩ := (HL8.out.ext (X0.out.trans XR.out)).at_ hlt
          have hmem := List.getElem_mem hlt
          have hpf := HL8.out.kids _ hmem
          have HPk := hide (fun w' (e : Ext wr w') => hide (HP.out G gc given (rest[k]'hlt) w' (XR.out.trans e) (Hg.out.ext (X0.out.trans (XR.out.trans e))) (hpf.ext (X0.out.trans (XR.out.trans e)))).out)
          have HInk := hide (HIn.out _ hpf)
          have Htk : Hid (rest.take (k + 1) = rest.take k ++ [rest[k]'hlt]) := hide (List.take_succ_eq_append_getElem hlt)
          have hml : mid.length ≤ 100000 := by have := HM.out.len; rw [List.length_take] at this; omega
          generalize rest[k]'hlt = y at *
          clear hmem hpf
          obtain ⟨O, hO⟩ : ∃ O, O = prv x.classes x.insts given y := ⟨_, rfl⟩
          have HOo := hide hO
          rw [← hO] at HPk HInk
          clear hO
          obtain ⟨e0, e1, e2⟩ := (B1.out.ext XR.out).cells
          have le0 := (B1.out.ext XR.out).lt
          have hne0 : w.heap.size ≠ wr.heap.size := by omega
          have hneb : b' ≠ wr.heap.size := by omega
          have HSS := hide (fun w' (e : Ext wr w') => And.intro (e.cell e0) (And.intro (e.cell e1) (And.intro (e.cell e2) (And.intro (e.cell q0) (And.intro (e.cell q1) (And.intro (e.cell q2) (e.cell q3)))))))
          go_upto_region 10 with fail
          go_cut [11, 12] from 53 to 75 (fun s11 s12 wx => ∃ B11 q n, s11 = .pointer (some ⟨B11, 0, none⟩) ∧ s12 = .int .i64 n ∧ Hid (PvAt wr wx B11 O q n))
          case first =>
            go_region_held3 (fun w' => w'.cell? ⟨w.heap.size, 0, none⟩ = some (.slice x.D x.datas.length x.dc) ∧ w'.cell? ⟨w.heap.size, 1, none⟩ = some (.slice x.C x.classes.length x.cc) ∧ w'.cell? ⟨w.heap.size, 2, none⟩ = some (.slice x.I x.insts.length x.ic) ∧ w'.cell? ⟨b', o' + k * 4, none⟩ = some (.int .i64 y.kind) ∧ w'.cell? ⟨b', o' + k * 4 + 1, none⟩ = some (.int .i64 y.n) ∧ w'.cell? ⟨b', o' + k * 4 + 2, none⟩ = some (.slice y.T y.types.length y.tc) ∧ w'.cell? ⟨b', o' + k * 4 + 3, none⟩ = some (.slice y.A y.kids.length y.cap)) (first | with_reducible assumption | (obtain ⟨g1, g2, g3, g4, g5, g6, g7⟩ := kS; with_reducible exact ⟨cell4 hne0 _ _ _ _ g1, cell4 hne0 _ _ _ _ g2, cell4 hne0 _ _ _ _ g3, cell4 hneb _ _ _ _ g4, cell4 hneb _ _ _ _ g5, cell4 hneb _ _ _ _ g6, cell4 hneb _ _ _ _ g7⟩) | go_keep) (first
              | (go_at_call 10
                 refine Calls.mono (HPk.out _ (by repeat (first | exact Ext.refl _ | exact Ext.pre (by simp) | exact Ext.alloc (by assumption) _ | refine Ext.alloc ?_ _ |  refine Ext.more ?_ _ _ | refine Ext.drew ?_ | refine Ext.drewN ?_ _))).out ?_
                 rintro e z ⟨⟨q, n, rfl, hok⟩, hxy⟩
                 have kS := HSS.out z (by refine Ext.trans ?_ hxy; exact (by repeat (first | exact Ext.refl _ | exact Ext.pre (by simp) | exact Ext.alloc (by assumption) _ | refine Ext.alloc ?_ _ |  refine Ext.more ?_ _ _ | refine Ext.drew ?_ | refine Ext.drewN ?_ _)))
                 (try (have zz := zp hxy (B := wr.heap.size) (by with_reducible exact at_newD wr _); obtain ⟨z0, z1, z2, z3, z4, z5, z6, z7, z8⟩ := zz))))
            all_goals (go_wp2_with fail; go_meet; first
              | exact ⟨z.heap.size, q, n, rfl, rfl, hide (PvAt.behind ((Ext.refl wr).drew) hxy hok)⟩
              | exact ⟨wr.heap.size, q, n, rfl, rfl, hide (PvAt.ahead (((Ext.refl wr).alloc _).drew) hxy (Nat.le_refl _) (at_newD wr _) (fun a e => (HInk.out a e).ext (X0.out.trans XR.out)) hok)⟩
            )
          case rest =>
            obtain ⟨B11, q, n, rfl, rfl, HPv⟩ := hcut
            have XN := hide (XR.out.trans HPv.out.x)
            clear e0 e1 e2 le0 q0 q1 q2 q3 HSS HPk
            cases O with
            | none =>
              obtain rfl := HPv.out.no rfl
              clear HPv
              (go_wp2_with fail; refine (l_awake24 _ (HG.out _ XN.out)).mono ?_; rintro e v ⟨rfl, hz⟩; go_wp2; go_ret; exact ⟨rfl, X0.out.trans (Ext.trans XN.out hz)⟩)
            | some a =>
              obtain ⟨rfl, -⟩ := HPv.out.yes a rfl
              obtain ⟨d0, d1, d2, d3⟩ := HPv.out.box.cells
              have lb11 := HPv.out.box.lt
              have Ha := hide (HInk.out a rfl)
              rename World => wx
              go_wp2_with (at_builtin; refine wpList_append_row _ rfl _ _ 27 rfl v4.heap.size 39 i0 _ 4 64 Tryz.underlying27 hi hz0 hz1 hz2 rfl (by decide) _ mid.length (mid.flatMap pdC.f) rfl (own_extB HO.out ?c1) (some ⟨wx.heap.size, 0, none⟩) 1 1 (pdC.f q) rfl ?c2 ?c3 ?c4 ?c5 ?c6 ?_)
              case c1 => exact HPv.out.x.alloc _
              case c2 => exact pd_row1 (at_newB _ _ _ rfl)
              case c3 => have := one_pds [q]; simpa using this
              case c4 => unfold maxLen; omega
              case c5 => omega
              case c6 => exact Nat.le_trans (HX.out.trans HPv.out.x).size (by simp)
              intro v5 w5 hown5 hg5 hor5
              have X5 := hide (Ext.app ((HX.out.trans HPv.out.x).alloc _) hg5 (own_extB HO.out (HPv.out.x.alloc _)) (Nat.le_refl _))
              have O5 : Hid (w5.ownsRow v4.heap.size 39 4 v5 (mid ++ [q]).length ((mid ++ [q]).flatMap pdC.f)) := hide (by rw [List.length_append, List.flatMap_append]; simpa using hown5)
              have M5 : Hid (MidOk x.classes x.insts given w5 v5.ownBlock (rest.take (k + 1)) (mid ++ [q])) := hide (by
                rw [Htk.out]
                exact MidOk.snoc HM.out HO.out HPv.out rfl HOo.out.symm (fun c hc => away_new Ha.out.ty (Nat.le_trans (X0.out.trans X4.out).size hc)) ((Ext.refl _).alloc _) hg5 (by
                  rcases hor5 with h1 | h1
                  · exact .inl h1
                  · exact .inr ⟨_, h1, by simp⟩))
              clear hown5 hg5 hor5 d0 d1 d2 d3 lb11 HPv
              go_wp2
              go_roundw
              case rel => exact ⟨k + 1, _, hlt, by go_num, X5, O5, M5⟩
              case measure => simp [intOf]; omega
        · have hge : ¬ (k : Int) < (rest.length : Int) := by omega
          have HM2 : Hid (MidOk x.classes x.insts given wr _ rest mid) := hide (by have := HM.out; rwa [List.take_of_length_le (by omega)] at this)
          clear HM
          obtain ⟨A9, c9, rfl, -, -, hrow, -⟩ := RowOf.own pdC HO.out
          have HR9 : Hid (PdsIn wr A9 mid) := hide ⟨hrow, HM2.out.inn⟩
          have HB7 := hide (HB7.out.ext HX.out)
          obtain ⟨e0, e1, e2⟩ := (B1.out.ext XR.out).cells
          have le0 := (B1.out.ext XR.out).lt
          obtain ⟨p0, p1, p2, p3⟩ := HB7.out.cells
          have lb7 := HB7.out.lt
          clear hrow HO
          have HQ0 := hide (HP.out A9 c9 mid p wr XR.out HR9.out (Hp.out.ext (X0.out.trans XR.out))).out
          have HPut := hide (fun w' (e : Ext W w') => hide (f_Put A8 c8 rest (by omega) (fun y hy => ⟨Hw2.out y hy, Nat.le_trans (Hz2.out y hy) (by omega)⟩) p w' (HL8.out.ext (X0.out.trans e)) (Hp.out.ext (X0.out.trans e)) Hw1.out (by have := Hz1.out; omega) (by have h1 := putZ_bound rest 3000 (by omega) Hz2.out p; have h2 := Hz1.out; omega)))
          have HCut := hide (cut_plain x.classes x.insts given mid rest HM2.out.len HM2.out.is p)
          have HSome := hide (put_some x.classes x.insts mid rest HM2.out.len p)
          unfold pfV at HPut
          clear Hw1 Hw2 Hz1 Hz2 HM2 hz0 hz1 hz2 hi
          go_wp2_with fail
          refine HQ0.out.mono ?_
          rintro e v5 ⟨⟨a, n1, rfl, ha⟩, hx⟩
          have Y5 := hide hx
          have HA := hide ha
          have HB7 := hide (HB7.out.ext hx)
          unfold pdV
          clear ha hx HQ0 e0 e1 e2 le0 p0 p1 p2 p3 lb7
          go_upto_region 15 with fail
          refine wp_named ?_
          intro W5 hW5
          have BA : Hid (PdBox W5 v5.heap.size a) := hide (by rw [hW5]; exact PdBox.new v5 a)
          have Z5 : Hid (Ext v5 W5) := hide (by rw [hW5]; exact (Ext.refl _).alloc _)
          have X5 : Hid (Ext W W5) := hide (XR.out.trans (Y5.out.trans Z5.out))
          have HAi := hide (HA.out.inn.ext Z5.out)
          have HB7 := hide (HB7.out.ext Z5.out)
          clear hW5 Y5 Z5
          obtain ⟨p0, p1, p2, p3⟩ := HB7.out.cells
          have lb7 := HB7.out.lt
          go_wp2_with fail
          refine (HPut.out _ X5.out).out.mono ?_
          rintro e v6 ⟨⟨u, n2, rfl, hu⟩, hx⟩
          have Y6 := hide hx
          have HU := hide hu
          clear hu hx HPut p0 p1 p2 p3 lb7
          go_upto_region 16 with fail
          refine wp_named ?_
          intro W6 hW6
          have BU : Hid (FBox W6 v6.heap.size u) := hide (by rw [hW6]; exact FBox.new v6 u)
          have Z6 : Hid (Ext v6 W6) := hide (by rw [hW6]; exact (Ext.refl _).alloc _)
          have V6 : Hid (Ext W5 W6) := hide (Y6.out.trans Z6.out)
          have X6 : Hid (Ext W W6) := hide (X5.out.trans V6.out)
          clear hW6 Y6
          cases hO1 : prv x.classes x.insts mid p with
          | none =>
            obtain ⟨rfl, -⟩ := HA.out.no hO1
            clear HA HU HCut HSome hO1
            (go_wp2_with fail; refine (l_awake24 _ (HG.out _ X6.out)).mono ?_; rintro e v ⟨rfl, hz⟩; go_wp2; go_ret; exact ⟨rfl, X0.out.trans (Ext.trans X6.out hz)⟩)
          | some a1 =>
            obtain ⟨rfl, haq⟩ := HA.out.yes a1 hO1
            have Haq := hide haq
            have hsm := HSome.out (by rw [hO1]; rfl)
            obtain ⟨X, hX⟩ := Option.isSome_iff_exists.1 hsm
            by_cases hz : 4096 < putZ rest p
            · obtain ⟨rfl, -⟩ := HU.out.lim X hX hz
              clear HA HU HCut HSome hO1 hsm hX haq hz
              (go_wp2_with fail; refine (l_awake24 _ (HG.out _ X6.out)).mono ?_; rintro e v ⟨rfl, hz⟩; go_wp2; go_ret; exact ⟨rfl, X0.out.trans (Ext.trans X6.out hz)⟩)
            obtain ⟨rfl, hc⟩ := HU.out.yes X hX (by omega)
            obtain ⟨a2, ha2, haq2⟩ := HCut.out u (by rw [hX, hc.is]) a1 hO1
            have HUi := hide (hc.inn.ext Z6.out)
            have Haq2 := hide (haq.trans haq2)
            have Ha2 := hide ha2
            clear HA HU HCut HSome hO1 hsm hX haq hz hc ha2 haq2 Z6 Haq
            obtain ⟨e0, e1, e2⟩ := (B1.out.ext X6.out).cells
            have le0 := (B1.out.ext X6.out).lt
            obtain ⟨u0, u1, u2, u3⟩ := BU.out.cells
            have lbu := BU.out.lt
            have HQ2 := hide (HP.out G gc given u W6 X6.out (Hg.out.ext (X0.out.trans X6.out)) HUi.out).out
            have BA := hide (BA.out.ext V6.out)
            have HAi := hide (HAi.out.ext V6.out)
            clear HP Hg V6
            go_wp2_with fail
            refine HQ2.out.mono ?_
            rintro e v7 ⟨⟨c, n3, rfl, hcc⟩, hx⟩
            have Y7 := hide hx
            obtain ⟨rfl, hcq⟩ := hcc.yes a2 Ha2.out
            have HCi := hide hcc.inn
            have HE := hide (Haq2.out.trans hcq.symm)
            unfold pdV
            clear hcc hcq hx HQ2 e0 e1 e2 le0 u0 u1 u2 u3 lbu Ha2 Haq2
            go_upto_region 19 with fail
            refine wp_named ?_
            intro W7 hW7
            have BC : Hid (PdBox W7 v7.heap.size c) := hide (by rw [hW7]; exact PdBox.new v7 c)
            have Z7 : Hid (Ext v7 W7) := hide (by rw [hW7]; exact (Ext.refl _).alloc _)
            have V7 : Hid (Ext W6 W7) := hide (Y7.out.trans Z7.out)
            have X7 : Hid (Ext W W7) := hide (X6.out.trans V7.out)
            have BA := hide (BA.out.ext V7.out)
            have HAi := hide (HAi.out.ext V7.out)
            have HCi := hide (HCi.out.ext Z7.out)
            clear hW7 Y7 Z7
            obtain ⟨a0, a1', a2', a3⟩ := BA.out.cells
            obtain ⟨c0, c1, c2, c3⟩ := BC.out.cells
            have lba := BA.out.lt
            have lbc := BC.out.lt
            have HS := hide (r_same20 a c W7 HAi.out.ty HCi.out.ty HE.out.1 (by rw [sameB_iff]; exact HE.out.2))
            unfold pdV at HS
            go_wp2_with fail
            refine HS.out.mono ?_
            rintro e v8 ⟨rfl, hx⟩
            have X8 := hide (X7.out.trans hx)
            clear hx
            (go_wp2_with fail; refine (l_awake24 _ (HG.out _ X8.out)).mono ?_; rintro e v ⟨rfl, hz⟩; go_wp2; go_ret; exact ⟨rfl, X0.out.trans (Ext.trans X8.out hz)⟩)

end Go.Proofs.YtbkdlbohhkakiaaGreatDoor
