/- Contract: chapter 21's law of the order. (A program of ours has printed this.) -/
import Derived.Test.YtmjiljhcjfnfpaaGreatJS34
import Derived.Deep.RegionHeld3
/- Contract: chapter 21's law of the order. (A program of ours has printed this.) -/
namespace Go.Proofs.YtmjiljhcjfnfpaaGreat
open Go.RowKit

set_option maxRecDepth 10000 in
set_option maxHeartbeats 8000000 in
theorem l_order21 (a b : Sc) (w : World) (ha : ScIn w a) (hb : ScIn w b) (hoka : okS a) (hokb : okS b) :
    Calls Tryz.prog 5 #[scV a, scV b] w fun e w' => e = .returned (.bool true) ∧ Ext w w' := by
  obtain ⟨W, hW⟩ : ∃ W, W = (w.alloc (.cells #[.int .i64 a.n, .slice a.A a.preds.length a.cap, encStr a.ty.con, .int .i64 a.ty.var, .slice a.ty.A a.ty.args.length a.ty.cap] 27)).alloc (.cells #[.int .i64 b.n, .slice b.A b.preds.length b.cap, encStr b.ty.con, .int .i64 b.ty.var, .slice b.ty.A b.ty.args.length b.ty.cap] 27) := ⟨_, rfl⟩
  have HW := hide hW.symm
  have X0 : Hid (Ext w W) := hide (by rw [hW]; exact ((Ext.refl _).alloc _).alloc _)
  have B1 : Hid (ScBox W w.heap.size a) := hide (by rw [hW]; exact (ScBox.new w a).ext ((Ext.refl _).alloc _))
  have B2 : Hid (ScBox W (w.heap.size + 1) b) := hide (by rw [hW]; exact at_newB _ _ _ (by simp))
  have HFa := hide (l_few21 a W (ha.ext X0.out))
  have HFb := hide (fun w' (e : Ext W w') => l_few21 b w' (hb.ext (X0.out.trans e)))
  have HA := hide ha
  have HB := hide hb
  have Hoka := hide hoka
  have Hokb := hide hokb
  obtain ⟨c0, c1, c2, c3, c4⟩ := B1.out.cells
  have lc := B1.out.lt
  clear hW ha hb hoka hokb
  unfold scV at *
  go_enter Tryz.func5, Tryz.ntmps5
  go_upto_region 1 with fail
  rw [HW.out]
  clear HW
  go_wp2_with fail
  refine HFa.out.mono ?_
  rintro e w1 ⟨⟨r, rfl, hr⟩, hx⟩
  have X1 := hide hx
  clear hx HFa c0 c1 c2 c3 c4 lc
  rcases hr with rfl | ⟨rfl, hpa, -, hsa⟩
  · go_wp2_with fail
    refine (l_awake21 _).mono ?_
    rintro e v ⟨rfl, hz⟩
    go_wp2
    go_ret
    exact ⟨rfl, X0.out.trans (X1.out.trans hz)⟩
  obtain ⟨d0, d1, d2, d3, d4⟩ := (B2.out.ext X1.out).cells
  have ld := (B2.out.ext X1.out).lt
  go_wp2_with fail
  refine (HFb.out _ X1.out).mono ?_
  rintro e w2 ⟨⟨r, rfl, hr⟩, hx⟩
  have X2 := hide (X1.out.trans hx)
  clear hx HFb d0 d1 d2 d3 d4 ld X1
  rcases hr with rfl | ⟨rfl, hpb, -, hsb⟩
  · go_wp2_with fail
    refine (l_awake21 _).mono ?_
    rintro e v ⟨rfl, hz⟩
    go_wp2
    go_ret
    exact ⟨rfl, X0.out.trans (X2.out.trans hz)⟩
  have HLg := hide (fun w' (e : Ext W w') => hide (s_legal a w' (HA.out.ext (X0.out.trans e)) (by omega) (by omega)))
  have HSaa := hide (fun w' (e : Ext W w') => hide (s_same a a w' (HA.out.ext (X0.out.trans e)) (HA.out.ext (X0.out.trans e)) (by omega) (by omega) (by omega) (by omega)))
  have HSab := hide (fun w' (e : Ext W w') => hide (s_same a b w' (HA.out.ext (X0.out.trans e)) (HB.out.ext (X0.out.trans e)) (by omega) (by omega) (by omega) (by omega)))
  have HSba := hide (fun w' (e : Ext W w') => hide (s_same b a w' (HB.out.ext (X0.out.trans e)) (HA.out.ext (X0.out.trans e)) (by omega) (by omega) (by omega) (by omega)))
  have HAab := hide (fun w' (e : Ext W w') => hide (s_above a b w' (HA.out.ext (X0.out.trans e)) (HB.out.ext (X0.out.trans e)) (by omega) (by omega) (by omega) (by omega) Hoka.out))
  have HAba := hide (fun w' (e : Ext W w') => hide (s_above b a w' (HB.out.ext (X0.out.trans e)) (HA.out.ext (X0.out.trans e)) (by omega) (by omega) (by omega) (by omega) Hokb.out))
  have HAaa := hide (fun w' (e : Ext W w') => hide (s_above a a w' (HA.out.ext (X0.out.trans e)) (HA.out.ext (X0.out.trans e)) (by omega) (by omega) (by omega) (by omega) Hoka.out))
  have HFr := hide (fun w' (e : Ext W w') => hide (s_free a w' (HA.out.ext (X0.out.trans e)) (by omega) (by omega)))
  have HS := hide (fun w' (e : Ext W w') => (And.intro (B1.out.ext e).cells.1 (And.intro (B1.out.ext e).cells.2.1 (And.intro (B1.out.ext e).cells.2.2.1 (And.intro (B1.out.ext e).cells.2.2.2.1 (And.intro (B1.out.ext e).cells.2.2.2.2 (B2.out.ext e).cells))))))
  have hM1 : sameS a b = true → abvB a b = true := fun h => same_above h
  have hM2 : sameS a b = true → abvB b a = true := fun h => same_above (by rw [same_comm]; exact h)
  have hL1 : scB a = true → abvB a a = true := fun h => above_self h
  rw [same_self] at HSaa
  rw [same_comm] at HSba
  generalize sameS a b = M at *
  generalize abvB a b = U1 at *
  generalize abvB b a = U2 at *
  generalize abvB a a = U3 at *
  generalize scB a = L at *
  have HM1 := hide hM1
  have HM2 := hide hM2
  have HL1 := hide hL1
  unfold scV at *
  clear hM1 hM2 hL1
  obtain ⟨c0, c1, c2, c3, c4⟩ := (B1.out.ext X2.out).cells
  have lc := (B1.out.ext X2.out).lt
  obtain ⟨d0, d1, d2, d3, d4⟩ := (B2.out.ext X2.out).cells
  have ld := (B2.out.ext X2.out).lt
  go_upto_region 3 with fail
  go_cut [28] (fun s28 wx => s28 = .bool false ∧ Hid (Ext W wx))
  case first =>
    go_region_held3 (fun w' => w'.cell? ⟨w.heap.size, 0, none⟩ = some (.int .i64 a.n) ∧ w'.cell? ⟨w.heap.size, 1, none⟩ = some (.slice a.A a.preds.length a.cap) ∧ w'.cell? ⟨w.heap.size, 2, none⟩ = some (encStr a.ty.con) ∧ w'.cell? ⟨w.heap.size, 3, none⟩ = some (.int .i64 a.ty.var) ∧ w'.cell? ⟨w.heap.size, 4, none⟩ = some (.slice a.ty.A a.ty.args.length a.ty.cap) ∧ w'.cell? ⟨w.heap.size + 1, 0, none⟩ = some (.int .i64 b.n) ∧ w'.cell? ⟨w.heap.size + 1, 1, none⟩ = some (.slice b.A b.preds.length b.cap) ∧ w'.cell? ⟨w.heap.size + 1, 2, none⟩ = some (encStr b.ty.con) ∧ w'.cell? ⟨w.heap.size + 1, 3, none⟩ = some (.int .i64 b.ty.var) ∧ w'.cell? ⟨w.heap.size + 1, 4, none⟩ = some (.slice b.ty.A b.ty.args.length b.ty.cap))
     (exact HS.out _ (by repeat (first | with_reducible exact Y4.out | with_reducible exact Y3.out | with_reducible exact Y2.out | with_reducible exact Y1.out | with_reducible exact X2.out | with_reducible refine Ext.drew ?_)))
     (first
    | (go_at_call 15
       with_reducible refine Calls.mono (HLg.out _ ?e).out ?_
       case e => (refine Ext.trans X2.out ?_; (repeat (first | exact Ext.refl _ | exact Ext.pre (by simp) | exact Ext.alloc (by assumption) _ | refine Ext.alloc ?_ _ | refine Ext.more ?_ _ _ | refine Ext.drew ?_ | refine Ext.drewN ?_ _)); done)
       rintro e y1 ⟨rfl, hx1⟩
       have Y1 : Hid (Ext W y1) := hide (by refine Ext.trans ?_ hx1; (refine Ext.trans X2.out ?_; (repeat (first | exact Ext.refl _ | exact Ext.pre (by simp) | exact Ext.alloc (by assumption) _ | refine Ext.alloc ?_ _ | refine Ext.more ?_ _ _ | refine Ext.drew ?_ | refine Ext.drewN ?_ _)); done))
       clear hx1)
    | (go_at_call 8
       with_reducible refine Calls.mono (HSaa.out _ ?e).out ?_
       case e => (refine Ext.trans Y1.out ?_; (repeat (first | exact Ext.refl _ | exact Ext.pre (by simp) | exact Ext.alloc (by assumption) _ | refine Ext.alloc ?_ _ | refine Ext.more ?_ _ _ | refine Ext.drew ?_ | refine Ext.drewN ?_ _)); done)
       rintro e y2 ⟨rfl, hx2⟩
       have Y2 : Hid (Ext W y2) := hide (by refine Ext.trans ?_ hx2; (refine Ext.trans Y1.out ?_; (repeat (first | exact Ext.refl _ | exact Ext.pre (by simp) | exact Ext.alloc (by assumption) _ | refine Ext.alloc ?_ _ | refine Ext.more ?_ _ _ | refine Ext.drew ?_ | refine Ext.drewN ?_ _)); done))
       clear hx2)
    | (go_at_call 8
       with_reducible refine Calls.mono (HSab.out _ ?e).out ?_
       case e => (refine Ext.trans Y2.out ?_; (repeat (first | exact Ext.refl _ | exact Ext.pre (by simp) | exact Ext.alloc (by assumption) _ | refine Ext.alloc ?_ _ | refine Ext.more ?_ _ _ | refine Ext.drew ?_ | refine Ext.drewN ?_ _)); done)
       rintro e y3 ⟨rfl, hx3⟩
       have Y3 : Hid (Ext W y3) := hide (by refine Ext.trans ?_ hx3; (refine Ext.trans Y2.out ?_; (repeat (first | exact Ext.refl _ | exact Ext.pre (by simp) | exact Ext.alloc (by assumption) _ | refine Ext.alloc ?_ _ | refine Ext.more ?_ _ _ | refine Ext.drew ?_ | refine Ext.drewN ?_ _)); done))
       clear hx3)
    | (go_at_call 8
       with_reducible refine Calls.mono (HSba.out _ ?e).out ?_
       case e => (refine Ext.trans Y3.out ?_; (repeat (first | exact Ext.refl _ | exact Ext.pre (by simp) | exact Ext.alloc (by assumption) _ | refine Ext.alloc ?_ _ | refine Ext.more ?_ _ _ | refine Ext.drew ?_ | refine Ext.drewN ?_ _)); done)
       rintro e y4 ⟨rfl, hx4⟩
       have Y4 : Hid (Ext W y4) := hide (by refine Ext.trans ?_ hx4; (refine Ext.trans Y3.out ?_; (repeat (first | exact Ext.refl _ | exact Ext.pre (by simp) | exact Ext.alloc (by assumption) _ | refine Ext.alloc ?_ _ | refine Ext.more ?_ _ _ | refine Ext.drew ?_ | refine Ext.drewN ?_ _)); done))
       clear hx4))
    all_goals (go_wp2_with fail; go_meet)
    all_goals exact ⟨by first | rfl | simp, Y4⟩
  case rest =>
    obtain ⟨rfl, X3⟩ := hcut
    clear c0 c1 c2 c3 c4 lc d0 d1 d2 d3 d4 ld
    obtain ⟨c0, c1, c2, c3, c4⟩ := (B1.out.ext X3.out).cells
    have lc := (B1.out.ext X3.out).lt
    obtain ⟨d0, d1, d2, d3, d4⟩ := (B2.out.ext X3.out).cells
    have ld := (B2.out.ext X3.out).lt
    go_upto_region 5 with fail
    go_cut [48] (fun s48 wx => s48 = .bool false ∧ Hid (Ext W wx))
    case first =>
      go_wp2_with fail
      refine (HSab.out _ X3.out).out.mono ?_
      rintro e w4 ⟨rfl, hx⟩
      have X4 := hide (X3.out.trans hx)
      clear hx c0 c1 c2 c3 c4 lc d0 d1 d2 d3 d4 ld
      cases M with
      | false =>
        go_wp2
        go_meet
        exact ⟨rfl, X4⟩
      | true =>
        obtain rfl : U1 = true := HM1.out rfl
        obtain rfl : U2 = true := HM2.out rfl
        obtain ⟨c0, c1, c2, c3, c4⟩ := (B1.out.ext X4.out).cells
        have lc := (B1.out.ext X4.out).lt
        obtain ⟨d0, d1, d2, d3, d4⟩ := (B2.out.ext X4.out).cells
        have ld := (B2.out.ext X4.out).lt
        go_wp2_with fail
        refine (HFr.out _ X4.out).out.mono ?_
        rintro e w5 ⟨⟨FA, fc, rfl, -, -, -⟩, hx⟩
        have X5 := hide (X4.out.trans hx)
        clear hx c0 c1 c2 c3 c4 lc d0 d1 d2 d3 d4 ld
        generalize (frS a).length = fl at *
        cases hfl : ((fl : Int) == 0)
        · go_wp2
          go_meet
          exact ⟨rfl, X5⟩
        · have hfl2 : fl = 0 := by
            have := of_decide_eq_true hfl
            omega
          obtain ⟨c0, c1, c2, c3, c4⟩ := (B1.out.ext X5.out).cells
          have lc := (B1.out.ext X5.out).lt
          obtain ⟨d0, d1, d2, d3, d4⟩ := (B2.out.ext X5.out).cells
          have ld := (B2.out.ext X5.out).lt
          go_wp2_with fail
          refine (HAab.out _ X5.out).out.mono ?_
          rintro e w6 ⟨rfl, hx⟩
          have X6 := hide (X5.out.trans hx)
          clear hx c0 c1 c2 c3 c4 lc d0 d1 d2 d3 d4 ld
          obtain ⟨c0, c1, c2, c3, c4⟩ := (B1.out.ext X6.out).cells
          have lc := (B1.out.ext X6.out).lt
          obtain ⟨d0, d1, d2, d3, d4⟩ := (B2.out.ext X6.out).cells
          have ld := (B2.out.ext X6.out).lt
          go_wp2_with fail
          refine (HAba.out _ X6.out).out.mono ?_
          rintro e w7 ⟨rfl, hx⟩
          have X7 := hide (X6.out.trans hx)
          clear hx c0 c1 c2 c3 c4 lc d0 d1 d2 d3 d4 ld
          go_wp2
          go_meet
          exact ⟨rfl, X7⟩
    case rest =>
      obtain ⟨rfl, X8⟩ := hcut
      clear c0 c1 c2 c3 c4 lc d0 d1 d2 d3 d4 ld
      obtain ⟨c0, c1, c2, c3, c4⟩ := (B1.out.ext X8.out).cells
      have lc := (B1.out.ext X8.out).lt
      obtain ⟨d0, d1, d2, d3, d4⟩ := (B2.out.ext X8.out).cells
      have ld := (B2.out.ext X8.out).lt
      go_wp2_with fail
      refine (HLg.out _ X8.out).out.mono ?_
      rintro e w9 ⟨rfl, hx⟩
      have X9 := hide (X8.out.trans hx)
      clear hx c0 c1 c2 c3 c4 lc d0 d1 d2 d3 d4 ld
      cases L with
      | false =>
        go_wp2_with fail
        refine (l_awake21 _).mono ?_
        rintro e v ⟨rfl, hz⟩
        go_wp2
        go_ret
        exact ⟨rfl, X0.out.trans (X9.out.trans hz)⟩
      | true =>
        obtain rfl : U3 = true := HL1.out rfl
        obtain ⟨c0, c1, c2, c3, c4⟩ := (B1.out.ext X9.out).cells
        have lc := (B1.out.ext X9.out).lt
        obtain ⟨d0, d1, d2, d3, d4⟩ := (B2.out.ext X9.out).cells
        have ld := (B2.out.ext X9.out).lt
        go_wp2_with fail
        refine (HAaa.out _ X9.out).out.mono ?_
        rintro e w10 ⟨rfl, hx⟩
        have X10 := hide (X9.out.trans hx)
        clear hx c0 c1 c2 c3 c4 lc d0 d1 d2 d3 d4 ld
        go_wp2_with fail
        refine (l_awake21 _).mono ?_
        rintro e v ⟨rfl, hz⟩
        go_wp2
        go_ret
        exact ⟨rfl, X0.out.trans (X10.out.trans hz)⟩

end Go.Proofs.YtmjiljhcjfnfpaaGreat
