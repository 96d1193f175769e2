/- Contract: the variables of a term's types that nobody around binds: the walk. -/
import Derived.Test.YtjacjpeeinnkcaaGreatJB32
import Derived.Lib.AppendZeros
import Derived.WalkSpells
import Derived.WalkLawsBesides
/- Contract: the variables of a term's types that nobody around binds: the walk. -/
namespace Go.Proofs.YtjacjpeeinnkcaaGreat
open Go.RowKit Go.Sort

/-- How the walk over a term's variables stands: what has been told; what is bound; the term. -/
structure VSt (w : World) (v : Value) (base : Nat) (t : Tm) (A : Option Addr) (b out : List Int) (wr : World) (x : Value) : Prop where
  ap : Ap w v wr x
  own : wr.ownsRow base 3 1 x out.length (out.map (Value.int .i64))
  row : Ints wr A b
  off : OffO x A b.length
  box : TmBox wr w.heap.size t
  offb : x.ownBlock ≠ some w.heap.size
  ge : base ≤ wr.heap.size
section
variable {w wr w' : World} {v x x' : Value} {base : Nat} {t : Tm} {A : Option Addr} {b out out' : List Int}
theorem VSt.ext (h : VSt w v base t A b out wr x) (e : Ext wr w') : VSt w v base t A b out w' x :=
  ⟨h.ap.ext e, own_extB h.own e, Row.ext h.row e, h.off, h.box.ext e, h.offb, Nat.le_trans h.ge e.size⟩
theorem VSt.step (h : VSt w v base t A b out wr x) (k : Ap wr x w' x') (ho : w'.ownsRow base 3 1 x' out'.length (out'.map (Value.int .i64))) : VSt w v base t A b out' w' x' :=
  ⟨h.ap.trans k, ho, h.off.row h.row k, h.off.keep h.row k, h.box.kept k.grown h.offb, fun e => by
    rcases k.own with h2 | h2
    · exact h.offb (h2 ▸ e)
    · have := h2 _ e; have := h.box.lt; omega, Nat.le_trans h.ge k.size⟩
theorem VSt.slice (h : VSt w v base t A b out wr x) : ∃ A' cap', x = .slice A' out.length cap' ∧ Ints wr A' out := by
  obtain ⟨A', cap', e, -, -, hr, -⟩ := Ints.own h.own
  exact ⟨A', cap', e, hr⟩
/-- What the walk found is where it was. -/
theorem VSt.below (h : VSt w v base t A b out wr x) {w0 : World} (hB : Below w0.heap.size w0 w) (hb : w0.heap.size ≤ base) (hv : ∀ k, v.ownBlock = some k → base ≤ k) : Below w0.heap.size w0 wr :=
  hB.trans (h.ap.below hB.size (fun k hk => Nat.le_trans hb (hv k hk)))
end
theorem room_vs (t : Tm) (b us : List Int) {k : Nat} (h : k < t.kids.length) : (onceGo us (tvL b t.types ++ vsMs b (t.kids.take k))).length + vszM (t.kids[k]'h) ≤ us.length + vszM t := by
  have h1 := onceGo_len (tvL b t.types ++ vsMs b (t.kids.take k)) us
  rw [List.length_append] at h1
  have h2 := tvL_len b t.types
  have h3 := vsMs_len b (t.kids.take k)
  have h4 := sum_take_le vszM t.kids h
  rw [vszM_eq t]
  omega
theorem room_tv (t : Tm) (b us : List Int) {k : Nat} (h : k < t.types.length) : (onceGo us (tvL b (t.types.take k))).length + (t.types[k]'h).size ≤ us.length + vszM t := by
  have h1 := onceGo_len (tvL b (t.types.take k)) us
  have h2 := tvL_len b (t.types.take k)
  have h4 := sum_take_le Ty.size t.types h
  rw [vszM_eq t]
  omega
theorem onceGo_tv (us b : List Int) (l : List Ty) {k : Nat} (h : k < l.length) : onceGo us (tvL b (l.take (k + 1))) = onceGo (onceGo us (tvL b (l.take k))) ((onceI (l[k]'h).vars).filter fun v => !(b.any (· == v))) := by
  rw [tvL_take b l h, onceGo_app]
theorem onceGo_vs (us b m : List Int) (l : List Tm) {k : Nat} (h : k < l.length) : onceGo us (m ++ vsMs b (l.take (k + 1))) = onceGo (onceGo us (m ++ vsMs b (l.take k))) (vsM (l[k]'h) b) := by
  rw [vsMs_take b l h, ← List.append_assoc, onceGo_app]
theorem onceI_size (t : Ty) : (onceI t.vars).length ≤ t.size := Nat.le_trans (onceI_len _) (vars_len t)

set_option maxRecDepth 10000 in
set_option maxHeartbeats 8000000 in
theorem m_varsI (t : Tm) : ∀ (w0 w : World) (base : Nat) (v : Value) (us : List Int) (A : Option Addr) (cap : Nat) (b : List Int), TmIn w0 t → FewM t → Below w0.heap.size w0 w → w0.heap.size ≤ base → base ≤ w.heap.size →
    w.ownsRow base 3 1 v us.length (us.map (Value.int .i64)) → Ints w A b → OffO v A b.length → b.length + t.size * 10000 ≤ 100000000 → us.length + vszM t ≤ 1000000000000 →
    Calls Tryz.prog 59 #[v, tmV t, .slice A b.length cap] w fun e w' => ∃ v', e = .returned v' ∧ w'.ownsRow base 3 1 v' (onceGo us (vsM t b)).length ((onceGo us (vsM t b)).map (Value.int .i64)) ∧ Ap w v w' v' := by
  induction t using Tm.ind with
  | h t ih =>
  intro w0 w base v us A cap b ht hf hB hb0 hbs hO hI hoff hbl hus
  obtain ⟨i0, hi, hz0, hz1, hz2⟩ := info_parts int64_info
  have IH := hide ih
  have hle := ht.hd.le
  have hmx := ht.hd.max
  have htle := ht.hd.tle
  have htmx := ht.hd.tmax
  have hvle := ht.hd.vle
  have hvl := hf.vl
  have Hw := hide (ht.old hB)
  have Hk := hide ht.all
  have Hty := hide ht.hd.types
  have Hft := hide hf.ty
  have Hfk := hide hf.kids
  have HB0 := hide (TmBox.new w t)
  have X0 : Hid (Ext w (w.alloc (.cells #[.int .i64 t.kind, .int .i64 t.n, encStr t.name, .slice t.V t.vars.length t.vc, .slice t.T t.types.length t.tc, .slice t.A t.kids.length t.cap] 31))) := hide ((Ext.refl w).alloc _)
  have HBw := hide hB
  have hvw : ∀ k, v.ownBlock = some k → base ≤ k ∧ k < w.heap.size := fun k hk => hO.lt k hk
  have HO := hide hO
  have HI := hide hI
  have Hoff := hide hoff
  obtain ⟨c0, c1, c2, c3, c4, c5⟩ := HB0.out.cells
  obtain ⟨b', hb'⟩ : ∃ b', b' = vbM t b := ⟨_, rfl⟩
  have Hb' := hide hb'
  have hbl2 : b.length ≤ 100000000 - 10000 := by have := Nat.mul_le_mul_right 10000 t.size_pos; omega
  have hbn : b'.length ≤ b.length + t.vars.length := by
    rw [hb']; unfold vbM
    split
    · simp
    · omega
  have Hrm : Hid (∀ k ∈ t.kids, b'.length + k.size * 10000 ≤ 100000000) := hide (fun k hk => by
    have h3 := Nat.mul_le_mul_right 10000 (Tm.size_kid hk)
    rw [Nat.succ_mul] at h3
    omega)
  have hbl3 : b'.length ≤ 9223372036854775807 := by omega
  have HE : Hid (onceGo us (vsM t b) = onceGo us (tvL b' t.types ++ vsMs b' t.kids)) := hide (by rw [hb', ← vsM_eq])
  have Hsz := hide (fun k (hk : k ∈ t.kids) => Tm.size_kid hk)
  have Hrv := hide (fun k (hk : k < t.kids.length) => room_vs t b' us hk)
  have Hrt := hide (fun k (hk : k < t.types.length) => room_tv t b' us hk)
  have Hst := hide (fun k (hk : k < t.types.length) => onceGo_tv us b' t.types hk)
  have Hsv := hide (fun k (hk : k < t.kids.length) => onceGo_vs us b' (tvL b' t.types) t.kids hk)
  clear ih ht hf hB hO hI hoff hb' hbl hbn
  generalize onceGo us (vsM t b) = R at *
  unfold tmV
  go_enter Tryz.func59, Tryz.ntmps59
  go_upto_region 1 with fail
  obtain ⟨K5, hK5⟩ : ∃ K5, K5 = (t.kind == 5 || t.kind == 11) := ⟨_, rfl⟩
  have HK5 := hide hK5
  clear hK5
  go_cut [20] (fun s20 wx => s20 = .bool K5 ∧ w.alloc (.cells #[.int .i64 t.kind, .int .i64 t.n, encStr t.name, .slice t.V t.vars.length t.vc, .slice t.T t.types.length t.tc, .slice t.A t.kids.length t.cap] 31) = wx)
  case first =>
    cases h5 : (t.kind == 5)
    · have e : K5 = (t.kind == 11) := by rw [HK5.out, h5]; rfl
      subst e
      go_wp2_with fail
      go_meet
      exact ⟨rfl, rfl⟩
    · have e : K5 = true := by rw [HK5.out, h5]; rfl
      subst e
      go_wp2_with fail
      go_meet
      exact ⟨rfl, rfl⟩
  case rest =>
    obtain ⟨rfl, rfl⟩ := hcut
    go_upto_if 20 with fail
    go_cut [2] (fun s2 wx => ∃ A' cap', s2 = .slice A' b'.length cap' ∧ Hid (Ext (w.alloc (.cells #[.int .i64 t.kind, .int .i64 t.n, encStr t.name, .slice t.V t.vars.length t.vc, .slice t.T t.types.length t.tc, .slice t.A t.kids.length t.cap] 31)) wx) ∧ Hid (Ints wx A' b') ∧ Hid (OffO v A' b'.length))
    case first =>
      cases K5
      · have hbb : Hid (b' = b) := hide (by
          have := HK5.out
          simp only [eq_comm (a := false), Bool.or_eq_false_iff] at this
          rw [Hb'.out]; unfold vbM; rw [if_neg]; intro h; rcases h with h | h <;> simp [h] at this)
        go_wp2_with fail
        go_meet
        exact ⟨A, cap, by rw [hbb.out], hide (Ext.refl _), by rw [hbb.out]; exact hide (Row.ext HI.out X0.out), by rw [hbb.out]; exact Hoff⟩
      · have hbb : Hid (b' = b ++ t.vars) := hide (by
          have := HK5.out
          simp only [eq_comm (a := true), Bool.or_eq_true, beq_iff_eq] at this
          rw [Hb'.out]; unfold vbM; rw [if_pos this])
        have HC := hide (fun (w' : World) (g : Nat) (ty : TypeId) (e : Ext w w') (h1 : w'.heap[g]? = some (.cells #[.slice A b.length cap, .slice t.V t.vars.length t.vc] ty (0, 0))) => hide (concat2I g cap t.vc A t.V b t.vars ty w' h1 (Row.ext HI.out e) (Row.ext Hw.out.hd.vars e) (by omega)))
        go_wp2_with fail
        refine (HC.out _ (w.heap.size + 1) _ (X0.out.alloc _) (at_newB _ _ _ (by simp))).out.mono ?_
        rintro e w3 ⟨⟨A3, cp3, rfl, q1, q2, hR3, hnew⟩, hx3⟩
        have hx4 := ((Ext.refl (w.alloc (.cells #[.int .i64 t.kind, .int .i64 t.n, encStr t.name, .slice t.V t.vars.length t.vc, .slice t.T t.types.length t.tc, .slice t.A t.kids.length t.cap] 31))).alloc _).trans hx3
        have hoff3 : OffO v A3 b'.length := OffO.new (w := w) (fun k hk => (hvw k hk).2) (fun c o e => by have := hnew c o e; simp at this; omega)
        go_wp2_with fail
        go_meet
        exact ⟨A3, cp3, by rw [hbb.out]; simp, hide hx4, by rw [hbb.out]; exact hide hR3, hide hoff3⟩
    case rest =>
      obtain ⟨A2, cap2, rfl, HX, HR, HOf⟩ := hcut
      have V0 : Hid (VSt w v base t A2 b' us wc v) := hide ⟨Ap.of_ext (X0.out.trans HX.out) v, own_extB HO.out (X0.out.trans HX.out), HR.out, HOf.out, HB0.out.ext HX.out, fun e => by have := (hvw _ e).2; omega, by have := (X0.out.trans HX.out).size; omega⟩
      have Hvw := hide (fun k (hk : v.ownBlock = some k) => (hvw k hk).1)
      obtain ⟨-, -, -, -, d4, -⟩ := V0.out.box.cells
      clear HX HR HOf HO HI Hoff hvw c0 c1 c2 c3 c4 c5 X0 HB0 Hw Hb'
      go_wp2
      rename World => wq
      go_loopw [0, 29] (fun x i wr => ∃ k : Nat, k ≤ t.types.length ∧ i = .int .i64 k ∧ Hid (VSt w v base t A2 b' (onceGo us (tvL b' (t.types.take k))) wr x)) (fun _ i _ => t.types.length - (intOf i).toNat)
      case atStart => exact ⟨0, Nat.zero_le _, rfl, V0⟩
      case round =>
        obtain ⟨k, hk, rfl, HV⟩ := hrel
        by_cases hlt : k < t.types.length
        · have hlt' : (k : Int) < (t.types.length : Int) := by omega
          have hk0 : (0 : Int) ≤ (k : Int) := by omega
          have HKw := hide (HV.out.below HBw.out hb0 Hvw.out)
          obtain ⟨bb, o, hA, hbb, q0, q1, q2⟩ := (Hty.out.old HKw.out).at_ hlt
          have hxm := List.getElem_mem hlt
          have hxs := Hft.out _ hxm
          have hxr := Hrt.out k hlt
          have HCv := hide (fun w' (e : Ext wr w') => hide (t_vars (t.types[k]'hlt) w' (((Hty.out.old HKw.out).args _ hxm).ext e) hxs))
          have HStk := hide (Hst.out k hlt)
          have hol := onceI_size (t.types[k]'hlt)
          have HVa := hide (HV.out.ext ((Ext.refl wr).alloc (.cells #[encStr (t.types[k]'hlt).con, .int .i64 (t.types[k]'hlt).var, .slice (t.types[k]'hlt).A (t.types[k]'hlt).args.length (t.types[k]'hlt).cap] 55)))
          clear hxm
          generalize t.types[k]'hlt = c at *
          generalize onceI c.vars = L at *
          generalize onceGo us (tvL b' (t.types.take k)) = out at *
          rw [hA]
          clear hA
          go_wp2_with fail
          refine (HCv.out _ ((Ext.refl _).alloc _)).out.mono ?_
          rintro e w4 ⟨⟨v4, rfl, hO4⟩, hx4⟩
          obtain ⟨A4, cp4, hv4, -, -, hI4, hn4⟩ := Ints.own hO4
          subst hv4
          have HV4 := hide (HVa.out.ext hx4)
          have HI4 : Hid (Ints w4 A4 L) := hide hI4
          have HO4 : Hid (OffO u0 A4 L.length) := hide (OffO.new (w := wr) (fun j hj => (HV.out.own.lt j hj).2) (fun c o e => by have := (hn4 c o e).1; simp at this; omega))
          clear hO4 hI4 hn4 hx4 HCv
          go_wp2
          rename World => wz
          go_loopw [0, 36] (fun x i wr => ∃ j : Nat, j ≤ L.length ∧ i = .int .i64 j ∧ Hid (VSt w v base t A2 b' (onceGo out ((L.take j).filter fun y => !(b'.any (· == y)))) wr x) ∧ Hid (Ints wr A4 L) ∧ Hid (OffO x A4 L.length)) (fun _ i _ => L.length - (intOf i).toNat)
          case atStart => exact ⟨0, Nat.zero_le _, rfl, hide (by simpa [onceGo] using HV4.out), HI4, HO4⟩
          case round =>
            obtain ⟨j, hj, rfl, HVj, HIj, HOj⟩ := hrel
            by_cases hjt : j < L.length
            · have hjt' : (j : Int) < (L.length : Int) := by omega
              have hj0 : (0 : Int) ≤ (j : Int) := by omega
              obtain ⟨ab, ao, hAe, hab, z0⟩ := Ints.at_ HIj.out hjt
              obtain ⟨A5, cp5, hx5, hI5⟩ := HVj.out.slice
              have hlo : (onceGo out ((L.take j).filter fun y => !(b'.any (· == y)))).length ≤ 1000000000000 := by
                have h1 := onceGo_len ((L.take j).filter fun y => !(b'.any (· == y))) out
                have h2 := List.length_filter_le (fun y => !(b'.any (· == y))) (L.take j)
                have h3 : (L.take j).length ≤ L.length := by rw [List.length_take]; omega
                omega
              have HSj := hide (onceGo_step out L (fun y => !(b'.any (· == y))) hjt)
              have HH1 := hide (has_i A2 cap2 b' (L[j]'hjt) wr HVj.out.row hbl3)
              have HH2 := hide (has_i A5 cp5 (onceGo out ((L.take j).filter fun y => !(b'.any (· == y)))) (L[j]'hjt) wr hI5 (by omega))
              have HIf := hide hI5
              clear hI5
              generalize L[j]'hjt = y at *
              generalize onceGo out ((L.take j).filter fun y => !(b'.any (· == y))) = oj at *
              subst hx5
              rw [hAe]
              have HAe := hide hAe
              clear hAe
              cases hb1 : b'.any (· == y)
              · rw [hb1] at HH1
                cases hb2 : oj.any (· == y)
                · rw [hb2] at HH2
                  have HSk : Hid (onceGo out ((L.take (j + 1)).filter fun y => !(b'.any (· == y))) = oj ++ [y]) := hide (by rw [HSj.out, hb1, hb2]; rfl)
                  have hge2 := HVj.out.ge
                  have HOn := hide HVj.out.own
                  clear hb1 hb2 HSj
                  go_wp2_with fail
                  refine HH1.out.mono ?_
                  rintro e w5 ⟨rfl, rfl⟩
                  go_wp2_with fail
                  refine HH2.out.mono ?_
                  rintro e w6 ⟨rfl, rfl⟩
                  go_wp2_with (at_builtin; refine wpList_append_row _ rfl _ _ 29 rfl base 3 i0 _ 1 8 Tryz.underlying29 hi hz0 hz1 hz2 rfl (by decide) (.slice A5 oj.length cp5) oj.length (oj.map (Value.int .i64)) rfl (own_extB HOn.out ((Ext.refl _).alloc _)) _ 1 1 [.int .i64 y] rfl ?c2 ?c3 ?c4 ?c5 ?c6 ?_)
                  case c2 => exact Row.boxI _ (at_newB _ _ _ (by simp))
                  case c3 => first | rfl | (intro y hy; simp at hy; subst hy; rfl)
                  case c4 => unfold maxLen; omega
                  case c5 => omega
                  case c6 => (first | omega | (simp; omega))
                  intro v7 w7 hown7 hg7 hat7
                  have hown8 : w7.ownsRow base 3 1 v7 (oj ++ [y]).length ((oj ++ [y]).map (Value.int .i64)) := by rw [List.length_append, List.map_append]; exact hown7
                  have AP : Ap w6 (.slice A5 oj.length cp5) w7 v7 := (Ap.of_ext ((Ext.refl w6).alloc (.cells #[.int .i64 y] 3)) _).trans ⟨hg7, by
                    rcases hat7 with h1 | h1
                    · exact .inl h1
                    · exact .inr (fun k hk => by rw [h1] at hk; injection hk with hk; rw [World.size_alloc]; omega)⟩
                  have HV7 := hide (HVj.out.step AP hown8)
                  rw [← HSk.out] at HV7
                  have HI7 : Hid (Ints w7 (some ⟨ab, ao, none⟩) L) := hide (by have := HAe.out; subst this; exact HOj.out.row HIj.out AP)
                  have HO7 : Hid (OffO v7 (some ⟨ab, ao, none⟩) L.length) := hide (by have := HAe.out; subst this; exact HOj.out.keep HIj.out AP)
                  clear hown7 hown8 hg7 hat7 AP
                  go_wp2
                  go_roundw
                  case rel => exact ⟨j + 1, hjt, by go_num, HV7, HI7, HO7⟩
                  case measure => simp [intOf]; omega
                · rw [hb2] at HH2
                  have HSk : Hid (onceGo out ((L.take (j + 1)).filter fun y => !(b'.any (· == y))) = oj) := hide (by rw [HSj.out, hb1, hb2]; rfl)
                  clear hb1 hb2 HSj
                  go_wp2_with fail
                  refine HH1.out.mono ?_
                  rintro e w5 ⟨rfl, rfl⟩
                  go_wp2_with fail
                  refine HH2.out.mono ?_
                  rintro e w6 ⟨rfl, rfl⟩
                  go_wp2
                  go_roundw
                  case rel => exact ⟨j + 1, hjt, by go_num, by rw [HSk.out]; exact HVj, by have := HIj; rw [HAe.out] at this; exact this, by have := HOj; rw [HAe.out] at this; exact this⟩
                  case measure => simp [intOf]; omega
              · rw [hb1] at HH1
                have HSk : Hid (onceGo out ((L.take (j + 1)).filter fun y => !(b'.any (· == y))) = oj) := hide (by rw [HSj.out, hb1]; rfl)
                clear hb1 HSj HH2
                go_wp2_with fail
                refine HH1.out.mono ?_
                rintro e w5 ⟨rfl, rfl⟩
                go_wp2
                go_roundw
                case rel => exact ⟨j + 1, hjt, by go_num, by rw [HSk.out]; exact HVj, by have := HIj; rw [HAe.out] at this; exact this, by have := HOj; rw [HAe.out] at this; exact this⟩
                case measure => simp [intOf]; omega
            · have hge : ¬ (j : Int) < (L.length : Int) := by omega
              have HVe : Hid (VSt w v base t A2 b' (onceGo us (tvL b' (t.types.take (k + 1)))) wr u0) := hide (by rw [HStk.out]; have := HVj.out; rwa [List.take_of_length_le (by omega)] at this)
              clear HVj
              go_wp2
              go_roundw
              case rel => exact ⟨k + 1, hlt, by go_num, HVe⟩
              case measure => simp [intOf]; omega
        · have hge : ¬ (k : Int) < (t.types.length : Int) := by omega
          have HV2 : Hid (VSt w v base t A2 b' (onceGo us (tvL b' t.types)) wr u0) := hide (by have := HV.out; rwa [List.take_of_length_le (by omega)] at this)
          have HU : Hid (onceGo us (tvL b' t.types ++ vsMs b' t.kids) = R) := hide HE.out.symm
          obtain ⟨-, -, -, -, -, d5⟩ := HV2.out.box.cells
          clear HV HE Hst Hrt Hty Hft d4
          go_wp2
          rename World => wz
          go_loopw [0, 59] (fun x i wr => ∃ k : Nat, k ≤ t.kids.length ∧ i = .int .i64 k ∧ Hid (VSt w v base t A2 b' (onceGo us (tvL b' t.types ++ vsMs b' (t.kids.take k))) wr x)) (fun _ i _ => t.kids.length - (intOf i).toNat)
          case atStart => exact ⟨0, Nat.zero_le _, rfl, hide (by simpa [vsMs] using HV2.out)⟩
          case round =>
            obtain ⟨k, hk, rfl, HV⟩ := hrel
            by_cases hlt : k < t.kids.length
            · have hlt' : (k : Int) < (t.kids.length : Int) := by omega
              have hk0 : (0 : Int) ≤ (k : Int) := by omega
              have HKw := hide (HV.out.below HBw.out hb0 Hvw.out)
              obtain ⟨bb, o, hA, hbb, q0, q1, q2, q3, q4, q5⟩ := (Hk.out.old HKw.out).at_ hlt
              have hck := List.getElem_mem hlt
              have hrv := Hrv.out k hlt
              have HStk := hide (Hsv.out k hlt)
              have HVa := hide (HV.out.ext ((Ext.refl wr).alloc (.cells #[.int .i64 (t.kids[k]'hlt).kind, .int .i64 (t.kids[k]'hlt).n, encStr (t.kids[k]'hlt).name, .slice (t.kids[k]'hlt).V (t.kids[k]'hlt).vars.length (t.kids[k]'hlt).vc, .slice (t.kids[k]'hlt).T (t.kids[k]'hlt).types.length (t.kids[k]'hlt).tc, .slice (t.kids[k]'hlt).A (t.kids[k]'hlt).kids.length (t.kids[k]'hlt).cap] 31)))
              have HC := hide (IH.out _ hck w0 (wr.alloc (.cells #[.int .i64 (t.kids[k]'hlt).kind, .int .i64 (t.kids[k]'hlt).n, encStr (t.kids[k]'hlt).name, .slice (t.kids[k]'hlt).V (t.kids[k]'hlt).vars.length (t.kids[k]'hlt).vc, .slice (t.kids[k]'hlt).T (t.kids[k]'hlt).types.length (t.kids[k]'hlt).tc, .slice (t.kids[k]'hlt).A (t.kids[k]'hlt).kids.length (t.kids[k]'hlt).cap] 31)) base u0 _ A2 cap2 b' (Hk.out.kids _ hck) (Hfk.out _ hck) (HKw.out.alloc (by have := HKw.out.size; omega) _) hb0 HVa.out.ge HVa.out.own HVa.out.row HVa.out.off (Hrm.out _ hck) (by omega))
              clear hck
              rw [← HStk.out] at HC
              generalize t.kids[k]'hlt = c at *
              unfold tmV at HC
              rw [hA]
              clear hA
              go_wp2_with fail
              refine HC.out.mono ?_
              rintro e w4 ⟨v4, rfl, hO4, hA4⟩
              have HV4 := hide (HVa.out.step hA4 hO4)
              clear hO4 hA4
              go_wp2
              go_roundw
              case rel => exact ⟨k + 1, hlt, by go_num, HV4⟩
              case measure => simp [intOf]; omega
            · have hge : ¬ (k : Int) < (t.kids.length : Int) := by omega
              have HVe : Hid (VSt w v base t A2 b' R wr u0) := hide (by rw [← HU.out]; have := HV.out; rwa [List.take_of_length_le (by omega)] at this)
              clear HV
              go_wp2
              go_ret
              exact ⟨u0, rfl, HVe.out.own, HVe.out.ap⟩

/-- Variables that nobody around binds, each once. -/
noncomputable def vrL (t : Tm) : List Int := onceGo [] (vsM t [])

set_option maxRecDepth 10000 in
set_option maxHeartbeats 4000000 in
theorem m_vars (t : Tm) (w : World) (h : TmIn w t) (hf : FewM t) (hsz : t.size ≤ 10000) (hv : vszM t ≤ 1000000000000) :
    Calls Tryz.prog 21 #[tmV t] w fun e w' => (∃ v, e = .returned v ∧ w'.ownsRow w.heap.size 3 1 v (vrL t).length ((vrL t).map (Value.int .i64))) ∧ Ext w w' := by
  have X1 : Hid (Ext w (w.alloc (.cells #[.int .i64 t.kind, .int .i64 t.n, encStr t.name, .slice t.V t.vars.length t.vc, .slice t.T t.types.length t.tc, .slice t.A t.kids.length t.cap] 31))) := hide ((Ext.refl _).alloc _)
  have HB1 := hide (TmBox.new w t)
  have HC := hide (m_varsI t w (w.alloc (.cells #[.int .i64 t.kind, .int .i64 t.n, encStr t.name, .slice t.V t.vars.length t.vc, .slice t.T t.types.length t.tc, .slice t.A t.kids.length t.cap] 31)) w.heap.size (.slice none 0 0) [] none 0 [] h hf X1.out.below (Nat.le_refl _) X1.out.size (World.ownsRow_nil _ _ _ _) (RowOf.nil _ _ _) (fun hn => absurd rfl hn) (by simp; omega) (by simpa using hv))
  have HR : Hid (onceGo [] (vsM t []) = vrL t) := hide rfl
  rw [HR.out] at HC
  obtain ⟨c0, c1, c2, c3, c4, c5⟩ := HB1.out.cells
  clear h hf HR
  generalize vrL t = R at *
  unfold tmV at *
  go_enter Tryz.func21, Tryz.ntmps21
  go_wp2_with fail
  refine HC.out.mono ?_
  rintro e w2 ⟨v2, rfl, hO, hA⟩
  have HO := hide hO
  have X2 := hide (X1.out.trans (Ext.of_below (hA.below (B := w.heap.size + 1) (by simp) (fun k hk => by cases hk)) (by simp)))
  clear hO hA
  go_wp2
  go_ret
  exact ⟨⟨v2, rfl, HO.out⟩, X2.out⟩

end Go.Proofs.YtjacjpeeinnkcaaGreat

/- Contracts on slices.Grow from nil, and slices.Concat of two, of types. -/
namespace Go.Proofs.YtjacjpeeinnkcaaGreat
open Go.RowKit Go.Sort

theorem one_tys (l : List Ty) : ∀ u ∈ l.flatMap tyC.f, u.oneCell' = true := by
  intro u hu
  obtain ⟨x, -, hx⟩ := List.mem_flatMap.1 hu
  simp [tyC, Ty.cells] at hx
  rcases hx with rfl | rfl | rfl <;> rfl
theorem cat_infoT : (Tryz.prog.info? 55).map (fun i => (i.zero, i.size, i.bytes)) = some (some (.agg #[.string ⟨#[]⟩, .int .i64 0, .slice none 0 0]), 3, 48) := by kernel_rfl

set_option maxRecDepth 10000 in
set_option maxHeartbeats 1000000 in
theorem grow_sT (n : Nat) (w : World) (hn : n ≤ 100000000) :
    Calls Tryz.prog 262 #[.slice none 0 0, .int .i64 n] w fun e w' => (∃ v, e = .returned v ∧ w'.ownsRow w.heap.size 55 3 v 0 []) ∧ Ext w w' := by
  obtain ⟨i0, hi, hz0, hz1, hz2⟩ := info_parts cat_infoT
  have h1 : ¬ ((n : Int) < 0) := by omega
  have h3 : wrap64 ((n : Int) - 0) = (n : Int) := by unfold wrap64; omega
  rcases Nat.eq_zero_or_pos n with h0 | h0
  · subst h0
    go_enter Tryz.func262, Tryz.ntmps262
    go_wp2
    go_ret
    exact ⟨⟨_, rfl, World.ownsRow_nil _ _ _ _⟩, (by repeat (first | exact Ext.refl _ | exact Ext.pre (by simp) | exact Ext.alloc (by assumption) _ | refine Ext.alloc ?_ _ |  refine Ext.more ?_ _ _ | refine Ext.drew ?_ | refine Ext.drewN ?_ _))⟩
  · have h4 : (n : Int) > 0 := by omega
    have h5 : ¬ ((n : Int) < 0) := by omega
    have h6 : (n : Int) ≤ 100000000 := by omega
    have hc := grownCap_ge w n 0 55
    have hm := grownCap_le_maxLen w n 0 55 (by unfold maxLen; omega)
    have hr := Lib.run_append_nil_zeros (P := Tryz.prog) w 23 3 23 55 i0 _ .i64 .i64 Tryz.underlying23 Tryz.underlying3 hi hz0 n h0 (by rw [hz1]; omega) (by omega) (by rw [hz2]; omega)
    have hsz : (Builtin.zeroCells (Value.agg #[.string ⟨#[]⟩, .int .i64 0, .slice none 0 0]).cells n ++ Builtin.zeroCells (Value.agg #[.string ⟨#[]⟩, .int .i64 0, .slice none 0 0]).cells (grownCap w n 0 55 - n)).size = grownCap w n 0 55 * 3 := by
      rw [Array.size_append, size_zeroCells, size_zeroCells]
      show n * 3 + (grownCap w n 0 55 - n) * 3 = _
      omega
    have hown := World.ownsRow_made (base := w.heap.size) (e := 55) (size := 3) w.drew (Builtin.zeroCells (Value.agg #[.string ⟨#[]⟩, .int .i64 0, .slice none 0 0]).cells n ++ Builtin.zeroCells (Value.agg #[.string ⟨#[]⟩, .int .i64 0, .slice none 0 0]).cells (grownCap w n 0 55 - n)) (grownCap w n 0 55) (Nat.le_refl _) hm hsz
    generalize Builtin.zeroCells (Value.agg #[.string ⟨#[]⟩, .int .i64 0, .slice none 0 0]).cells n ++ Builtin.zeroCells (Value.agg #[.string ⟨#[]⟩, .int .i64 0, .slice none 0 0]).cells (grownCap w n 0 55 - n) = Z at *
    have Hown := hide hown
    have Hr := hide hr
    have hcI : (0 : Int) ≤ (grownCap w n 0 55 : Nat) := by omega
    clear hown hr hm hsz hc hcI
    generalize grownCap w n 0 55 = CC at *
    go_enter Tryz.func262, Tryz.ntmps262
    go_wp2_with (at_builtin; refine Lib.wpList_append_run _ rfl _ _ _ _ rfl _ _ rfl rfl _ _ Hr.out ?_)
    go_ret
    exact ⟨⟨_, rfl, Hown.out⟩, (by repeat (first | exact Ext.refl _ | exact Ext.pre (by simp) | exact Ext.alloc (by assumption) _ | refine Ext.alloc ?_ _ |  refine Ext.more ?_ _ _ | refine Ext.drew ?_ | refine Ext.drewN ?_ _))⟩

theorem grow_mT (m : Int) (w : World) (h0 : 0 ≤ m) (hn : m ≤ 100000000) :
    Calls Tryz.prog 262 #[.slice none 0 0, .int .i64 m] w fun e w' => (∃ v, e = .returned v ∧ w'.ownsRow w.heap.size 55 3 v 0 []) ∧ Ext w w' := by
  obtain ⟨n, rfl⟩ := Int.eq_ofNat_of_zero_le h0
  exact grow_sT n w (by omega)

set_option maxRecDepth 10000 in
set_option maxHeartbeats 2000000 in
theorem concat2T (b c1 c2 : Nat) (A1 A2 : Option Addr) (l1 l2 : List Ty) (t : TypeId) (w : World) (hb : w.heap[b]? = some (.cells #[.slice A1 l1.length c1, .slice A2 l2.length c2] t (0, 0)))
    (h1 : RowOf tyC w A1 l1) (h2 : RowOf tyC w A2 l2) (hlen : l1.length + l2.length ≤ 100000000) :
    Calls Tryz.prog 194 #[.slice (some ⟨b, 0, none⟩) 2 2] w fun e w' => (∃ A cap, e = .returned (.slice A (l1 ++ l2).length cap) ∧ (l1 ++ l2).length ≤ cap ∧ cap ≤ 9223372036854775807 ∧ RowOf tyC w' A (l1 ++ l2) ∧ ∀ c o, A = some ⟨c, o, none⟩ → w.heap.size ≤ c) ∧ Ext w w' := by
  obtain ⟨i0, hi, hz0, hz1, hz2⟩ := info_parts cat_infoT
  have H1 := hide h1
  have H2 := hide h2
  have hbl := lt_of_obj hb
  have q0 : w.cell? ⟨b, 0, none⟩ = some (.slice A1 l1.length c1) := by simp [World.cell?, hb]
  have q1 : w.cell? ⟨b, 1, none⟩ = some (.slice A2 l2.length c2) := by simp [World.cell?, hb]
  have a1 : ((l1.length : Int)) ≤ 100000000 := by omega
  have a2 : ((l2.length : Int)) ≤ 100000000 := by omega
  have a3 : (0 : Int) ≤ ((l1.length : Int)) := by omega
  have a4 : (0 : Int) ≤ ((l2.length : Int)) := by omega
  have a5 : ¬ ((l1.length : Int)) < 0 := by omega
  have a6 : ¬ ((l1.length : Int) + (l2.length : Int)) < 0 := by omega
  clear h1 h2 hb
  go_enter Tryz.func194, Tryz.ntmps194
  go_wp2
  go_loop [3, 11] (fun s i => (i = .int .i64 0 ∧ s = .int .i64 0) ∨ (i = .int .i64 1 ∧ s = .int .i64 l1.length) ∨ (i = .int .i64 2 ∧ s = .int .i64 ((l1.length : Int) + (l2.length : Int)))) (fun _ i => 2 - (intOf i).toNat)
  case atStart => exact .inl ⟨rfl, rfl⟩
  case round =>
    rcases hrel with ⟨rfl, rfl⟩ | ⟨rfl, rfl⟩ | ⟨rfl, rfl⟩
    · go_wp2
      go_round
      case rel => exact .inr (.inl ⟨rfl, rfl⟩)
      case measure => simp [intOf]
    · go_wp2
      go_round
      case rel => exact .inr (.inr ⟨rfl, rfl⟩)
      case measure => simp [intOf]
    · have Hg := hide (grow_mT ((l1.length : Int) + (l2.length : Int)) w (by omega) (by omega))
      go_wp2_with fail
      refine Hg.out.mono ?_
      rintro e w1 ⟨⟨v1, rfl, ho1⟩, l3, d3, rfl⟩
      have Ho1 := hide ho1
      clear ho1 Hg
      go_wp2
      go_loopw [6, 27] (fun v i wr => Hid (Ext w wr) ∧ ((i = .int .i64 0 ∧ Hid (wr.ownsRow w.heap.size 55 3 v 0 [])) ∨ (i = .int .i64 1 ∧ Hid (wr.ownsRow w.heap.size 55 3 v l1.length (l1.flatMap tyC.f))) ∨ (i = .int .i64 2 ∧ Hid (wr.ownsRow w.heap.size 55 3 v (l1 ++ l2).length ((l1 ++ l2).flatMap tyC.f))))) (fun _ i _ => 2 - (intOf i).toNat)
      case atStart => exact ⟨hide (by repeat (first | exact Ext.refl _ | exact Ext.pre (by simp) | exact Ext.alloc (by assumption) _ | refine Ext.alloc ?_ _ |  refine Ext.more ?_ _ _ | refine Ext.drew ?_ | refine Ext.drewN ?_ _)), .inl ⟨rfl, Ho1⟩⟩
      case round =>
        obtain ⟨HX, hh⟩ := hrel
        have r0 : wr.cell? ⟨b, 0, none⟩ = some (.slice A1 l1.length c1) := (World.cell?_of_block (a := ⟨b, 0, none⟩) (HX.out.heap hbl)).trans q0
        have r1 : wr.cell? ⟨b, 1, none⟩ = some (.slice A2 l2.length c2) := (World.cell?_of_block (a := ⟨b, 1, none⟩) (HX.out.heap hbl)).trans q1
        rcases hh with ⟨rfl, HO⟩ | ⟨rfl, HO⟩ | ⟨rfl, HO⟩
        · go_wp2_with (at_builtin; refine wpList_append_row _ rfl _ _ 23 rfl w.heap.size 55 i0 _ 3 48 Tryz.underlying23 hi hz0 hz1 hz2 rfl (by decide) u6 0 [] rfl HO.out A1 l1.length c1 (l1.flatMap tyC.f) rfl ?c2 ?c3 ?c4 ?c5 ?c6 ?_)
          case c2 => exact RowOf.ext _ H1.out HX.out
          case c3 => exact one_tys _
          case c4 => unfold maxLen; omega
          case c5 => omega
          case c6 => exact HX.out.size
          intro v3 w4 hown3 hg3 _
          have He3 := hide (Ext.app HX.out hg3 HO.out (Nat.le_refl _))
          have Ho3 := hide hown3
          clear hown3 hg3
          go_wp2
          go_roundw
          case rel => exact ⟨He3, .inr (.inl ⟨rfl, Ho3⟩)⟩
          case measure => simp [intOf]
        · go_wp2_with (at_builtin; refine wpList_append_row _ rfl _ _ 23 rfl w.heap.size 55 i0 _ 3 48 Tryz.underlying23 hi hz0 hz1 hz2 rfl (by decide) u6 l1.length (l1.flatMap tyC.f) rfl HO.out A2 l2.length c2 (l2.flatMap tyC.f) rfl ?c2 ?c3 ?c4 ?c5 ?c6 ?_)
          case c2 => exact RowOf.ext _ H2.out HX.out
          case c3 => exact one_tys _
          case c4 => unfold maxLen; omega
          case c5 => omega
          case c6 => exact HX.out.size
          intro v3 w4 hown3 hg3 _
          have He3 := hide (Ext.app HX.out hg3 HO.out (Nat.le_refl _))
          rw [← List.flatMap_append, ← List.length_append] at hown3
          have Ho3 := hide hown3
          clear hown3 hg3
          go_wp2
          go_roundw
          case rel => exact ⟨He3, .inr (.inr ⟨rfl, Ho3⟩)⟩
          case measure => simp [intOf]
        · have HO2 := hide (RowOf.own tyC HO.out)
          clear HO
          obtain ⟨A, cap, rfl, g1, g2, g3, g4⟩ := HO2.out
          have G4 := hide g4
          clear g4
          have G3 := hide g3
          have HLe : ∃ X, X = l1 ++ l2 := ⟨_, rfl⟩
          obtain ⟨X, hX⟩ := HLe
          rw [← hX] at g1 G3
          have HXe := hide hX
          clear hX g3 HO2
          go_wp2
          go_ret
          exact ⟨⟨A, cap, rfl, by rw [← HXe.out]; exact g1, g2, by rw [← HXe.out]; exact G3.out, fun c o h => (G4.out c o h).1⟩, HX.out⟩

end Go.Proofs.YtjacjpeeinnkcaaGreat
