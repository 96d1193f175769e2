/- Contracts of chapter 23: whether an instance may be; of the program. -/
import Derived.Test.YtnomibjbjplieaaGreatJC33
import Derived.RegionTactic
import Derived.Deep.DeepCutAuto
/- Contracts of chapter 23: whether an instance may be; of the program. -/
namespace Go.Proofs.YtnomibjbjplieaaGreat
open Go.RowKit

/-- Is a predicate one of a head's variables? -/
def headPlB (n : Int) (p : Pd) : Bool := conB p.cls && p.ty.con == [] && p.ty.args.isEmpty && decide (0 ≤ p.ty.var) && decide (p.ty.var < n)

set_option maxRecDepth 10000 in
set_option maxHeartbeats 2000000 in
theorem h_plain (p : Pd) (n : Int) (w : World) (h : PdIn w p) : Calls Tryz.prog 69 #[pdV p, .int .i64 n] w fun e w' => e = .returned (.bool (headPlB n p)) ∧ Ext w w' := by
  have HB := hide (PdBox.new w p)
  have hbl := HB.out.lt
  obtain ⟨W, hW⟩ : ∃ W, W = (w.alloc (.cells #[encStr p.cls, encStr p.ty.con, .int .i64 p.ty.var, .slice p.ty.A p.ty.args.length p.ty.cap] 69)).alloc (.cells #[encStr p.ty.con, .int .i64 p.ty.var, .slice p.ty.A p.ty.args.length p.ty.cap] 32) := ⟨_, rfl⟩
  have X0 : Hid (Ext w W) := hide (by rw [hW]; exact ((Ext.refl _).alloc _).alloc _)
  have HW := hide hW.symm
  obtain ⟨a0, a1, a2, a3⟩ := HB.out.cells
  obtain ⟨c0, c1, c2, c3⟩ := (HB.out.ext (by rw [hW]; exact (Ext.refl _).alloc _ : Ext _ W)).cells
  have hT : TBox W (w.heap.size + 1) p.ty := by rw [hW]; exact at_newB _ _ _ (by simp)
  have d0 := hT.c0
  have d1 := hT.c1
  have d2 := hT.c2
  have hbt := lt_of_obj hT
  have HN := hide (n_con p.cls W (by have := h.cls; omega))
  have HP : Hid (headPlB n p = (conB p.cls && p.ty.con == [] && p.ty.args.isEmpty && decide (0 ≤ p.ty.var) && decide (p.ty.var < n))) := hide rfl
  generalize headPlB n p = R at *
  have HL : Hid (p.ty.args.isEmpty = ((p.ty.args.length : Int) == 0)) := hide (by cases p.ty.args with
    | nil => rfl
    | cons x l => simp; omega)
  rw [HL.out] at HP
  clear hW h hT HL
  unfold pdV at *
  go_enter Tryz.func69, Tryz.ntmps69
  go_upto_region 2 with fail
  rw [HW.out]
  clear HW
  go_wp2_with fail
  refine HN.out.mono ?_
  rintro e w2 ⟨rfl, rfl⟩
  cases h1 : conB p.cls
  · rw [h1] at HP
    have hR : R = false := by rw [HP.out]; rfl
    subst hR
    go_wp2
    go_ret
    exact ⟨rfl, X0.out⟩
  · cases h2 : (p.ty.con == ([] : Str))
    · rw [h1, h2] at HP
      have hR : R = false := by rw [HP.out]; rfl
      subst hR
      go_wp2
      go_ret
      exact ⟨rfl, X0.out⟩
    · cases h3 : ((p.ty.args.length : Int) == 0)
      · rw [h1, h2, h3] at HP
        have hR : R = false := by rw [HP.out]; rfl
        subst hR
        go_wp2
        go_ret
        exact ⟨rfl, X0.out⟩
      · by_cases h4 : (0 : Int) ≤ p.ty.var
        · by_cases h5 : p.ty.var < n
          · rw [h1, h2, h3] at HP
            have hR : R = true := by rw [HP.out]; simp [h4, h5]
            subst hR
            go_wp2
            go_ret
            exact ⟨rfl, X0.out⟩
          · rw [h1, h2, h3] at HP
            have hR : R = false := by rw [HP.out]; simp [h5]
            subst hR
            go_wp2
            go_ret
            exact ⟨by simp; omega, X0.out⟩
        · rw [h1, h2, h3] at HP
          have hR : R = false := by rw [HP.out]; simp [h4]
          subst hR
          go_wp2
          go_ret
          exact ⟨rfl, X0.out⟩

/-- May an instance be? -/
def instHd (x : InD) : Bool := conB x.cls && (conB x.con || (x.con == [45, 62] && x.n == 2)) && decide (0 ≤ x.n) && decide (x.n ≤ 100)
def instB (x : InD) : Bool := instHd x && x.preds.all (headPlB x.n)
theorem instHd_n {x : InD} (h : instHd x = true) : 0 ≤ x.n ∧ x.n ≤ 100 := by
  unfold instHd at h
  simp only [Bool.and_eq_true, decide_eq_true_eq] at h
  exact ⟨h.1.2, h.2⟩

set_option maxRecDepth 10000 in
set_option maxHeartbeats 4000000 in
theorem h_check (x : InD) (w : World) (h : InIn w x) : Calls Tryz.prog 33 #[inV x] w fun e w' => e = .returned (.int .i64 (if instB x then 0 else 10)) ∧ Ext w w' := by
  obtain ⟨cls, con, n, A, cap, preds⟩ := x
  obtain ⟨W, hW⟩ : ∃ W, W = w.alloc (.cells #[encStr cls, encStr con, .int .i64 n, .slice A preds.length cap] 71) := ⟨_, rfl⟩
  have HW := hide hW.symm
  have X0 : Hid (Ext w W) := hide (by rw [hW]; exact (Ext.refl _).alloc _)
  have HB : Hid (InBox W w.heap.size ⟨cls, con, n, A, cap, preds⟩) := hide (by rw [hW]; exact InBox.new w ⟨cls, con, n, A, cap, preds⟩)
  obtain ⟨c0, c1, c2, c3⟩ := HB.out.cells
  have hbl := HB.out.lt
  have hcl : cls.length ≤ 1000000000000000000 := h.txt
  have hco : con.length ≤ 1000000000000000000 := h.ctxt
  have hle := h.le
  have hmx := h.max
  have HPs := hide (h.row.ext X0.out)
  have HN1 := hide (n_con cls W (by omega))
  have HN2 := hide (n_con con W (by omega))
  have HI : Hid (instB ⟨cls, con, n, A, cap, preds⟩ = (instHd ⟨cls, con, n, A, cap, preds⟩ && preds.all (headPlB n))) := hide rfl
  have HH : Hid (instHd ⟨cls, con, n, A, cap, preds⟩ = (conB cls && (conB con || (con == [45, 62] && n == 2)) && decide (0 ≤ n) && decide (n ≤ 100))) := hide rfl
  generalize instB ⟨cls, con, n, A, cap, preds⟩ = R at *
  generalize instHd ⟨cls, con, n, A, cap, preds⟩ = H at *
  simp only [] at *
  clear hW h
  unfold inV at *
  go_enter Tryz.func33, Tryz.ntmps33
  go_upto_region 1 with fail
  rw [HW.out]
  clear HW
  go_cut [3] (fun s3 wx => s3 = .bool H ∧ W = wx)
  case first =>
    clear HI HPs
    go_wp2_with fail
    refine HN1.out.mono ?_
    rintro e w2 ⟨rfl, rfl⟩
    cases h1 : conB cls
    · have hH : H = false := by rw [HH.out]; simp [h1]
      clear HH
      subst hH
      go_wp2_with fail
      go_meet
      exact ⟨by simp, rfl⟩
    · go_wp2_with fail
      refine HN2.out.mono ?_
      rintro e w3 ⟨rfl, rfl⟩
      cases h2 : conB con
      · cases h3 : (con == ([45, 62] : Str))
        · have hH : H = false := by rw [HH.out]; simp [h1, h2, h3]
          clear HH
          subst hH
          go_wp2_with fail
          go_meet
          exact ⟨by simp, rfl⟩
        · cases h4 : (n == 2)
          · have hH : H = false := by rw [HH.out]; simp [h1, h2, h3, h4]
            clear HH
            subst hH
            go_wp2_with fail
            go_meet
            exact ⟨by simp, rfl⟩
          · by_cases hn0 : (0 : Int) ≤ n
            · by_cases hn1 : n ≤ 100
              · have hH : H = true := by rw [HH.out]; simp [h1, h2, h3, h4, hn0, hn1]
                clear HH
                subst hH
                go_wp2_with fail
                go_meet
                exact ⟨by simp, rfl⟩
              · have hH : H = false := by rw [HH.out]; simp [h1, h2, h3, h4, hn0, hn1]
                clear HH
                subst hH
                go_wp2_with fail
                go_meet
                exact ⟨by simp; omega, rfl⟩
            · have hH : H = false := by rw [HH.out]; simp [h1, h2, h3, h4, hn0]
              clear HH
              subst hH
              go_wp2_with fail
              go_meet
              exact ⟨by simp, rfl⟩
      · by_cases hn0 : (0 : Int) ≤ n
        · by_cases hn1 : n ≤ 100
          · have hH : H = true := by rw [HH.out]; simp [h1, h2, hn0, hn1]
            clear HH
            subst hH
            go_wp2_with fail
            go_meet
            exact ⟨by simp, rfl⟩
          · have hH : H = false := by rw [HH.out]; simp [h1, h2, hn0, hn1]
            clear HH
            subst hH
            go_wp2_with fail
            go_meet
            exact ⟨by simp; omega, rfl⟩
        · have hH : H = false := by rw [HH.out]; simp [h1, h2, hn0]
          clear HH
          subst hH
          go_wp2_with fail
          go_meet
          exact ⟨by simp, rfl⟩
  case rest =>
    obtain ⟨rfl, rfl⟩ := hcut
    clear HH HN1 HN2
    go_wp2
    go_loopw [3, 37] (fun t3 i wr => ∃ k : Nat, k ≤ preds.length ∧ i = .int .i64 k ∧ t3 = .bool (H && (preds.take k).all (headPlB n)) ∧ Hid (Ext W wr)) (fun _ i _ => preds.length - (intOf i).toNat)
    case atStart => exact ⟨0, Nat.zero_le _, rfl, by simp, hide (Ext.refl _)⟩
    case round =>
      obtain ⟨k, hk, rfl, rfl, HX⟩ := hrel
      obtain ⟨c0, c1, c2, c3⟩ := (HB.out.ext HX.out).cells
      have hbw := (HB.out.ext HX.out).lt
      simp only [] at c0 c1 c2 c3
      by_cases hlt : k < preds.length
      · have hlt' : (k : Int) < (preds.length : Int) := by omega
        have hk0 : (0 : Int) ≤ (k : Int) := by omega
        have HTk : Hid ((preds.take (k + 1)).all (headPlB n) = ((preds.take k).all (headPlB n) && headPlB n (preds[k]'hlt))) := hide (by rw [List.take_succ_eq_append_getElem hlt, List.all_append]; simp)
        obtain ⟨b, o, rfl, hb, q0, q1, q2, q3⟩ := (HPs.out.ext HX.out).at_ hlt
        have HP := hide ((HPs.out.ext HX.out).all _ (List.getElem_mem hlt))
        generalize preds[k]'hlt = p at *
        have HBx := hide (PdBox.new wr p)
        have hbx := HBx.out.lt
        obtain ⟨d0, d1, d2, d3⟩ := HBx.out.cells
        have HQ := hide (h_plain p n _ (HP.out.ext ((Ext.refl wr).alloc (.cells #[encStr p.cls, encStr p.ty.con, .int .i64 p.ty.var, .slice p.ty.A p.ty.args.length p.ty.cap] 69))))
        generalize (preds.take k).all (headPlB n) = B at *
        generalize headPlB n p = B3 at *
        unfold pdV at HQ
        cases hS : (H && B)
        · go_wp2
          go_roundw
          case rel => exact ⟨k + 1, hlt, by go_num, by rw [HTk.out, ← Bool.and_assoc, hS]; rfl, hide (HX.out.trans (by repeat (first | exact Ext.refl _ | exact Ext.pre (by simp) | exact Ext.alloc (by assumption) _ | refine Ext.alloc ?_ _ |  refine Ext.more ?_ _ _ | refine Ext.drew ?_ | refine Ext.drewN ?_ _)))⟩
          case measure => simp [intOf]; omega
        · go_wp2_with fail
          refine HQ.out.mono ?_
          rintro e w2 ⟨rfl, hx⟩
          have X2 := hide hx
          clear hx
          go_wp2
          go_roundw
          case rel => exact ⟨k + 1, hlt, by go_num, by rw [HTk.out, ← Bool.and_assoc, hS]; rfl, hide (HX.out.trans (Ext.trans (by repeat (first | exact Ext.refl _ | exact Ext.pre (by simp) | exact Ext.alloc (by assumption) _ | refine Ext.alloc ?_ _ |  refine Ext.more ?_ _ _ | refine Ext.drew ?_ | refine Ext.drewN ?_ _)) X2.out))⟩
          case measure => simp [intOf]; omega
      · have hge : ¬ (k : Int) < (preds.length : Int) := by omega
        have hR : (H && (preds.take k).all (headPlB n)) = R := by rw [HI.out, List.take_of_length_le (by omega)]
        rw [hR]
        clear hR HI
        cases R
        · go_wp2
          go_ret
          exact ⟨rfl, X0.out.trans HX.out⟩
        · go_wp2
          go_ret
          exact ⟨rfl, X0.out.trans HX.out⟩

end Go.Proofs.YtnomibjbjplieaaGreat

/- Contract of chapter 33: an instance's name and type. -/
namespace Go.Proofs.YtnomibjbjplieaaGreat
open Go.RowKit

/-- Which instance? -/
def instF (l : List InD) (i : Int) : Option InD := if i < 0 then none else match l[i.toNat]? with
  | none => none
  | some x => if instB x then some x else none
noncomputable def instTy (x : InD) : Ty.Pure := funPP (x.preds.map fun p => dictP p.cls p.ty.pure) (dictP x.cls (ofP x.con x.n.toNat))
structure InstOk (w : World) (F : Option InD) (nm : Str) (p : Po) : Prop where
  po : PoIn w p
  no : F = none → nm = [] ∧ p = ⟨[], none, 0, Ty.zero⟩
  yes : ∀ x, F = some x → nm = nameS x.cls x.con ∧ p.vars = rowF 0 x.n.toNat ∧ p.ty.pure = instTy x
def zeroTd : Array Value := #[.string ⟨#[]⟩, .slice none 0 0, .string ⟨#[]⟩, .int .i64 0, .slice none 0 0]
theorem ztd {a y : World} {B : Nat} (e : Ext a y) (h : a.heap[B]? = some (.cells zeroTd 43 (0, 0))) :
    y.cell? ⟨B, 0, none⟩ = some (.string ⟨#[]⟩) ∧ y.cell? ⟨B, 1, none⟩ = some (.slice none 0 0) ∧ y.cell? ⟨B, 2, none⟩ = some (.string ⟨#[]⟩) ∧ y.cell? ⟨B, 3, none⟩ = some (.int .i64 0) ∧ y.cell? ⟨B, 4, none⟩ = some (.slice none 0 0) ∧ y.frozen? ⟨B, 0, none⟩ = false ∧ y.frozen? ⟨B, 1, none⟩ = false ∧ y.frozen? ⟨B, 2, none⟩ = false ∧ y.frozen? ⟨B, 3, none⟩ = false ∧ y.frozen? ⟨B, 4, none⟩ = false ∧ B < y.heap.size := by
  have hb := (e.heap (lt_of_obj h)).trans h
  exact ⟨bytes_block hb 0, bytes_block hb 1, bytes_block hb 2, bytes_block hb 3, bytes_block hb 4, free_block hb 0, free_block hb 1, free_block hb 2, free_block hb 3, free_block hb 4, lt_of_obj hb⟩

set_option maxRecDepth 10000 in
set_option maxHeartbeats 8000000 in
theorem f_inst (x : EnD) (i : Int) (w : World) (h : EnIn w x) (hf : ∀ c ∈ x.insts, c.preds.length ≤ 1000) :
    Calls Tryz.prog 11 #[enV x, .int .i64 i] w fun e w' => (∃ nm p, e = .returned (.tuple #[.agg #[encStr nm, .slice p.A p.vars.length p.cap, encStr p.ty.con, .int .i64 p.ty.var, .slice p.ty.A p.ty.args.length p.ty.cap], .bool (instF x.insts i).isSome]) ∧ InstOk w' (instF x.insts i) nm p) ∧ Ext w w' := by
  obtain ⟨i1, hj, hy0, hy1, hy2⟩ := info_parts ty_info3
  obtain ⟨D, dc, datas, C, cc, cls, I, ic, insts⟩ := x
  obtain ⟨W, hW⟩ : ∃ W, W = (w.alloc (.cells #[.slice D datas.length dc, .slice C cls.length cc, .slice I insts.length ic] 26)).alloc (.cells #[.string ⟨#[]⟩, .slice none 0 0, .string ⟨#[]⟩, .int .i64 0, .slice none 0 0] 43) := ⟨_, rfl⟩
  have HW := hide hW.symm
  have X0 : Hid (Ext w W) := hide (by rw [hW]; exact ((Ext.refl _).alloc _).alloc _)
  have B1 : Hid (EnBox W w.heap.size ⟨D, dc, datas, C, cc, cls, I, ic, insts⟩) := hide (by rw [hW]; exact (EnBox.new w _).ext ((Ext.refl _).alloc _))
  have B2 : Hid (W.heap[w.heap.size + 1]? = some (.cells zeroTd 43 (0, 0))) := hide (by rw [hW]; exact at_newB _ _ _ (by simp))
  have HI := hide (show InsIn w I insts from h.insts)
  have hle : insts.length ≤ ic := h.ile
  have hmx : ic ≤ 9223372036854775807 := h.imax
  have Hf : Hid (∀ c ∈ insts, c.preds.length ≤ 1000) := hide hf
  have HE := hide (fun w' (e : Ext W w') => (B1.out.ext e).cells.2.2)
  have e0 := HE.out W (Ext.refl _)
  have hbl := B1.out.lt
  clear hW h hf
  simp only [] at *
  obtain ⟨F, hF⟩ : ∃ F, F = instF insts i := ⟨_, rfl⟩
  rw [← hF]
  have HF := hide hF
  clear hF
  obtain ⟨z0, z1, z2, z3, z4, z5, z6, z7, z8, z9, z10⟩ := ztd (Ext.refl _) B2.out
  unfold enV
  by_cases hneg : i < 0
  · have hF : F = none := by rw [HF.out]; unfold instF; rw [if_pos hneg]
    clear HF
    subst hF
    go_enter Tryz.func11, Tryz.ntmps11
    go_upto_region 1 with fail
    rw [HW.out]
    clear HW
    go_wp2
    refine bodyPost_ret (v := .tuple #[.agg #[.string ⟨#[]⟩, .slice none 0 0, .string ⟨#[]⟩, .int .i64 0, .slice none 0 0], .bool false]) ?_ rfl ⟨⟨[], ⟨[], none, 0, Ty.zero⟩, rfl, ⟨⟨Nat.le_refl _, Nat.zero_le _, RowOf.nil _ _ _, TyIn.zero _⟩, fun _ => ⟨rfl, rfl⟩, fun _ h => by cases h⟩⟩, ?_⟩
    · simp [results, Tryz.f11, go_sem, z0, z1, z2, z3, z4]
    · exact ((((X0.out.setCell (by simp) _).setCell (by simp) _).setCell (by simp) _).setCell (by simp) _).setCell (by simp) _
  obtain ⟨m, rfl⟩ : ∃ m : Nat, i = (m : Int) := ⟨i.toNat, by omega⟩
  by_cases hhi : (m : Int) ≥ (insts.length : Int)
  · have hF : F = none := by rw [HF.out]; unfold instF; rw [if_neg hneg, show ((m : Int)).toNat = m from rfl, List.getElem?_eq_none (by omega)]
    clear HF
    subst hF
    go_enter Tryz.func11, Tryz.ntmps11
    go_upto_region 1 with fail
    rw [HW.out]
    clear HW
    go_wp2
    refine bodyPost_ret (v := .tuple #[.agg #[.string ⟨#[]⟩, .slice none 0 0, .string ⟨#[]⟩, .int .i64 0, .slice none 0 0], .bool false]) ?_ rfl ⟨⟨[], ⟨[], none, 0, Ty.zero⟩, rfl, ⟨⟨Nat.le_refl _, Nat.zero_le _, RowOf.nil _ _ _, TyIn.zero _⟩, fun _ => ⟨rfl, rfl⟩, fun _ h => by cases h⟩⟩, ?_⟩
    · simp [results, Tryz.f11, go_sem, z0, z1, z2, z3, z4]
    · exact ((((X0.out.setCell (by simp) _).setCell (by simp) _).setCell (by simp) _).setCell (by simp) _).setCell (by simp) _
  have hml : m < insts.length := by omega
  have hm1 : (m : Int) < (insts.length : Int) := by omega
  have hm0 : (0 : Int) ≤ (m : Int) := by omega
  obtain ⟨b, o, e1, hb, q0, q1, q2, q3⟩ := (HI.out.ext X0.out).at_ hml
  subst e1
  have HX := hide (HI.out.all _ (List.getElem_mem hml))
  have hpl := Hf.out _ (List.getElem_mem hml)
  have HF2 : Hid (F = if instB (insts[m]'hml) then some (insts[m]'hml) else none) := hide (by rw [HF.out]; unfold instF; rw [if_neg hneg, show ((m : Int)).toNat = m from rfl, List.getElem?_eq_getElem hml])
  have HCk := hide (h_check (insts[m]'hml) W (HX.out.ext X0.out))
  clear HF HI Hf
  generalize insts[m]'hml = y at *
  obtain ⟨yc, yn, n, A, cap, preds⟩ := y
  simp only [] at q0 q1 q2 q3 hpl
  unfold inV at HCk
  cases hb2 : instB ⟨yc, yn, n, A, cap, preds⟩
  · rw [hb2] at HCk HF2
    have hF : F = none := by rw [HF2.out]; rfl
    clear HF2
    subst hF
    go_enter Tryz.func11, Tryz.ntmps11
    go_upto_region 1 with fail
    rw [HW.out]
    clear HW
    go_wp2_with fail
    refine HCk.out.mono ?_
    rintro e w2 ⟨rfl, hx⟩
    obtain ⟨z0, z1, z2, z3, z4, z5, z6, z7, z8, z9, z10⟩ := ztd hx B2.out
    simp only [Bool.false_eq_true, if_false]
    go_wp2
    refine bodyPost_ret (v := .tuple #[.agg #[.string ⟨#[]⟩, .slice none 0 0, .string ⟨#[]⟩, .int .i64 0, .slice none 0 0], .bool false]) ?_ rfl ⟨⟨[], ⟨[], none, 0, Ty.zero⟩, rfl, ⟨⟨Nat.le_refl _, Nat.zero_le _, RowOf.nil _ _ _, TyIn.zero _⟩, fun _ => ⟨rfl, rfl⟩, fun _ h => by cases h⟩⟩, ?_⟩
    · simp [results, Tryz.f11, go_sem, z0, z1, z2, z3, z4]
    · exact (((((X0.out.trans hx).setCell (by simp) _).setCell (by simp) _).setCell (by simp) _).setCell (by simp) _).setCell (by simp) _
  · rw [hb2] at HCk HF2
    have hF : F = some ⟨yc, yn, n, A, cap, preds⟩ := by rw [HF2.out]; rfl
    clear HF2
    subst hF
    have hnn : 0 ≤ n ∧ n ≤ 100 := by
      unfold instB at hb2
      rw [Bool.and_eq_true] at hb2
      exact instHd_n hb2.1
    have HP := hide (show PdsIn w A preds from HX.out.row)
    have hyc : yc.length ≤ 1000000000000000000 := HX.out.txt
    have hyn : yn.length ≤ 1000000000000000000 := HX.out.ctxt
    have hple : preds.length ≤ cap := HX.out.le
    have hpmx : cap ≤ 9223372036854775807 := HX.out.max
    clear hb2 HX z0 z1 z2 z3 z4 z5 z6 z7 z8 z9 z10
    have HE0 := hide (fun w' (e : Ext W w') => And.intro (HE.out w' e) (And.intro (e.cell q0) (And.intro (e.cell q1) (And.intro (e.cell q2) (e.cell q3)))))
    go_enter Tryz.func11, Tryz.ntmps11
    go_upto_region 1 with fail
    rw [HW.out]
    clear HW
    go_wp2_with fail
    refine HCk.out.mono ?_
    rintro e w2 ⟨rfl, hx⟩
    have X2 := hide hx
    obtain ⟨e0, q0, q1, q2, q3⟩ := HE0.out w2 hx
    have hbl2 : w.heap.size < w2.heap.size := by have := hx.size; omega
    have hb2 : b < w2.heap.size := by have := hx.size; omega
    clear hx HCk HE HE0
    simp only [if_true]
    go_upto_region 4 with fail
    obtain ⟨W4, hW4⟩ : ∃ W4, W4 = w2.alloc (.cells #[encStr yc, encStr yn, .int .i64 n, .slice A preds.length cap] 71) := ⟨_, rfl⟩
    have X24 : Hid (Ext w2 W4) := hide (by rw [hW4]; exact (Ext.refl _).alloc _)
    have HB4 : Hid (InBox W4 w2.heap.size ⟨yc, yn, n, A, cap, preds⟩) := hide (by rw [hW4]; exact at_newB _ _ _ rfl)
    rw [← hW4]
    clear hW4 e0 q0 q1 q2 q3
    have X4 := hide (X0.out.trans (X2.out.trans X24.out))
    have B4 := hide (((X2.out.trans X24.out).heap (lt_of_obj B2.out)).trans B2.out)
    have hlo4 : w.heap.size + 1 < W4.heap.size := lt_of_obj B4.out
    have hb6 := HB4.out.lt
    have hb6lo : w.heap.size + 1 < w2.heap.size := Nat.lt_of_lt_of_le (lt_of_obj B2.out) X2.out.size
    have HSS := hide (fun w' (e : Ext W4 w') => (show w'.cell? ⟨w2.heap.size, 0, none⟩ = some (encStr yc) ∧ w'.cell? ⟨w2.heap.size, 1, none⟩ = some (encStr yn) ∧ w'.cell? ⟨w2.heap.size, 2, none⟩ = some (.int .i64 n) ∧ w'.cell? ⟨w2.heap.size, 3, none⟩ = some (.slice A preds.length cap) from (HB4.out.ext e).cells))
    generalize w2.heap.size = b6 at *
    obtain ⟨s0, s1, s2, s3⟩ := HSS.out W4 (Ext.refl _)
    go_wp2
    go_loopw [7, 38] (fun u i wr => ∃ (k : Nat) (ds : List Ty), k ≤ preds.length ∧ i = .int .i64 k ∧ Hid (Ext W4 wr) ∧ Hid (wr.ownsRow W4.heap.size 32 3 u ds.length (ds.flatMap tyC.f)) ∧ Hid (DsOk w W4 wr u.ownBlock (preds.take k) ds)) (fun _ i _ => preds.length - (intOf i).toNat)
    case atStart => exact ⟨0, [], Nat.zero_le _, rfl, hide (Ext.refl _), hide (World.ownsRow_nil _ _ _ _), hide (DsOk.nil _ _ _ _)⟩
    case round =>
      obtain ⟨k, ds, hk, rfl, HX, HO, HD⟩ := hrel
      have hdl : ds.length ≤ preds.length := by have := HD.out.len; rw [List.length_take] at this; omega
      by_cases hlt : k < preds.length
      · have hlt' : (k : Int) < (preds.length : Int) := by omega
        have hk0 : (0 : Int) ≤ (k : Int) := by omega
        have XR := hide (X4.out.trans HX.out)
        obtain ⟨b, o, rfl, hb, q0, q1, q2, q3⟩ := (HP.out.ext XR.out).at_ hlt
        have hm := List.getElem_mem hlt
        have HC := hide (fun w' (e : Ext w w') => hide (f_dict (preds[k]'hlt).cls (preds[k]'hlt).ty w' ((HP.out.all _ hm).ty.ext e) (HP.out.all _ hm).cls))
        have Hpt := hide (HP.out.all _ hm).ty
        have Htk : Hid (preds.take (k + 1) = preds.take k ++ [preds[k]'hlt]) := hide (List.take_succ_eq_append_getElem hlt)
        generalize preds[k]'hlt = x at *
        obtain ⟨A6, c6, rfl, -, -, -, -⟩ := RowOf.own tyC (l := ds) HO.out
        unfold tyV at HC
        have hszB := HX.out.size
        clear hm
        go_wp2_with fail
        refine (HC.out _ (XR.out.trans ((Ext.refl _).alloc _))).out.mono ?_
        rintro e w5 ⟨⟨g, rfl, hd, hgs⟩, hx5⟩
        have X5 := hide (((Ext.refl wr).alloc (.cells #[encStr x.cls, encStr x.ty.con, .int .i64 x.ty.var, .slice x.ty.A x.ty.args.length x.ty.cap] 69)).trans hx5)
        have O5 := hide (own_extB HO.out X5.out)
        have hgs' : wr.heap.size ≤ g := by simp at hgs; omega
        have Hd := hide hd
        have hs5 := (HX.out.trans X5.out).size
        obtain ⟨D, hD⟩ : ∃ D, D = dictT x.cls x.ty g := ⟨_, rfl⟩
        rw [← hD]
        have HDe := hide hD
        clear hx5 hd hgs hD
        go_wp2_with (at_builtin; refine wpList_append_row _ rfl _ _ 30 rfl W4.heap.size 32 i1 _ 3 48 Tryz.underlying30 hj hy0 hy1 hy2 rfl (by decide) (.slice A6 ds.length c6) ds.length (ds.flatMap tyC.f) rfl (O5.out.alloc _) _ 1 1 [encStr D.con, .int .i64 D.var, .slice D.A D.args.length D.cap] rfl ?c2 ?c3 ?c4 ?c5 ?c6 ?_)
        case c2 => exact Row.ty3 _ _ _ (at_newB _ _ _ (by simp))
        case c3 => first | exact ⟨rfl, rfl, rfl⟩ | (intro y hy; simp at hy; rcases hy with rfl | rfl | rfl <;> rfl)
        case c4 => unfold maxLen; omega
        case c5 => omega
        case c6 => simp; omega
        intro v4 w4 hown4 hg4 hat4
        have X4' := hide (Ext.app ((HX.out.trans X5.out).alloc _) hg4 (O5.out.alloc _) (Nat.le_refl _))
        have O4 : Hid (w4.ownsRow W4.heap.size 32 3 v4 (ds ++ [D]).length ((ds ++ [D]).flatMap tyC.f)) := hide (by rw [flat_snoc, List.length_append]; exact hown4)
        have D4 : Hid (DsOk w W4 w4 v4.ownBlock (preds.take (k + 1)) (ds ++ [D])) := hide (by
          rw [Htk.out, HDe.out]
          refine HD.out.snoc (w' := w5.alloc (.cells #[encStr D.con, .int .i64 D.var, .slice D.A D.args.length D.cap] 32)) (X5.out.alloc _) (Hd.out.ext ((Ext.refl _).alloc _)) hgs' Hpt.out X4.out.size hszB (fun c e => HO.out.lt c e) hg4 ?_
          rcases hat4 with e | e
          · exact .inl e
          · exact .inr (fun c hc => by rw [e] at hc; injection hc with hc; simp at hc ⊢; omega))
        clear hown4 hg4 hat4
        go_wp2
        go_roundw
        case rel => exact ⟨k + 1, ds ++ [D], hlt, by go_num, X4', O4, D4⟩
        case measure => simp [intOf]; omega
      · have hge : ¬ (k : Int) < (preds.length : Int) := by omega
        have HD2 : Hid (DsOk w W4 wr u7.ownBlock preds ds) := hide (by have := HD.out; rwa [List.take_of_length_le (by omega)] at this)
        obtain ⟨A6, c6, rfl, d1, d2, d3, -⟩ := RowOf.own tyC (l := ds) HO.out
        have hszr := HX.out.size
        have XR := hide (X4.out.trans HX.out)
        have Br := hide ((HX.out.heap (lt_of_obj B4.out)).trans B4.out)
        have HTs : Hid (TysIn wr A6 ds) := hide ⟨d3, HD2.out.ty⟩
        have HSr := hide (fun w' (e : Ext wr w') => by
          obtain ⟨g0, g1, g2, -⟩ := HSS.out w' (HX.out.trans e)
          exact And.intro g0 (And.intro g1 g2))
        have HOf := hide (fun w' => hide (f_conv yn hyn n w' (by omega)))
        have HDi := hide (fun w' tt (ht : TyIn w' tt) => hide (f_dict yc tt w' ht hyc))
        have HFun := hide (fun w' tt (e : Ext wr w') (ht : TyIn w' tt) => hide (t_fun A6 c6 ds tt w' (HTs.out.ext e) ht (by omega)))
        have HoD : Hid (∀ d ∈ ds, awayB (w.heap.size + 1) d = true) := hide (fun d hd => HD2.out.away d hd _ hlo4 (fun p hp => away_new (HP.out.all p hp).ty (by omega)))
        have HQ : Hid (∀ A1 c1 bd, funP ds (dictT yc (conV yn A1 c1 n.toNat) bd).pure = instTy ⟨yc, yn, n, A, cap, preds⟩) := hide (fun A1 c1 bd => by rw [funP_eq, HD2.out.is, dictT_pure, conV_pure]; rfl)
        have hcr : b6 < wr.heap.size := by omega
        obtain ⟨s0, s1, s2⟩ := HSr.out wr (Ext.refl _)
        clear HO HD d3 HD2
        unfold tyV at HOf HDi HFun
        have n1 : ¬ b6 = wr.heap.size := by omega
        have n2 : ¬ wr.heap.size = b6 := by omega
        go_upto_region 10 with fail
        go_cut [10] (fun s10 wx => ∃ (B : Nat) (u : Ty), s10 = .pointer (some ⟨B, 0, none⟩) ∧ Hid (TyAt wr wx B (instTy ⟨yc, yn, n, A, cap, preds⟩) u) ∧ Hid (awayB (w.heap.size + 1) u = true))
        case first =>
          go_region_held3 (fun w' => w'.cell? ⟨b6, 0, none⟩ = some (encStr yc) ∧ w'.cell? ⟨b6, 1, none⟩ = some (encStr yn) ∧ w'.cell? ⟨b6, 2, none⟩ = some (.int .i64 n)) (first | assumption | go_keep) (first
            | (go_at_call 35
               refine Calls.mono (HOf.out _).out ?_
               rintro e y1 ⟨⟨A1, c1, rfl, t1, a1⟩, x1⟩
               have e1 : Ext wr y1 := by (refine Ext.trans ?_ x1; exact (by repeat (first | exact Ext.refl _ | exact Ext.pre (by simp) | exact Ext.alloc (by assumption) _ | refine Ext.alloc ?_ _ |  refine Ext.more ?_ _ _ | refine Ext.drew ?_ | refine Ext.drewN ?_ _)))
               have kS := HSr.out y1 e1
               have es1 := e1.size
               have m1 : ¬ b6 = y1.heap.size := by omega
               have m2 : ¬ y1.heap.size = b6 := by omega)
            | (go_at_call 34
               refine Calls.mono (HDi.out _ _ (t1.ext ?e2)).out ?_
               (case e2 => exact (by repeat (first | exact Ext.refl _ | exact Ext.pre (by simp) | exact Ext.alloc (by assumption) _ | refine Ext.alloc ?_ _ |  refine Ext.more ?_ _ _ | refine Ext.drew ?_ | refine Ext.drewN ?_ _)))
               rintro e y2 ⟨⟨bd, rfl, hd, hbd⟩, x2⟩
               have e2 : Ext y1 y2 := by (refine Ext.trans ?_ x2; exact (by repeat (first | exact Ext.refl _ | exact Ext.pre (by simp) | exact Ext.alloc (by assumption) _ | refine Ext.alloc ?_ _ |  refine Ext.more ?_ _ _ | refine Ext.drew ?_ | refine Ext.drewN ?_ _)))
               have kS2 := HSr.out y2 (e1.trans e2)
               have es2 := e2.size
               have m3 : ¬ b6 = y2.heap.size := by omega
               have m4 : ¬ y2.heap.size = b6 := by omega)
            | (go_at_call 27
               refine Calls.mono (HFun.out _ _ ?e (hd.ext ?e2)).out ?_
               (case e => exact Ext.trans (e1.trans e2) (by repeat (first | exact Ext.refl _ | exact Ext.pre (by simp) | exact Ext.alloc (by assumption) _ | refine Ext.alloc ?_ _ |  refine Ext.more ?_ _ _ | refine Ext.drew ?_ | refine Ext.drewN ?_ _)))
               (case e2 => exact (by repeat (first | exact Ext.refl _ | exact Ext.pre (by simp) | exact Ext.alloc (by assumption) _ | refine Ext.alloc ?_ _ |  refine Ext.more ?_ _ _ | refine Ext.drew ?_ | refine Ext.drewN ?_ _)))
               rintro e y3 ⟨⟨u, rfl, hu, hup, hua⟩, x3⟩
               have e3 : Ext y2 y3 := by (refine Ext.trans ?_ x3; exact (by repeat (first | exact Ext.refl _ | exact Ext.pre (by simp) | exact Ext.alloc (by assumption) _ | refine Ext.alloc ?_ _ |  refine Ext.more ?_ _ _ | refine Ext.drew ?_ | refine Ext.drewN ?_ _)))
               have kS3 := HSr.out y3 (e1.trans (e2.trans e3))
               rw [HQ.out] at hup
               (try (have zz := ztF x3 (B := y2.heap.size) (by first | exact at_newB y2 _ _ rfl | fail); obtain ⟨z0, z1, z2, z3, z4, z5, z6⟩ := zz))
               (try (have zz := ztF x3 (B := y1.heap.size) (by first | exact (x2.heap (by simp)).trans (at_newB y1 _ _ rfl) | fail); obtain ⟨z0, z1, z2, z3, z4, z5, z6⟩ := zz))
               (try (have zz := ztF (e2.trans e3) (B := wr.heap.size) (by first | exact (x1.heap (by simp)).trans (at_newB wr _ _ rfl) | fail); obtain ⟨z0, z1, z2, z3, z4, z5, z6⟩ := zz))))
          all_goals (have hy1 : wr.heap.size ≤ y1.heap.size := es1)
          all_goals (have hl1 : w.heap.size + 1 < y1.heap.size := by omega)
          all_goals (have hl2 : w.heap.size + 1 < y2.heap.size := by omega)
          all_goals (have hbd1 : y1.heap.size ≤ bd := by first | exact hbd | (simp at hbd; omega))
          all_goals (have ho : awayB (w.heap.size + 1) u = true := hua _ ⟨by first | exact hl2 | (simp; omega), dictT_away (by omega) (a1 _ (by first | exact (show w.heap.size + 1 < wr.heap.size by omega) | (simp; omega))), HoD.out⟩)
          all_goals (go_wp2_with fail; go_meet)
          · exact ⟨y3.heap.size, u, rfl, hide (TyAt.new (e1.trans (e2.trans e3)) hu hup), hide ho⟩
          · exact ⟨y2.heap.size, u, rfl, hide (TyAt.set ((e1.trans e2).trans ((Ext.refl _).alloc _)) x3 (by omega) (at_newB y2 _ _ rfl) hu (hua _ ⟨by simp, away_new hd (Nat.le_refl _), fun a ha => away_new (HTs.out.args a ha) (by omega)⟩) hup), hide ho⟩
          · exact ⟨y1.heap.size, u, rfl, hide (TyAt.set (a := y2) (e1.trans e2) x3 (by omega) ((x2.heap (by simp)).trans (at_newB y1 _ _ rfl)) hu (hua _ ⟨by have := x2.size; simp at this; omega, dictT_away (by simp at hbd; omega) (away_new t1 (Nat.le_refl _)), fun a ha => away_new (HTs.out.args a ha) (by omega)⟩) hup), hide ho⟩
          · exact ⟨wr.heap.size, u, rfl, hide (TyAt.set (a := y2) (e1.trans e2) x3 (Nat.le_refl _) ((e2.heap (by have := x1.size; simp at this; omega)).trans ((x1.heap (by simp)).trans (at_newB wr _ _ rfl))) hu (hua _ ⟨by have := x1.size; simp at this; omega, dictT_away (by have := x1.size; simp at this; omega) (a1 _ (by simp)), fun a ha => away_new (HTs.out.args a ha) (Nat.le_refl _)⟩) hup), hide ho⟩
        case rest =>
          obtain ⟨B, u, rfl, HT, HAu⟩ := hcut
          have HRow := hide (fun w' => f_row 0 (by omega) n w' (by omega))
          have HNm := hide (fun w' => f_name yc yn w' hyc hyn)
          have Bc := hide ((HT.out.x.heap (lt_of_obj Br.out)).trans Br.out)
          have HS2 := hide (fun w' (e : Ext wc w') => by
            obtain ⟨g0, g1, g2⟩ := HSr.out w' (HT.out.x.trans e)
            exact And.intro g0 (And.intro g1 (And.intro g2 (And.intro (HT.out.box.ext e).c0 (And.intro (HT.out.box.ext e).c1 (HT.out.box.ext e).c2)))))
          have hBlo := HT.out.lo
          have hbc := HT.out.box.lt
          have hszc := HT.out.x.size
          have r1 : ¬ b6 = w.heap.size + 1 := by omega
          have r3 : ¬ B = w.heap.size + 1 := by omega
          have hbc6 : b6 < wc.heap.size := by omega
          clear s0 s1 s2 HOf HFun HDi HTs HoD HQ
          go_upto_region 11 with fail
          go_wp2
          have hS0 := HS2.out wc.drew (Ext.refl _).drew
          refine but_startN 12 13 #[false, false, false, false, false, false, false, false, false, false, false, false, false] (fun w' => w'.cell? ⟨b6, 0, none⟩ = some (encStr yc) ∧ w'.cell? ⟨b6, 1, none⟩ = some (encStr yn) ∧ w'.cell? ⟨b6, 2, none⟩ = some (.int .i64 n) ∧ w'.cell? ⟨B, 0, none⟩ = some (encStr u.con) ∧ w'.cell? ⟨B, 1, none⟩ = some (.int .i64 u.var) ∧ w'.cell? ⟨B, 2, none⟩ = some (.slice u.A u.args.length u.cap)) (by kernel_rfl) (by kernel_rfl) (by kernel_rfl) ?_
          (refine but_takeL (i := 0) (v := ?_) rfl (by kernel_rfl) (by kernel_rfl) (by kernel_rfl) (by kernel_rfl) (fun _ _ _ h => h) (Or.inl ⟨by kernel_rfl, ?_⟩) (by assumption) ?_; rotate_left 1; (focus (intro w hSw; (try dsimp only at hSw); (try obtain ⟨g1, g2, g3⟩ := hSw); (try obtain ⟨g1, g2⟩ := hSw); go_simp; try with_reducible rfl)); simp only [Act.put, List.setIfInBounds_toArray, List.set_cons_zero, List.set_cons_succ])
          (refine but_takeL (i := 1) (v := ?_) rfl (by kernel_rfl) (by kernel_rfl) (by kernel_rfl) (by kernel_rfl) (fun _ _ _ h => h) (Or.inl ⟨by kernel_rfl, ?_⟩) (by assumption) ?_; rotate_left 1; (focus (intro w hSw; (try dsimp only at hSw); (try obtain ⟨g1, g2, g3⟩ := hSw); (try obtain ⟨g1, g2⟩ := hSw); go_simp; try with_reducible rfl)); simp only [Act.put, List.setIfInBounds_toArray, List.set_cons_zero, List.set_cons_succ])
          (refine but_takeL (i := 2) (v := ?_) rfl (by kernel_rfl) (by kernel_rfl) (by kernel_rfl) (by kernel_rfl) (fun _ _ _ h => h) (Or.inl ⟨by kernel_rfl, ?_⟩) (by assumption) ?_; rotate_left 1; (focus (intro w hSw; (try dsimp only at hSw); (try obtain ⟨g1, g2, g3⟩ := hSw); (try obtain ⟨g1, g2⟩ := hSw); go_simp; try with_reducible rfl)); simp only [Act.put, List.setIfInBounds_toArray, List.set_cons_zero, List.set_cons_succ])
          (refine but_takeL (i := 3) (v := ?_) rfl (by kernel_rfl) (by kernel_rfl) (by kernel_rfl) (by kernel_rfl) (fun _ _ _ h => h) (Or.inl ⟨by kernel_rfl, ?_⟩) (by assumption) ?_; rotate_left 1; (focus (intro w hSw; (try dsimp only at hSw); (try obtain ⟨g1, g2, g3⟩ := hSw); (try obtain ⟨g1, g2⟩ := hSw); go_simp; try with_reducible rfl)); simp only [Act.put, List.setIfInBounds_toArray, List.set_cons_zero, List.set_cons_succ])
          (refine but_takeL (i := 5) (v := ?_) rfl (by kernel_rfl) (by kernel_rfl) (by kernel_rfl) (by kernel_rfl) (fun _ _ _ h => h) (Or.inl ⟨by kernel_rfl, ?_⟩) (by assumption) ?_; rotate_left 1; (focus (intro w hSw; (try dsimp only at hSw); (try obtain ⟨g1, g2, g3⟩ := hSw); (try obtain ⟨g1, g2⟩ := hSw); go_simp; try with_reducible rfl)); simp only [Act.put, List.setIfInBounds_toArray, List.set_cons_zero, List.set_cons_succ])
          (refine but_takeL (i := 6) (v := ?_) rfl (by kernel_rfl) (by kernel_rfl) (by kernel_rfl) (by kernel_rfl) (fun _ _ _ h => h) (Or.inl ⟨by kernel_rfl, ?_⟩) (by assumption) ?_; rotate_left 1; (focus (intro w hSw; (try dsimp only at hSw); (try obtain ⟨g1, g2, g3⟩ := hSw); (try obtain ⟨g1, g2⟩ := hSw); go_simp; try with_reducible rfl)); simp only [Act.put, List.setIfInBounds_toArray, List.set_cons_zero, List.set_cons_succ])
          (refine but_takeL (i := 8) (v := ?_) rfl (by kernel_rfl) (by kernel_rfl) (by kernel_rfl) (by kernel_rfl) (fun _ _ _ h => h) (Or.inl ⟨by kernel_rfl, ?_⟩) (by assumption) ?_; rotate_left 1; (focus (intro w hSw; (try dsimp only at hSw); (try obtain ⟨g1, g2, g3⟩ := hSw); (try obtain ⟨g1, g2⟩ := hSw); go_simp; try with_reducible rfl)); simp only [Act.put, List.setIfInBounds_toArray, List.set_cons_zero, List.set_cons_succ])
          refine but_step (i := 4) (by kernel_rfl) rfl (fun KK hK => ?_)
          go_simp
          refine Calls.mono (HNm.out _) ?_
          rintro e w4 ⟨rfl, rfl⟩
          refine hK.out _ _ (fun _ => hS0) ?_
          clear hK KK
          simp only [List.setIfInBounds_toArray, List.set_cons_zero, List.set_cons_succ]
          refine but_step (i := 7) (by kernel_rfl) rfl (fun KK hK => ?_)
          go_simp
          refine Calls.mono (HRow.out _) ?_
          rintro e y1 ⟨⟨A1, c1, rfl, hr⟩, x1⟩
          have e1 : Ext wc y1 := by (refine Ext.trans ?_ x1; exact (by repeat (first | exact Ext.refl _ | exact Ext.pre (by simp) | exact Ext.alloc (by assumption) _ | refine Ext.alloc ?_ _ |  refine Ext.more ?_ _ _ | refine Ext.drew ?_ | refine Ext.drewN ?_ _)))
          have hS1 := HS2.out y1 e1
          refine hK.out _ _ (fun _ => hS1) ?_
          clear hK KK hS0
          simp only [List.setIfInBounds_toArray, List.set_cons_zero, List.set_cons_succ]
          obtain ⟨z0, z1, z2, z3, z4, z5, z6, z7, z8, z9, z10⟩ := ztd e1 Bc.out
          obtain ⟨WF, hWF⟩ : ∃ WF, WF = (((((y1.setCell ⟨w.heap.size + 1, 0, none⟩ (encStr (nameS yc yn))).setCell ⟨w.heap.size + 1, 1, none⟩ (.slice A1 (rowF 0 n.toNat).length c1)).setCell ⟨w.heap.size + 1, 2, none⟩ (encStr u.con)).setCell ⟨w.heap.size + 1, 3, none⟩ (.int .i64 u.var)).setCell ⟨w.heap.size + 1, 4, none⟩ (.slice u.A u.args.length u.cap)) := ⟨_, rfl⟩
          have hb8 : WF.heap[w.heap.size + 1]? = some (.cells #[encStr (nameS yc yn), .slice A1 (rowF 0 n.toNat).length c1, encStr u.con, .int .i64 u.var, .slice u.A u.args.length u.cap] 43 (0, 0)) := by
            have := blk_setCell (blk_setCell (blk_setCell (blk_setCell (blk_setCell ((e1.heap (lt_of_obj Bc.out)).trans Bc.out) 0 (encStr (nameS yc yn))) 1 (.slice A1 (rowF 0 n.toNat).length c1)) 2 (encStr u.con)) 3 (.int .i64 u.var)) 4 (.slice u.A u.args.length u.cap)
            rw [hWF]
            simpa [zeroTd] using this
          have hg5 := grown5 y1 (w.heap.size + 1) (encStr (nameS yc yn)) (.slice A1 (rowF 0 n.toNat).length c1) (encStr u.con) (.int .i64 u.var) (.slice u.A u.args.length u.cap)
          rw [← hWF] at hg5
          have hsy := e1.size
          have g1 := hg5.block b6 (by omega) (fun e => by injection e with e; exact r1 e)
          have g2 := hg5.block B (by omega) (fun e => by injection e with e; exact r3 e)
          have hS9 := And.intro ((World.cell?_of_block g1).trans hS1.1) (And.intro ((World.cell?_of_block g1).trans hS1.2.1) (And.intro ((World.cell?_of_block g1).trans hS1.2.2.1) (And.intro ((World.cell?_of_block g2).trans hS1.2.2.2.1) (And.intro ((World.cell?_of_block g2).trans hS1.2.2.2.2.1) ((World.cell?_of_block g2).trans hS1.2.2.2.2.2)))))
          have HR : Hid (PoIn WF ⟨rowF 0 n.toNat, A1, c1, u⟩ ∧ Ext w WF) := hide ⟨⟨hr.le, hr.max, row_grown hr.row hg5 (fun _ a ha e => by injection e with e; have := (hr.new a ha).1; simp at this; omega), ((HT.out.ty.ext e1).grown hg5 (fun c e => by injection e with e; subst e; exact HAu.out))⟩, (XR.out.trans (HT.out.x.trans e1)).grown hg5 (fun c e => by injection e with e; omega)⟩
          have HU := hide HT.out.is
          have m0 := bytes_block hb8 0
          have m1 := bytes_block hb8 1
          have m2 := bytes_block hb8 2
          have m3 := bytes_block hb8 3
          have m4 := bytes_block hb8 4
          simp only [List.getElem?_toArray, List.getElem?_cons_zero, List.getElem?_cons_succ] at m0 m1 m2 m3 m4
          (refine but_takeL (i := 9) (v := ?_) rfl (by kernel_rfl) (by kernel_rfl) (by kernel_rfl) (by kernel_rfl) (fun _ _ _ h => h) (Or.inl ⟨by kernel_rfl, ?_⟩) (by assumption) ?_; rotate_left 1; (focus (intro w hSw; (try dsimp only at hSw); (try obtain ⟨g1, g2, g3⟩ := hSw); (try obtain ⟨g1, g2⟩ := hSw); go_simp; try with_reducible rfl)); simp only [Act.put, List.setIfInBounds_toArray, List.set_cons_zero, List.set_cons_succ])
          (refine but_takeL (i := 10) (v := ?_) rfl (by kernel_rfl) (by kernel_rfl) (by kernel_rfl) (by kernel_rfl) (fun _ _ _ h => h) (Or.inl ⟨by kernel_rfl, ?_⟩) (by assumption) ?_; rotate_left 1; (focus (intro w hSw; (try dsimp only at hSw); (try obtain ⟨g1, g2, g3⟩ := hSw); (try obtain ⟨g1, g2⟩ := hSw); go_simp; try with_reducible rfl)); simp only [Act.put, List.setIfInBounds_toArray, List.set_cons_zero, List.set_cons_succ])
          refine but_step (i := 11) (by kernel_rfl) rfl (fun KK hK => ?_)
          go_simp
          rw [← hWF]
          clear hWF hg5 hb8 g1 g2
          refine hK.out _ _ (fun _ => hS9) ?_
          clear hK KK
          try simp only [Act.put]
          refine but_step (i := 12) (by kernel_rfl) rfl (fun KK hK => ?_)
          go_simp
          refine hK.out _ _ (fun h => absurd rfl h) ?_
          clear hK KK
          try simp only [Act.put]
          refine but_done (by kernel_rfl) ?_ _
          go_wp2
          refine bodyPost_ret (v := .tuple #[.agg #[encStr (nameS yc yn), .slice A1 (rowF 0 n.toNat).length c1, encStr u.con, .int .i64 u.var, .slice u.A u.args.length u.cap], .bool true]) ?_ rfl ⟨⟨nameS yc yn, ⟨rowF 0 n.toNat, A1, c1, u⟩, rfl, ⟨HR.out.1, (fun h => by cases h), fun x h => by injection h with h; subst h; exact ⟨rfl, rfl, HU.out⟩⟩⟩, HR.out.2⟩
          simp [results, Tryz.f11, go_sem, m0, m1, m2, m3, m4]

end Go.Proofs.YtnomibjbjplieaaGreat
