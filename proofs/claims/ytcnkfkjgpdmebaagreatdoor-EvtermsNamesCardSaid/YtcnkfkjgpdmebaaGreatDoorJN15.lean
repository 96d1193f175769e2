/- Contracts: whether a type, a predicate, is a term, of whatever size; of the program. (A program of ours has printed this.) -/
import Derived.Test.YtcnkfkjgpdmebaaGreatDoorJN14
import Derived.Shelf.Abstract
import Derived.WalkSpells
import Derived.WalkLawsBesides
import Derived.RegionTactic
import Derived.Deep.DeepCutAuto
/- Contracts: whether a type, a predicate, is a term, of whatever size; of the program. (A program of ours has printed this.) -/
namespace Go.Proofs.YtcnkfkjgpdmebaaGreatDoor
open Go.RowKit Go.Shelf

set_option maxRecDepth 10000 in
set_option maxHeartbeats 2000000 in
theorem t_walkU (f : FuncId) (lb : Array Value) (ef : Opens f) (w0 : World) (c : Nat) (J Jx : List (Nat × Ty) → World → Value → Prop)
    (hJe : ∀ pre w w' v, J pre w v → Ext w w' → J pre w' v)
    (hJl : ∀ pre w v, J pre w v → w0.heap.size ≤ c ∧ c < w.heap.size ∧ ∀ k, v.ownBlock = some k → w0.heap.size ≤ k ∧ k < w.heap.size)
    (hY : ∀ pre (x : Nat × Ty) w v, J pre w v → x.1 ≤ 1000000 → TyIn w x.2 → Calls Tryz.prog f (#[tyV x.2, .int .i64 (x.1 : Nat)] ++ lb) w fun e w' =>
      ∃ v', Tr c w v w' v' ∧ ((e = .returned (.bool true) ∧ J (pre ++ [x]) w' v') ∨ (e = .returned (.bool false) ∧ Jx (pre ++ [x]) w' v')))
    (hJd : ∀ pre (x : Nat × Ty) w v, J (pre ++ [x]) w v → x.1 ≤ 1000) (t : Ty) :
    ∀ (d : Nat) (pre : List (Nat × Ty)) (w : World) (v : Value), TyIn w0 t → Below w0.heap.size w0 w → J pre w v → d ≤ 1000000 →
      Calls Tryz.prog 169 #[tyV t, .int .i64 d, .func (.func f) #[] lb] w fun e w' => ∃ v', Tr c w v w' v' ∧ ((e = .returned (.bool true) ∧ J (pre ++ t.lev d) w' v') ∨ (e = .returned (.bool false) ∧ ∃ q, q <+: t.lev d ∧ Jx (pre ++ q) w' v')) := by
  induction t using Ty.ind with
  | h t ih =>
  intro d pre w v ht hB hJ hsz
  have IH := hide ih
  have Hk := hide ht.all
  have hle := ht.le
  have hmx := ht.max
  have HB0 := hide (TBox.new w t)
  have X0 : Ext w (w.alloc (.cells #[encStr t.con, .int .i64 t.var, .slice t.A t.args.length t.cap] 53)) := (Ext.refl w).alloc _
  have hlv := tlev_eq t d
  have hJ0 := hJe _ _ _ _ hJ X0
  have hl0 := hJl _ _ _ hJ
  have HC := hide (hY pre (d, t) _ v hJ0 (by show d ≤ 1000000; omega) ((ht.old hB).ext X0))
  have HBw := hide hB
  have HLt := hide (fun k (hk : k < t.args.length) => tlevs_take t.args (d + 1) hk)
  have HLp := hide (fun k => tlevs_split t.args (d + 1) k)
  have HLv := hide hlv
  have HvB : Hid (∀ k, v.ownBlock = some k → w0.heap.size ≤ k) := hide (fun k e => (hl0.2.2 k e).1)
  have HJe := hide hJe
  have HJl := hide hJl
  have HJd := hide hJd
  have T0 : Hid (Tr c w v (w.alloc (.cells #[encStr t.con, .int .i64 t.var, .slice t.A t.args.length t.cap] 53)) v) := hide (Tr.of_ext X0)
  unfold Opens at ef
  have hne : w.heap.size ≠ c := by omega
  have hnv : v.ownBlock ≠ some w.heap.size := fun e => by have := (hl0.2.2 _ e).2; omega
  clear ih hB hJ hJ0 hlv hY hJe hJl hJd ht hl0 X0
  unfold tyV at *
  dsimp only at HC
  generalize hA0 : t.A = A0 at *
  have HA0 := hide hA0
  clear hA0
  go_enter Tryz.func169, Tryz.ntmps169
  go_wp2_with fail
  refine HC.out.mono ?_
  rintro e w2 ⟨v2, ht2, (⟨rfl, hJ2⟩ | ⟨rfl, hJx⟩)⟩
  · have T2 := hide (T0.out.trans ht2)
    have HB2 := hide (HB0.out.tr ht2 hne hnv)
    have hdd : d ≤ 1000 := HJd.out _ _ _ _ hJ2
    have HJ2 := hide hJ2
    clear ht2 hJ2 T0 HC
    have hc2 := HB2.out.c2
    rw [HA0.out] at hc2
    go_wp2
    go_loopw [17] (fun i wr => ∃ (k : Nat) (v3 : Value), k ≤ t.args.length ∧ i = .int .i64 k ∧ Hid (J (pre ++ (d, t) :: tlevs (t.args.take k) (d + 1)) wr v3) ∧ Hid (Tr c w v wr v3) ∧ Hid (Tr c w2 v2 wr v3)) (fun i _ => t.args.length - (intOf i).toNat)
    case atStart => exact ⟨0, v2, Nat.zero_le _, rfl, hide (by simpa [tlevs] using HJ2.out), T2, hide (Tr.refl _ _ _)⟩
    case round =>
      obtain ⟨k, v3, hk, rfl, HJ, HT, HT2⟩ := hrel
      by_cases hlt : k < t.args.length
      · have hlt' : (k : Int) < (t.args.length : Int) := by omega
        have hk0 : (0 : Int) ≤ (k : Int) := by omega
        have hj0 := HJl.out _ _ _ HJ.out
        have hjw := HJl.out _ _ _ HJ2.out
        have HKw : Hid (Below w0.heap.size w0 wr) := hide (HBw.out.trans (HT.out.below (by have := HBw.out.size; omega) hj0.1 (fun k hk => (HvB.out k hk))))
        obtain ⟨b, o, rfl, hb, q0, q1, q2⟩ := (Hk.out.old HKw.out).at_ hlt
        have hck := List.getElem_mem hlt
        have Hlt := hide (HLt.out k hlt)
        have HC := hide (IH.out _ hck (d + 1) _ (wr.alloc (.cells #[encStr (t.args[k]'hlt).con, .int .i64 (t.args[k]'hlt).var, .slice (t.args[k]'hlt).A (t.args[k]'hlt).args.length (t.args[k]'hlt).cap] 53)) v3 (Hk.out.args _ hck) (HKw.out.alloc (by have := HKw.out.size; omega) _) (HJe.out _ _ _ _ HJ.out ((Ext.refl _).alloc _)) (by omega))
        have T3 : Hid (Tr c w v (wr.alloc (.cells #[encStr (t.args[k]'hlt).con, .int .i64 (t.args[k]'hlt).var, .slice (t.args[k]'hlt).A (t.args[k]'hlt).args.length (t.args[k]'hlt).cap] 53)) v3) := hide (HT.out.trans (Tr.of_ext ((Ext.refl _).alloc _)))
        have T23 : Hid (Tr c w2 v2 (wr.alloc (.cells #[encStr (t.args[k]'hlt).con, .int .i64 (t.args[k]'hlt).var, .slice (t.args[k]'hlt).A (t.args[k]'hlt).args.length (t.args[k]'hlt).cap] 53)) v3) := hide (HT2.out.trans (Tr.of_ext ((Ext.refl _).alloc _)))
        have Hpl := hide (HLp.out k)
        have Hpd : Hid (tlevs (t.args.drop k) (d + 1) = (t.args[k]'hlt).lev (d + 1) ++ tlevs (t.args.drop (k + 1)) (d + 1)) := hide (by unfold tlevs; rw [List.drop_eq_getElem_cons hlt]; rfl)
        clear hck hj0 hjw
        generalize t.args[k]'hlt = x at *
        have hd1 : (d : Int) + 1 ≤ 2000000 := by omega
        have hd0 : (0 : Int) ≤ (d : Int) := by omega
        go_wp2_with fail
        refine HC.out.mono ?_
        rintro e w4 ⟨v4, ht4, (⟨rfl, hJ4⟩ | ⟨rfl, q, hq, hJx4⟩)⟩
        · have T4 := hide (T3.out.trans ht4)
          have T24 := hide (T23.out.trans ht4)
          have HJ4 := hide hJ4
          clear hJ4 ht4
          go_wp2
          go_roundw
          case rel => exact ⟨k + 1, v4, hlt, by go_num, hide (by rw [Hlt.out]; simpa using HJ4.out), T4, T24⟩
          case measure => simp [intOf]; omega
        · have T4 := hide (T3.out.trans ht4)
          clear ht4
          go_wp2
          go_ret
          refine ⟨v4, T4.out, .inr ⟨rfl, (d, t) :: tlevs (t.args.take k) (d + 1) ++ q, ?_, by simpa using hJx4⟩⟩
          obtain ⟨r, hr⟩ := hq
          rw [HLv.out, Hpl.out, Hpd.out, ← hr]
          exact ⟨r ++ tlevs (t.args.drop (k + 1)) (d + 1), by simp⟩
      · have hge : ¬ (k : Int) < (t.args.length : Int) := by omega
        have hkk : t.args.take k = t.args := List.take_of_length_le (by omega)
        have HF : Hid (J (pre ++ t.lev d) wr v3) := hide (by have := HJ.out; rw [hkk, ← HLv.out] at this; exact this)
        clear hkk
        go_wp2
        go_ret
        exact ⟨v3, HT.out, .inl ⟨rfl, HF.out⟩⟩
  · have T2 := hide (T0.out.trans ht2)
    clear ht2
    go_wp2
    go_ret
    exact ⟨v2, T2.out, .inr ⟨rfl, [(d, t)], by rw [HLv.out]; exact ⟨_, rfl⟩, hJx⟩⟩

set_option maxRecDepth 10000 in
set_option maxHeartbeats 2000000 in
theorem t_legalU (t : Ty) (w : World) (h : TyIn w t) : Calls Tryz.prog 124 #[tyV t] w fun e w' => e = .returned (.bool (legalT t)) ∧ Ext w w' := by
  have HB := hide (TBox.new w t)
  have X1 : Ext w ((w.alloc (.cells #[encStr t.con, .int .i64 t.var, .slice t.A t.args.length t.cap] 53)).alloc (.cells #[.int .i64 0] 3)) := ((Ext.refl w).alloc _).alloc _
  have hs : (w.alloc (.cells #[encStr t.con, .int .i64 t.var, .slice t.A t.args.length t.cap] 53)).heap.size = w.heap.size + 1 := by simp
  have hc : ((w.alloc (.cells #[encStr t.con, .int .i64 t.var, .slice t.A t.args.length t.cap] 53)).alloc (.cells #[.int .i64 0] 3)).heap[w.heap.size + 1]? = some (.cells #[.int .i64 0] 3 (0, 0)) := by
    have := at_newB (w.alloc (.cells #[encStr t.con, .int .i64 t.var, .slice t.A t.args.length t.cap] 53)) (.cells #[Value.int .i64 0] 3) (w.heap.size + 1) hs.symm
    exact this
  have HW := hide (t_walkU 170 #[.pointer (some ⟨w.heap.size + 1, 0, none⟩)] tlegal1_opens w (w.heap.size + 1)
    (fun pre w' v => v = .bool false ∧ w'.heap[w.heap.size + 1]? = some (.cells #[.int .i64 pre.length] 3 (0, 0)) ∧ pre.length ≤ 4096 ∧ ∀ p ∈ pre, okP p = true)
    (fun pre _ _ => ¬ (pre.length ≤ 4096 ∧ ∀ p ∈ pre, okP p = true))
    (fun pre w1 w2 v hj e => ⟨hj.1, (e.heap (lt_of_obj hj.2.1)).trans hj.2.1, hj.2.2⟩)
    (fun pre w1 v hj => ⟨by omega, lt_of_obj hj.2.1, fun k hk => by rw [hj.1] at hk; cases hk⟩)
    (fun pre x w1 v hj hx ht => by
      obtain ⟨rfl, hcell, hlen, hall⟩ := hj
      refine (t_legal1 x.2 x.1 pre.length (w.heap.size + 1) w1 ht hcell (by omega)).mono ?_
      rintro e w2 ⟨rfl, hc2, hT⟩
      refine ⟨.bool false, hT, ?_⟩
      by_cases hok : pre.length + 1 ≤ 4096 ∧ okP x = true
      · left
        refine ⟨?_, rfl, by rw [List.length_append]; exact hc2, by rw [List.length_append]; exact hok.1, ?_⟩
        · have h2 := hok.2
          unfold okP at h2
          rw [Bool.and_assoc, h2, Bool.and_true, decide_eq_true hok.1]
        · intro p hp
          rcases List.mem_append.1 hp with hp | hp
          · exact hall p hp
          · rw [List.mem_singleton] at hp; rw [hp]; exact hok.2
      · right
        refine ⟨?_, ?_⟩
        · have : (decide (pre.length + 1 ≤ 4096) && (decide (x.1 ≤ 100) && headOk x.2.con x.2.var x.2.args.length)) = false := by
            rw [← Bool.not_eq_true, Bool.and_eq_true, decide_eq_true_eq]
            exact hok
          rw [Bool.and_assoc, this]
        · rintro ⟨h1, h2⟩
          rw [List.length_append] at h1
          exact hok ⟨h1, h2 x (by simp)⟩)
    (fun pre x _ _ hj => by
      have := hj.2.2.2 x (by simp)
      unfold okP at this
      rw [Bool.and_eq_true, decide_eq_true_eq] at this
      omega)
    t 1 [] ((w.alloc (.cells #[encStr t.con, .int .i64 t.var, .slice t.A t.args.length t.cap] 53)).alloc (.cells #[.int .i64 0] 3)) (.bool false) h X1.below ⟨rfl, hc, by decide, by simp⟩ (by omega))
  have HL := hide (legalT_lev t)
  have HX := hide X1
  clear h hc hs X1
  generalize legalT t = R at *
  unfold tyV at *
  go_enter Tryz.func124, Tryz.ntmps124
  go_wp2_with fail
  refine HW.out.mono ?_
  rintro e w2 ⟨v2, hT, (⟨rfl, hj⟩ | ⟨rfl, q, hq, hx⟩)⟩
  · have HE := hide (Ext.of_below (HX.out.below.trans (hT.below HX.out.size (by omega) (fun k e => by cases e))) (Nat.le_refl _))
    have HR := hide (HL.out.2 ⟨hj.2.2.1, hj.2.2.2⟩)
    clear hT hj
    go_wp2
    go_ret
    exact ⟨by rw [HR.out]; rfl, HE.out⟩
  · have HE := hide (Ext.of_below (HX.out.below.trans (hT.below HX.out.size (by omega) (fun k e => by cases e))) (Nat.le_refl _))
    have HR : Hid (R = false) := hide (by
      rw [← Bool.not_eq_true]
      intro h
      obtain ⟨h1, h2⟩ := HL.out.1 h
      obtain ⟨r, hr⟩ := hq
      have h3 : q.length ≤ 4096 := by rw [← hr, List.length_append] at h1; omega
      exact hx ⟨by simpa using h3, fun p hp => h2 p (by rw [← hr]; exact List.mem_append_left _ (by simpa using hp))⟩)
    clear hT hx hq
    go_wp2
    go_ret
    exact ⟨by rw [HR.out]; rfl, HE.out⟩

set_option maxRecDepth 10000 in
set_option maxHeartbeats 1000000 in
theorem p_legalU (p : Pd) (w : World) (h : PdIn w p) : Calls Tryz.prog 95 #[pdV p] w fun e w' => e = .returned (.bool (pdB p)) ∧ Ext w w' := by
  have X0 : Hid (Ext w (w.alloc (.cells #[encStr p.cls, encStr p.ty.con, .int .i64 p.ty.var, .slice p.ty.A p.ty.args.length p.ty.cap] 55))) := hide ((Ext.refl w).alloc _)
  have HB := hide (PdBox.new w p)
  obtain ⟨c0, c1, c2, c3⟩ := HB.out.cells
  have HN := hide (fun w' => hide (n_con p.cls w' (by have := h.cls; omega)))
  have HL := hide (fun w' (e : Ext w w') => hide (t_legalU p.ty w' (h.ty.ext e)))
  have HP : Hid (pdB p = (conB p.cls && legalT p.ty)) := hide rfl
  clear h
  unfold pdV tyV at *
  generalize pdB p = R at *
  cases hb : conB p.cls
  · rw [hb] at HN HP
    have hR : R = false := by rw [HP.out]; rfl
    clear HP
    subst hR
    go_enter Tryz.func95, Tryz.ntmps95
    go_wp2_with fail
    refine (HN.out _).out.mono ?_
    rintro e w2 ⟨rfl, rfl⟩
    go_wp2
    go_ret
    exact ⟨rfl, X0.out⟩
  · rw [hb] at HN HP
    have hR : R = legalT p.ty := by rw [HP.out]; rfl
    clear HP
    subst hR
    go_enter Tryz.func95, Tryz.ntmps95
    go_wp2_with fail
    refine (HN.out _).out.mono ?_
    rintro e w2 ⟨rfl, rfl⟩
    go_wp2_with fail
    refine (HL.out _ X0.out).out.mono ?_
    rintro e w3 ⟨rfl, hx⟩
    go_wp2
    go_ret
    exact ⟨rfl, X0.out.trans hx⟩

end Go.Proofs.YtcnkfkjgpdmebaaGreatDoor

/- Contract of Go's package slices on rows of types: whether one is there. -/
namespace Go.Proofs.YtcnkfkjgpdmebaaGreatDoor
open Go.RowKit Go.Shelf

set_option maxRecDepth 10000 in
set_option maxHeartbeats 2000000 in
theorem index_ft (f : FuncId) (lb : Array Value) (ef : Opens f) (p : Ty → Bool) (A : Option Addr) (cap : Nat) (l : List Ty) (w : World) (h : TysIn w A l) (hl : l.length ≤ 1000000) (hp : ∀ w', Ext w w' → ∀ x ∈ l, Calls Tryz.prog f (#[tyV x] ++ lb) w' fun e w'' => e = .returned (.bool (p x)) ∧ Ext w' w'') :
    Calls Tryz.prog 203 #[.slice A l.length cap, .func (.func f) #[] lb] w fun e w' => (∃ i : Int, e = .returned (.int .i64 i) ∧ (0 ≤ i ↔ l.any p = true)) ∧ Ext w w' := by
  have HL := hide h
  have HP := hide hp
  unfold Opens at ef
  clear h hp
  obtain ⟨R, hR⟩ : ∃ R, R = l.any p := ⟨_, rfl⟩
  have HR := hide hR
  rw [← hR]
  clear hR
  go_enter Tryz.func203, Tryz.ntmps203
  go_wp2
  go_loopw [8] (fun i wr => ∃ k : Nat, k ≤ l.length ∧ i = .int .i64 k ∧ Hid ((l.take k).any p = false) ∧ Hid (Ext w wr)) (fun i _ => l.length - (intOf i).toNat)
  case atStart => exact ⟨0, Nat.zero_le _, rfl, hide (by simp), hide (Ext.refl _)⟩
  case round =>
    obtain ⟨k, hk, rfl, HA, HX⟩ := hrel
    by_cases hlt : k < l.length
    · have hlt' : (k : Int) < (l.length : Int) := by omega
      have hk0 : (0 : Int) ≤ (k : Int) := by omega
      obtain ⟨b, o, rfl, hb, q0, q1, q2⟩ := (HL.out.ext HX.out).at_ hlt
      have hm := List.getElem_mem hlt
      have HC := hide (HP.out wr HX.out _ hm)
      have Htk : Hid (l.take (k + 1) = l.take k ++ [l[k]'hlt]) := hide (List.take_succ_eq_append_getElem hlt)
      have Hm := hide hm
      clear hm
      unfold tyV at HC
      generalize l[k]'hlt = x at *
      cases hb : p x
      · rw [hb] at HC
        have Hb := hide hb
        clear hb
        go_wp2_with fail
        refine HC.out.mono ?_
        rintro e w3 ⟨rfl, hx⟩
        have X3 := hide (HX.out.trans hx)
        clear hx
        go_wp2
        go_roundw
        case rel => exact ⟨k + 1, hlt, by go_num, hide (by rw [Htk.out, List.any_append, HA.out]; simpa using Hb.out), X3⟩
        case measure => simp [intOf]; omega
      · rw [hb] at HC
        have HN : Hid (R = true) := hide (by rw [HR.out, List.any_eq_true]; exact ⟨x, Hm.out, hb⟩)
        clear hb
        go_wp2_with fail
        refine HC.out.mono ?_
        rintro e w3 ⟨rfl, hx⟩
        go_wp2
        go_ret
        exact ⟨⟨(k : Int), rfl, by rw [HN.out]; simp⟩, HX.out.trans hx⟩
    · have hge : ¬ (k : Int) < (l.length : Int) := by omega
      have HN : Hid (R = false) := hide (by rw [HR.out]; have := HA.out; rwa [List.take_of_length_le (by omega)] at this)
      go_wp2
      go_ret
      exact ⟨⟨-1, rfl, by rw [HN.out]; simp⟩, HX.out⟩

set_option maxRecDepth 10000 in
set_option maxHeartbeats 1000000 in
theorem has_ft (f : FuncId) (lb : Array Value) (ef : Opens f) (p : Ty → Bool) (A : Option Addr) (cap : Nat) (l : List Ty) (w : World) (h : TysIn w A l) (hl : l.length ≤ 1000000) (hp : ∀ w', Ext w w' → ∀ x ∈ l, Calls Tryz.prog f (#[tyV x] ++ lb) w' fun e w'' => e = .returned (.bool (p x)) ∧ Ext w' w'') :
    Calls Tryz.prog 159 #[.slice A l.length cap, .func (.func f) #[] lb] w fun e w' => e = .returned (.bool (l.any p)) ∧ Ext w w' := by
  have HI := hide (index_ft f lb ef p A cap l w h hl hp)
  clear h hp
  generalize l.any p = R at *
  go_enter Tryz.func159, Tryz.ntmps159
  go_wp2_with fail
  refine HI.out.mono ?_
  rintro e w2 ⟨⟨i, rfl, hi⟩, hx⟩
  have HR : Hid (decide ((0 : Int) ≤ i) = R) := hide (by cases R <;> simp_all)
  have X := hide hx
  clear hi hx
  go_wp2
  go_ret
  exact ⟨by first | rfl | (rw [← HR.out]; rfl), X.out⟩

end Go.Proofs.YtcnkfkjgpdmebaaGreatDoor

/- Contracts of proofs: a class; what is proved, and where it lies. (A program of ours has printed a part.) -/
namespace Go.Proofs.YtcnkfkjgpdmebaaGreatDoor
open Go.RowKit

set_option maxRecDepth 10000 in
set_option maxHeartbeats 2000000 in
theorem pf_class (x : EnD) (name : Str) (w : World) (h : EnIn w x) :
    Calls Tryz.prog 174 #[enV x, encStr name] w fun e w' => e = .returned (.tuple #[klV ((clF x.classes name).getD KlD.zero), .bool (clF x.classes name).isSome]) ∧ Ext w w' := by
  obtain ⟨D, dc, datas, C, cc, cls, I, ic, insts⟩ := x
  obtain ⟨W, hW⟩ : ∃ W, W = (w.alloc (.cells #[.slice D datas.length dc, .slice C cls.length cc, .slice I insts.length ic] 26)).alloc (.cells #[.string ⟨#[]⟩, .slice none 0 0, .slice none 0 0] 70) := ⟨_, rfl⟩
  have HW := hide hW.symm
  have X0 : Hid (Ext w W) := hide (by rw [hW]; exact ((Ext.refl _).alloc _).alloc _)
  have B1 : Hid (EnBox W w.heap.size ⟨D, dc, datas, C, cc, cls, I, ic, insts⟩) := hide (by rw [hW]; exact (EnBox.new w _).ext ((Ext.refl _).alloc _))
  have B2 : Hid (W.heap[w.heap.size + 1]? = some (.cells #[.string ⟨#[]⟩, .slice none 0 0, .slice none 0 0] 70 (0, 0))) := hide (by rw [hW]; exact at_newB _ _ _ (by simp))
  have HC := hide (h.classes.ext X0.out)
  have hle := h.cle
  have hmx := h.cmax
  obtain ⟨c0, c1, c2⟩ := B1.out.cells
  have hbl := B1.out.lt
  clear hW h
  simp only [] at *
  obtain ⟨F, hF⟩ : ∃ F, F = clF cls name := ⟨_, rfl⟩
  rw [← hF]
  have HF : Hid (F = (cls.drop 0).find? fun c => c.name == name) := hide (by rw [hF, List.drop_zero]; rfl)
  clear hF
  unfold enV klV
  go_enter Tryz.func174, Tryz.ntmps174
  go_upto_region 1 with fail
  rw [HW.out]
  clear HW
  go_wp2
  go_loopw [7, 11] (fun t7 i wr => ∃ k : Nat, k ≤ cls.length ∧ i = .int .i64 k ∧ Hid (Ext W wr) ∧ Hid (F = (cls.drop k).find? fun c => c.name == name)) (fun _ i _ => cls.length - (intOf i).toNat)
  case atStart => exact ⟨0, Nat.zero_le _, rfl, hide (Ext.refl _), HF⟩
  case round =>
    obtain ⟨k, hk, rfl, HX, HR⟩ := hrel
    have B3 := hide ((HX.out.heap (lt_of_obj B2.out)).trans B2.out)
    have hb3 := lt_of_obj B3.out
    have f0 := free_block B3.out 0
    have f1 := free_block B3.out 1
    have f2 := free_block B3.out 2
    have k0 := bytes_block B3.out 0
    have k1 := bytes_block B3.out 1
    have k2 := bytes_block B3.out 2
    simp only [List.getElem?_toArray, List.getElem?_cons_zero, List.getElem?_cons_succ] at k0 k1 k2
    by_cases hlt : k < cls.length
    · have hlt' : (k : Int) < (cls.length : Int) := by omega
      have hk0 : (0 : Int) ≤ (k : Int) := by omega
      obtain ⟨b, o, rfl, hb, q0, q1, q2⟩ := (HC.out.ext HX.out).at_ hlt
      have HR2 : Hid (F = if ((cls[k]'hlt).name == name) = true then some (cls[k]'hlt) else (cls.drop (k + 1)).find? fun c => c.name == name) := hide (by
        rw [HR.out, List.drop_eq_getElem_cons hlt, List.find?_cons]
        cases ((cls[k]'hlt).name == name) <;> rfl)
      generalize cls[k]'hlt = c at *
      cases hc : (c.name == name)
      · rw [hc] at HR2
        go_wp2
        go_roundw
        case rel => exact ⟨k + 1, hlt, by go_num, hide (HX.out.trans (by repeat (first | exact Ext.refl _ | exact Ext.pre (by simp) | exact Ext.alloc (by assumption) _ | refine Ext.alloc ?_ _ |  refine Ext.more ?_ _ _ | refine Ext.drew ?_ | refine Ext.drewN ?_ _))), hide (by have := HR2.out; simpa using this)⟩
        case measure => simp [intOf]; omega
      · rw [hc] at HR2
        have hF : F = some c := by have := HR2.out; simpa using this
        clear HR2 HR HF
        subst hF
        go_wp2
        refine bodyPost_ret (v := .tuple #[.agg #[encStr c.name, .slice c.S c.sups.length c.sc, .slice c.A c.meths.length c.cap], .bool true]) ?_ rfl ⟨rfl, ?_⟩
        · simp [results, Tryz.f174, go_sem, k0, k1, k2, hb3]
        · exact (((((X0.out.trans HX.out)).setCell (by simp) _).setCell (by simp) _).setCell (by simp) _).alloc _
    · have hge : ¬ (k : Int) < (cls.length : Int) := by omega
      have hF : F = none := by rw [HR.out, List.drop_eq_nil_of_le (by omega)]; rfl
      clear HR HF
      subst hF
      go_wp2
      refine bodyPost_ret (v := .tuple #[.agg #[.string ⟨#[]⟩, .slice none 0 0, .slice none 0 0], .bool false]) ?_ rfl ⟨rfl, ?_⟩
      · simp [results, Tryz.f174, go_sem, k0, k1, k2]
      · exact ((((X0.out.trans HX.out)).setCell (by simp) _).setCell (by simp) _).setCell (by simp) _

/-- What prove tells: what a proof is of, or the refusal. -/
def PrvOk (o : Option Pd) (q : Pd) (er : Value) : Prop := match o with
  | some a => q = a ∧ er = .nilIface
  | none => er = (.iface 142 (.agg #[.int .i64 1]))
theorem PrvOk.some {a q : Pd} {er : Value} (h : PrvOk (some a) q er) : q = a ∧ er = .nilIface := h
theorem PrvOk.none {q : Pd} {er : Value} (h : PrvOk none q er) : er = (.iface 142 (.agg #[.int .i64 1])) := h
/-- What is proved lies where all else lies. -/
theorem prv_in {w : World} {x : EnD} {G : Option Addr} {given : List Pd} (he : EnIn w x) (hg : PdsIn w G given) (p : Pf) : PfIn w p → ∀ a, prv x.classes x.insts given p = some a → PdIn w a := by
  induction p using Pf.ind with
  | h p ih =>
  intro hp a ha
  rw [prv_eq] at ha
  obtain ⟨ha, -⟩ := Option.filter_eq_some_iff.1 ha
  unfold prv0 at ha
  split at ha
  · unfold givenR at ha
    split at ha
    · exact hg.all _ (atZ_mem ha)
    · cases ha
  · split at ha
    · unfold aboveR at ha
      split at ha
      · rename_i hc
        obtain ⟨q, hq, ha⟩ := Option.bind_eq_some_iff.1 ha
        obtain ⟨c, hcl, ha⟩ := Option.bind_eq_some_iff.1 ha
        obtain ⟨s, hs, rfl⟩ := Option.map_eq_some_iff.1 ha
        have h0 : 0 < p.kids.length := by omega
        have e : (p.kids.map (prv x.classes x.insts given)).getD 0 none = prv x.classes x.insts given (p.kids[0]'h0) := by simp [List.getD, h0]
        rw [e] at hq
        have h1 := ih _ (List.getElem_mem h0) (hp.all.kids _ (List.getElem_mem h0)) q hq
        exact ⟨(he.classes.all _ (clF_mem hcl)).stxt _ (atZ_mem hs), h1.ty⟩
      · cases ha
    · split at ha
      · unfold instR at ha
        obtain ⟨y, hy, ha⟩ := Option.bind_eq_some_iff.1 ha
        split at ha
        · injection ha with ha
          subst ha
          have hi := he.insts.all _ (atZ_mem hy)
          exact ⟨hi.txt, TyIn.of hp.hd.tle hp.hd.tmax (by have := hi.ctxt; omega) hp.hd.types.row hp.hd.types.args⟩
        · cases ha
      · cases ha
theorem above_in {w : World} {x : EnD} {G : Option Addr} {given : List Pd} (he : EnIn w x) (hg : PdsIn w G given) {p : Pf} (hp : PfIn w p) {a : Pd} (ha : aboveR x.classes p (p.kids.map (prv x.classes x.insts given)) = some a) : PdIn w a := by
  unfold aboveR at ha
  split at ha
  · rename_i hc
    obtain ⟨q, hq, ha⟩ := Option.bind_eq_some_iff.1 ha
    obtain ⟨c, hcl, ha⟩ := Option.bind_eq_some_iff.1 ha
    obtain ⟨s, hs, rfl⟩ := Option.map_eq_some_iff.1 ha
    have h0 : 0 < p.kids.length := by omega
    have e : (p.kids.map (prv x.classes x.insts given)).getD 0 none = prv x.classes x.insts given (p.kids[0]'h0) := by simp [List.getD, h0]
    rw [e] at hq
    have h1 := prv_in he hg _ (hp.all.kids _ (List.getElem_mem h0)) q hq
    exact ⟨(he.classes.all _ (clF_mem hcl)).stxt _ (atZ_mem hs), h1.ty⟩
  · cases ha
theorem inst_in {w : World} {x : EnD} (he : EnIn w x) {p : Pf} (hp : PfIn w p) {l : List (Option Pd)} {a : Pd} (ha : instR x.insts p l = some a) : PdIn w a := by
  unfold instR at ha
  obtain ⟨y, hy, ha⟩ := Option.bind_eq_some_iff.1 ha
  split at ha
  · injection ha with ha
    subst ha
    have hi := he.insts.all _ (atZ_mem hy)
    exact ⟨hi.txt, TyIn.of hp.hd.tle hp.hd.tmax (by have := hi.ctxt; omega) hp.hd.types.row hp.hd.types.args⟩
  · cases ha
/-- A box of a predicate that is nothing yet. -/
theorem p0_cells {w : World} {b : Nat} (h : w.heap[b]? = some (.cells #[.string ⟨#[]⟩, .string ⟨#[]⟩, .int .i64 0, .slice none 0 0] 55)) : w.cell? ⟨b, 0, none⟩ = some (.string ⟨#[]⟩) ∧ w.cell? ⟨b, 1, none⟩ = some (.string ⟨#[]⟩) ∧ w.cell? ⟨b, 2, none⟩ = some (.int .i64 0) ∧ w.cell? ⟨b, 3, none⟩ = some (.slice none 0 0) ∧ w.frozen? ⟨b, 0, none⟩ = false ∧ w.frozen? ⟨b, 1, none⟩ = false ∧ w.frozen? ⟨b, 2, none⟩ = false ∧ w.frozen? ⟨b, 3, none⟩ = false := by
  refine ⟨?_, ?_, ?_, ?_, ?_, ?_, ?_, ?_⟩ <;> simp [World.cell?, World.frozen?, h]
/-- A predicate is written into a box. -/
def setPd (w : World) (b : Nat) (a : Pd) : World := (((w.setCell ⟨b, 0, none⟩ (encStr a.cls)).setCell ⟨b, 1, none⟩ (encStr a.ty.con)).setCell ⟨b, 2, none⟩ (.int .i64 a.ty.var)).setCell ⟨b, 3, none⟩ (.slice a.ty.A a.ty.args.length a.ty.cap)
theorem ext_set4 {w W : World} {b : Nat} (x : Ext w W) (h : w.heap.size ≤ b) (v0 v1 v2 v3 : Value) : Ext w ((((W.setCell ⟨b, 0, none⟩ v0).setCell ⟨b, 1, none⟩ v1).setCell ⟨b, 2, none⟩ v2).setCell ⟨b, 3, none⟩ v3) :=
  (((x.setCell h _).setCell h _).setCell h _).setCell h _
theorem ext_setPd {w W : World} {b : Nat} (x : Ext w W) (h : w.heap.size ≤ b) (a : Pd) : Ext w (setPd W b a) := ext_set4 x h _ _ _ _
theorem setPd_other {W : World} {b k : Nat} (a : Pd) (h : k ≠ b) : (setPd W b a).heap[k]? = W.heap[k]? := by
  unfold setPd
  rw [Below.heap_setCell _ _ _ _ h, Below.heap_setCell _ _ _ _ h, Below.heap_setCell _ _ _ _ h, Below.heap_setCell _ _ _ _ h]
theorem setPd_size (W : World) (b : Nat) (a : Pd) : (setPd W b a).heap.size = W.heap.size := by unfold setPd; simp [World.setCell]
theorem setPd_box {W : World} {b : Nat} {v0 v1 v2 v3 : Value} (h : W.heap[b]? = some (.cells #[v0, v1, v2, v3] 55 (0, 0))) (a : Pd) : PdBox (setPd W b a) b a := by
  have h1 := blk_setCell h 0 (encStr a.cls)
  have h2 := blk_setCell h1 1 (encStr a.ty.con)
  have h3 := blk_setCell h2 2 (.int .i64 a.ty.var)
  have h4 := blk_setCell h3 3 (.slice a.ty.A a.ty.args.length a.ty.cap)
  unfold PdBox setPd
  simpa using h4
theorem PdBox.free {w : World} {b : Nat} {a : Pd} (h : PdBox w b a) (i : Nat) : w.frozen? ⟨b, i, none⟩ = false := by unfold PdBox at h; simp [World.frozen?, h]
def PrvC (x : EnD) (G : Option Addr) (gc : Nat) (given : List Pd) (fn : FuncId) (o : Option Pd) (p : Pf) : Prop := ∀ (w : World), EnIn w x → PdsIn w G given → PfIn w p →
  Calls Tryz.prog fn #[enV x, .slice G given.length gc, pfV p] w fun e w' => (∃ q er, e = .returned (.tuple #[pdV q, er]) ∧ PrvOk o q er) ∧ Ext w w'

end Go.Proofs.YtcnkfkjgpdmebaaGreatDoor

/- Contract: what a proof is of, if its kind is told of. (A program of ours has printed this.) -/
namespace Go.Proofs.YtcnkfkjgpdmebaaGreatDoor
open Go.RowKit

set_option maxRecDepth 10000 in
set_option maxHeartbeats 4000000 in
theorem p_given (x : EnD) (G : Option Addr) (gc : Nat) (given : List Pd) (p : Pf) (hk : (p.kind == 1) = true) : PrvC x G gc given 79 (prv x.classes x.insts given p) p := by
  intro w he hg hp
  obtain ⟨W, hW⟩ : ∃ W, W = (((w.alloc (.cells #[.slice x.D x.datas.length x.dc, .slice x.C x.classes.length x.cc, .slice x.I x.insts.length x.ic] 26)).alloc (.cells #[.int .i64 p.kind, .int .i64 p.n, .slice p.T p.types.length p.tc, .slice p.A p.kids.length p.cap] 34)).alloc (.cells #[.string ⟨#[]⟩, .string ⟨#[]⟩, .int .i64 0, .slice none 0 0] 55)).alloc (.cells #[.string ⟨#[]⟩, .string ⟨#[]⟩, .int .i64 0, .slice none 0 0] 55) := ⟨_, rfl⟩
  have HW := hide hW.symm
  have X0 : Hid (Ext w W) := hide (by rw [hW]; exact ((((Ext.refl _).alloc _).alloc _).alloc _).alloc _)
  have B1 : Hid (EnBox W w.heap.size x) := hide (by rw [hW]; exact (EnBox.new w x).ext ((((Ext.refl _).alloc _).alloc _).alloc _))
  have B2 : Hid (FBox W (w.heap.size + 1) p) := hide (by rw [hW]; exact FBox.ext (at_newB _ _ _ (by simp)) (((Ext.refl _).alloc _).alloc _))
  have B3 : Hid (W.heap[w.heap.size + 1 + 1]? = some (.cells #[.string ⟨#[]⟩, .string ⟨#[]⟩, .int .i64 0, .slice none 0 0] 55)) := hide (by rw [hW]; exact (((Ext.refl _).alloc _).heap (by simp)).trans (at_newB _ _ _ (by simp)))
  have B4 : Hid (W.heap[w.heap.size + 1 + 1 + 1]? = some (.cells #[.string ⟨#[]⟩, .string ⟨#[]⟩, .int .i64 0, .slice none 0 0] 55)) := hide (by rw [hW]; exact at_newB _ _ _ (by simp))
  have HP := hide (prv_eq x.classes x.insts given p)
  have HsW : Hid (W.heap.size = w.heap.size + 4) := hide (by rw [hW]; simp)
  obtain ⟨c0, c1, c2, c3⟩ := B2.out.cells
  obtain ⟨e0, e1, e2⟩ := B1.out.cells
  obtain ⟨y0, y1, y2, y3, yf0, yf1, yf2, yf3⟩ := p0_cells B3.out
  obtain ⟨z0, z1, z2, z3, zf0, zf1, zf2, zf3⟩ := p0_cells B4.out
  have HG := hide (hg.ext X0.out)
  have HLg := hide (fun (a : Pd) (ha : PdIn w a) w' (e : Ext w w') => hide (p_legalU a w' (ha.ext e)))
  clear hW
  unfold enV pfV
  have HK : Hid (p.kind = 1) := hide (by simpa using hk)
  by_cases h1 : 0 < p.kids.length
  · have HO : Hid (prv x.classes x.insts given p = none) := hide (by rw [HP.out]; unfold prv0; rw [if_pos HK.out]; unfold givenR; rw [if_neg (by omega)]; rfl)
    go_enter Tryz.func79, Tryz.ntmps79
    go_upto_region 3 with fail
    rw [HW.out]
    clear HW
    go_wp2
    refine bodyPost_ret (v := .tuple #[.agg #[.string ⟨#[]⟩, .string ⟨#[]⟩, .int .i64 0, .slice none 0 0], (.iface 142 (.agg #[.int .i64 1]))]) ?_ rfl ⟨⟨⟨[], Ty.zero⟩, _, rfl, by rw [HO.out]; rfl⟩, ?_⟩
    · simp [results, Tryz.f79, go_sem, y0, y1, y2, y3]
    · exact ext_set4 X0.out (by omega) _ _ _ _
  have hkl : p.kids.length = 0 := by omega
  have Hkl := hide hkl
  rw [hkl] at c3
  clear hkl
  by_cases h2 : 0 < p.types.length
  · have HO : Hid (prv x.classes x.insts given p = none) := hide (by rw [HP.out]; unfold prv0; rw [if_pos HK.out]; unfold givenR; rw [if_neg (by omega)]; rfl)
    go_enter Tryz.func79, Tryz.ntmps79
    go_upto_region 3 with fail
    rw [HW.out]
    clear HW
    go_wp2
    refine bodyPost_ret (v := .tuple #[.agg #[.string ⟨#[]⟩, .string ⟨#[]⟩, .int .i64 0, .slice none 0 0], (.iface 142 (.agg #[.int .i64 1]))]) ?_ rfl ⟨⟨⟨[], Ty.zero⟩, _, rfl, by rw [HO.out]; rfl⟩, ?_⟩
    · simp [results, Tryz.f79, go_sem, y0, y1, y2, y3]
    · exact ext_set4 X0.out (by omega) _ _ _ _
  have htl : p.types.length = 0 := by omega
  have Htl := hide htl
  rw [htl] at c2
  clear htl
  have Hn : Hid (prv0 x.classes x.insts given p (p.kids.map (prv x.classes x.insts given)) = atZ given p.n) := hide (by unfold prv0 givenR; rw [if_pos HK.out, if_pos ⟨Hkl.out, Htl.out⟩])
  by_cases h3 : p.n < 0
  · have HO : Hid (prv x.classes x.insts given p = none) := hide (by rw [HP.out]; unfold prv0; rw [if_pos HK.out]; unfold givenR; rw [if_pos ⟨Hkl.out, Htl.out⟩, atZ_none (by omega)]; rfl)
    go_enter Tryz.func79, Tryz.ntmps79
    go_upto_region 3 with fail
    rw [HW.out]
    clear HW
    go_wp2
    refine bodyPost_ret (v := .tuple #[.agg #[.string ⟨#[]⟩, .string ⟨#[]⟩, .int .i64 0, .slice none 0 0], (.iface 142 (.agg #[.int .i64 1]))]) ?_ rfl ⟨⟨⟨[], Ty.zero⟩, _, rfl, by rw [HO.out]; rfl⟩, ?_⟩
    · simp [results, Tryz.f79, go_sem, y0, y1, y2, y3]
    · exact ext_set4 X0.out (by omega) _ _ _ _
  by_cases h4 : p.n ≥ (given.length : Int)
  · have HO : Hid (prv x.classes x.insts given p = none) := hide (by rw [HP.out]; unfold prv0; rw [if_pos HK.out]; unfold givenR; rw [if_pos ⟨Hkl.out, Htl.out⟩, atZ_none (by omega)]; rfl)
    go_enter Tryz.func79, Tryz.ntmps79
    go_upto_region 3 with fail
    rw [HW.out]
    clear HW
    go_wp2
    refine bodyPost_ret (v := .tuple #[.agg #[.string ⟨#[]⟩, .string ⟨#[]⟩, .int .i64 0, .slice none 0 0], (.iface 142 (.agg #[.int .i64 1]))]) ?_ rfl ⟨⟨⟨[], Ty.zero⟩, _, rfl, by rw [HO.out]; rfl⟩, ?_⟩
    · simp [results, Tryz.f79, go_sem, y0, y1, y2, y3]
    · exact ext_set4 X0.out (by omega) _ _ _ _
  obtain ⟨m, hm⟩ : ∃ m : Nat, p.n = (m : Int) := ⟨p.n.toNat, by omega⟩
  have hml : m < given.length := by omega
  have hm1 : (m : Int) < (given.length : Int) := by omega
  have hm0 : (0 : Int) ≤ (m : Int) := by omega
  rw [hm] at c1 Hn
  clear hm h3 h4
  obtain ⟨b, o, eG, hbl, q0, q1, q2, q3⟩ := HG.out.at_ hml
  have Ha := hide (hg.all _ (List.getElem_mem hml))
  have HO0 : Hid (prv x.classes x.insts given p = (some (given[m]'hml)).filter pdB) := hide (by rw [HP.out, Hn.out, atZ_nat _ _ hml])
  clear Hn
  subst eG
  generalize given[m]'hml = a at *
  have X5 : Hid (Ext w (setPd W (w.heap.size + 1 + 1 + 1) a)) := hide (ext_setPd X0.out (by omega) a)
  have B5 : Hid (PdBox (setPd W (w.heap.size + 1 + 1 + 1) a) (w.heap.size + 1 + 1 + 1) a) := hide (setPd_box B4.out a)
  have B6 : Hid ((setPd W (w.heap.size + 1 + 1 + 1) a).heap[w.heap.size + 1 + 1]? = some (.cells #[.string ⟨#[]⟩, .string ⟨#[]⟩, .int .i64 0, .slice none 0 0] 55)) := hide ((setPd_other a (by omega)).trans B3.out)
  have HL := hide (HLg.out a Ha.out _ X5.out)
  go_enter Tryz.func79, Tryz.ntmps79
  go_upto_region 3 with fail
  rw [HW.out]
  clear HW
  cases hb : pdB a
  · rw [hb] at HL
    have HO : Hid (prv x.classes x.insts given p = none) := hide (by rw [HO0.out, Option.filter_some, if_neg (by rw [hb]; decide)])
    clear hb
    go_wp2_with fail
    refine HL.out.out.mono ?_
    rintro e w2 ⟨rfl, hx⟩
    have X6 := hide (X5.out.trans hx)
    have B7 := hide (B5.out.ext hx)
    have B8 := hide ((hx.heap (lt_of_obj B6.out)).trans B6.out)
    clear hx
    obtain ⟨a0, a1, a2, a3⟩ := B7.out.cells
    obtain ⟨y0, y1, y2, y3, yf0, yf1, yf2, yf3⟩ := p0_cells B8.out
    have hb7 := B7.out.lt
    go_wp2
    refine bodyPost_ret (v := .tuple #[.agg #[encStr a.cls, encStr a.ty.con, .int .i64 a.ty.var, .slice a.ty.A a.ty.args.length a.ty.cap], (.iface 142 (.agg #[.int .i64 1]))]) ?_ rfl ⟨⟨a, _, rfl, by rw [HO.out]; rfl⟩, ?_⟩
    · simp [results, Tryz.f79, go_sem, y0, y1, y2, y3]
    · exact ext_set4 X6.out (by omega) _ _ _ _
  · rw [hb] at HL
    have HO : Hid (prv x.classes x.insts given p = some a) := hide (by rw [HO0.out, Option.filter_some, if_pos hb])
    clear hb
    go_wp2_with fail
    refine HL.out.out.mono ?_
    rintro e w2 ⟨rfl, hx⟩
    have X6 := hide (X5.out.trans hx)
    have B7 := hide (B5.out.ext hx)
    have B8 := hide ((hx.heap (lt_of_obj B6.out)).trans B6.out)
    clear hx
    obtain ⟨a0, a1, a2, a3⟩ := B7.out.cells
    obtain ⟨y0, y1, y2, y3, yf0, yf1, yf2, yf3⟩ := p0_cells B8.out
    have hb7 := B7.out.lt
    go_wp2
    refine bodyPost_ret (v := .tuple #[.agg #[encStr a.cls, encStr a.ty.con, .int .i64 a.ty.var, .slice a.ty.A a.ty.args.length a.ty.cap], .nilIface]) ?_ rfl ⟨⟨a, _, rfl, by rw [HO.out]; exact ⟨rfl, rfl⟩⟩, ?_⟩
    · simp [results, Tryz.f79, go_sem, y0, y1, y2, y3]
    · exact ext_set4 X6.out (by omega) _ _ _ _


set_option maxRecDepth 10000 in
set_option maxHeartbeats 4000000 in
theorem p_super (x : EnD) (G : Option Addr) (gc : Nat) (given : List Pd) (p : Pf) (hk1 : (p.kind == 1) = false) (hk : (p.kind == 2) = true) (HC : PrvC x G gc given 126 (aboveR x.classes p (p.kids.map (prv x.classes x.insts given))) p) : PrvC x G gc given 79 (prv x.classes x.insts given p) p := by
  intro w he hg hp
  obtain ⟨W, hW⟩ : ∃ W, W = (((w.alloc (.cells #[.slice x.D x.datas.length x.dc, .slice x.C x.classes.length x.cc, .slice x.I x.insts.length x.ic] 26)).alloc (.cells #[.int .i64 p.kind, .int .i64 p.n, .slice p.T p.types.length p.tc, .slice p.A p.kids.length p.cap] 34)).alloc (.cells #[.string ⟨#[]⟩, .string ⟨#[]⟩, .int .i64 0, .slice none 0 0] 55)).alloc (.cells #[.string ⟨#[]⟩, .string ⟨#[]⟩, .int .i64 0, .slice none 0 0] 55) := ⟨_, rfl⟩
  have HW := hide hW.symm
  have X0 : Hid (Ext w W) := hide (by rw [hW]; exact ((((Ext.refl _).alloc _).alloc _).alloc _).alloc _)
  have B1 : Hid (EnBox W w.heap.size x) := hide (by rw [hW]; exact (EnBox.new w x).ext ((((Ext.refl _).alloc _).alloc _).alloc _))
  have B2 : Hid (FBox W (w.heap.size + 1) p) := hide (by rw [hW]; exact FBox.ext (at_newB _ _ _ (by simp)) (((Ext.refl _).alloc _).alloc _))
  have B3 : Hid (W.heap[w.heap.size + 1 + 1]? = some (.cells #[.string ⟨#[]⟩, .string ⟨#[]⟩, .int .i64 0, .slice none 0 0] 55)) := hide (by rw [hW]; exact (((Ext.refl _).alloc _).heap (by simp)).trans (at_newB _ _ _ (by simp)))
  have B4 : Hid (W.heap[w.heap.size + 1 + 1 + 1]? = some (.cells #[.string ⟨#[]⟩, .string ⟨#[]⟩, .int .i64 0, .slice none 0 0] 55)) := hide (by rw [hW]; exact at_newB _ _ _ (by simp))
  have HP := hide (prv_eq x.classes x.insts given p)
  have HsW : Hid (W.heap.size = w.heap.size + 4) := hide (by rw [hW]; simp)
  obtain ⟨c0, c1, c2, c3⟩ := B2.out.cells
  obtain ⟨e0, e1, e2⟩ := B1.out.cells
  obtain ⟨y0, y1, y2, y3, yf0, yf1, yf2, yf3⟩ := p0_cells B3.out
  obtain ⟨z0, z1, z2, z3, zf0, zf1, zf2, zf3⟩ := p0_cells B4.out
  have HG := hide (hg.ext X0.out)
  have HLg := hide (fun (a : Pd) (ha : PdIn w a) w' (e : Ext w w') => hide (p_legalU a w' (ha.ext e)))
  clear hW
  unfold enV pfV
  have HO0 : Hid (prv x.classes x.insts given p = (aboveR x.classes p (p.kids.map (prv x.classes x.insts given))).filter pdB) := hide (by rw [HP.out]; unfold prv0; rw [if_neg (by simpa using hk1), if_pos (by simpa using hk)])
  have HA := hide (HC W (he.ext X0.out) (hg.ext X0.out) (hp.ext X0.out))
  have Hin : Hid (∀ a, aboveR x.classes p (p.kids.map (prv x.classes x.insts given)) = some a → PdIn w a) := hide (fun a ha => above_in he hg hp ha)
  clear HC HG
  unfold enV pfV at HA
  generalize aboveR x.classes p (p.kids.map (prv x.classes x.insts given)) = O at *
  go_enter Tryz.func79, Tryz.ntmps79
  go_upto_region 3 with fail
  rw [HW.out]
  clear HW
  go_wp2_with fail
  refine HA.out.mono ?_
  rintro e w1 ⟨⟨q, er, rfl, hok⟩, hx1⟩
  have X1 := hide (X0.out.trans hx1)
  have B3 := hide ((hx1.heap (lt_of_obj B3.out)).trans B3.out)
  have B4 := hide ((hx1.heap (lt_of_obj B4.out)).trans B4.out)
  have hz4 := lt_of_obj B4.out
  clear hx1 y0 y1 y2 y3 yf0 yf1 yf2 yf3 z0 z1 z2 z3 zf0 zf1 zf2 zf3
  obtain ⟨y0, y1, y2, y3, yf0, yf1, yf2, yf3⟩ := p0_cells B3.out
  obtain ⟨z0, z1, z2, z3, zf0, zf1, zf2, zf3⟩ := p0_cells B4.out
  cases O with
  | none =>
    obtain rfl := hok.none
    have HO : Hid (prv x.classes x.insts given p = none) := hide (by rw [HO0.out]; rfl)
    clear hok
    go_wp2
    refine bodyPost_ret (v := .tuple #[.agg #[encStr q.cls, encStr q.ty.con, .int .i64 q.ty.var, .slice q.ty.A q.ty.args.length q.ty.cap], (.iface 142 (.agg #[.int .i64 1]))]) ?_ rfl ⟨⟨q, _, rfl, by rw [HO.out]; rfl⟩, ?_⟩
    · simp [results, Tryz.f79, go_sem, y0, y1, y2, y3]
    · exact ext_set4 (ext_set4 X1.out (by omega) _ _ _ _) (by omega) _ _ _ _
  | some a =>
    obtain ⟨rfl, rfl⟩ := hok.some
    have Ha := hide (Hin.out _ rfl)
    rename Pd => a
    have X5 : Hid (Ext w (setPd w1 (w.heap.size + 1 + 1 + 1) a)) := hide (ext_setPd X1.out (by omega) a)
    have B5 : Hid (PdBox (setPd w1 (w.heap.size + 1 + 1 + 1) a) (w.heap.size + 1 + 1 + 1) a) := hide (setPd_box B4.out a)
    have B6 : Hid ((setPd w1 (w.heap.size + 1 + 1 + 1) a).heap[w.heap.size + 1 + 1]? = some (.cells #[.string ⟨#[]⟩, .string ⟨#[]⟩, .int .i64 0, .slice none 0 0] 55)) := hide ((setPd_other a (by omega)).trans B3.out)
    have HL := hide (HLg.out a Ha.out _ X5.out)
    cases hb : pdB a
    · rw [hb] at HL
      have HO : Hid (prv x.classes x.insts given p = none) := hide (by rw [HO0.out, Option.filter_some, if_neg (by rw [hb]; decide)])
      clear hb
      go_wp2_with fail
      refine HL.out.out.mono ?_
      rintro e w2 ⟨rfl, hx⟩
      have X6 := hide (X5.out.trans hx)
      have B7 := hide (B5.out.ext hx)
      have B8 := hide ((hx.heap (lt_of_obj B6.out)).trans B6.out)
      clear hx
      obtain ⟨a0, a1, a2, a3⟩ := B7.out.cells
      obtain ⟨y0, y1, y2, y3, yf0, yf1, yf2, yf3⟩ := p0_cells B8.out
      have hb7 := B7.out.lt
      go_wp2
      refine bodyPost_ret (v := .tuple #[.agg #[encStr a.cls, encStr a.ty.con, .int .i64 a.ty.var, .slice a.ty.A a.ty.args.length a.ty.cap], (.iface 142 (.agg #[.int .i64 1]))]) ?_ rfl ⟨⟨a, _, rfl, by rw [HO.out]; rfl⟩, ?_⟩
      · simp [results, Tryz.f79, go_sem, y0, y1, y2, y3]
      · exact ext_set4 X6.out (by omega) _ _ _ _
    · rw [hb] at HL
      have HO : Hid (prv x.classes x.insts given p = some a) := hide (by rw [HO0.out, Option.filter_some, if_pos hb])
      clear hb
      go_wp2_with fail
      refine HL.out.out.mono ?_
      rintro e w2 ⟨rfl, hx⟩
      have X6 := hide (X5.out.trans hx)
      have B7 := hide (B5.out.ext hx)
      have B8 := hide ((hx.heap (lt_of_obj B6.out)).trans B6.out)
      clear hx
      obtain ⟨a0, a1, a2, a3⟩ := B7.out.cells
      obtain ⟨y0, y1, y2, y3, yf0, yf1, yf2, yf3⟩ := p0_cells B8.out
      have hb7 := B7.out.lt
      go_wp2
      refine bodyPost_ret (v := .tuple #[.agg #[encStr a.cls, encStr a.ty.con, .int .i64 a.ty.var, .slice a.ty.A a.ty.args.length a.ty.cap], .nilIface]) ?_ rfl ⟨⟨a, _, rfl, by rw [HO.out]; exact ⟨rfl, rfl⟩⟩, ?_⟩
      · simp [results, Tryz.f79, go_sem, y0, y1, y2, y3]
      · exact ext_set4 X6.out (by omega) _ _ _ _

set_option maxRecDepth 10000 in
set_option maxHeartbeats 4000000 in
theorem p_instK (x : EnD) (G : Option Addr) (gc : Nat) (given : List Pd) (p : Pf) (hk1 : (p.kind == 1) = false) (hk2 : (p.kind == 2) = false) (hk : (p.kind == 3) = true) (HC : PrvC x G gc given 127 (instR x.insts p (p.kids.map (prv x.classes x.insts given))) p) : PrvC x G gc given 79 (prv x.classes x.insts given p) p := by
  intro w he hg hp
  obtain ⟨W, hW⟩ : ∃ W, W = (((w.alloc (.cells #[.slice x.D x.datas.length x.dc, .slice x.C x.classes.length x.cc, .slice x.I x.insts.length x.ic] 26)).alloc (.cells #[.int .i64 p.kind, .int .i64 p.n, .slice p.T p.types.length p.tc, .slice p.A p.kids.length p.cap] 34)).alloc (.cells #[.string ⟨#[]⟩, .string ⟨#[]⟩, .int .i64 0, .slice none 0 0] 55)).alloc (.cells #[.string ⟨#[]⟩, .string ⟨#[]⟩, .int .i64 0, .slice none 0 0] 55) := ⟨_, rfl⟩
  have HW := hide hW.symm
  have X0 : Hid (Ext w W) := hide (by rw [hW]; exact ((((Ext.refl _).alloc _).alloc _).alloc _).alloc _)
  have B1 : Hid (EnBox W w.heap.size x) := hide (by rw [hW]; exact (EnBox.new w x).ext ((((Ext.refl _).alloc _).alloc _).alloc _))
  have B2 : Hid (FBox W (w.heap.size + 1) p) := hide (by rw [hW]; exact FBox.ext (at_newB _ _ _ (by simp)) (((Ext.refl _).alloc _).alloc _))
  have B3 : Hid (W.heap[w.heap.size + 1 + 1]? = some (.cells #[.string ⟨#[]⟩, .string ⟨#[]⟩, .int .i64 0, .slice none 0 0] 55)) := hide (by rw [hW]; exact (((Ext.refl _).alloc _).heap (by simp)).trans (at_newB _ _ _ (by simp)))
  have B4 : Hid (W.heap[w.heap.size + 1 + 1 + 1]? = some (.cells #[.string ⟨#[]⟩, .string ⟨#[]⟩, .int .i64 0, .slice none 0 0] 55)) := hide (by rw [hW]; exact at_newB _ _ _ (by simp))
  have HP := hide (prv_eq x.classes x.insts given p)
  have HsW : Hid (W.heap.size = w.heap.size + 4) := hide (by rw [hW]; simp)
  obtain ⟨c0, c1, c2, c3⟩ := B2.out.cells
  obtain ⟨e0, e1, e2⟩ := B1.out.cells
  obtain ⟨y0, y1, y2, y3, yf0, yf1, yf2, yf3⟩ := p0_cells B3.out
  obtain ⟨z0, z1, z2, z3, zf0, zf1, zf2, zf3⟩ := p0_cells B4.out
  have HG := hide (hg.ext X0.out)
  have HLg := hide (fun (a : Pd) (ha : PdIn w a) w' (e : Ext w w') => hide (p_legalU a w' (ha.ext e)))
  clear hW
  unfold enV pfV
  have HO0 : Hid (prv x.classes x.insts given p = (instR x.insts p (p.kids.map (prv x.classes x.insts given))).filter pdB) := hide (by rw [HP.out]; unfold prv0; rw [if_neg (by simpa using hk1), if_neg (by simpa using hk2), if_pos (by simpa using hk)])
  have HA := hide (HC W (he.ext X0.out) (hg.ext X0.out) (hp.ext X0.out))
  have Hin : Hid (∀ a, instR x.insts p (p.kids.map (prv x.classes x.insts given)) = some a → PdIn w a) := hide (fun a ha => inst_in he hp ha)
  clear HC HG
  unfold enV pfV at HA
  generalize instR x.insts p (p.kids.map (prv x.classes x.insts given)) = O at *
  go_enter Tryz.func79, Tryz.ntmps79
  go_upto_region 3 with fail
  rw [HW.out]
  clear HW
  go_wp2_with fail
  refine HA.out.mono ?_
  rintro e w1 ⟨⟨q, er, rfl, hok⟩, hx1⟩
  have X1 := hide (X0.out.trans hx1)
  have B3 := hide ((hx1.heap (lt_of_obj B3.out)).trans B3.out)
  have B4 := hide ((hx1.heap (lt_of_obj B4.out)).trans B4.out)
  have hz4 := lt_of_obj B4.out
  clear hx1 y0 y1 y2 y3 yf0 yf1 yf2 yf3 z0 z1 z2 z3 zf0 zf1 zf2 zf3
  obtain ⟨y0, y1, y2, y3, yf0, yf1, yf2, yf3⟩ := p0_cells B3.out
  obtain ⟨z0, z1, z2, z3, zf0, zf1, zf2, zf3⟩ := p0_cells B4.out
  cases O with
  | none =>
    obtain rfl := hok.none
    have HO : Hid (prv x.classes x.insts given p = none) := hide (by rw [HO0.out]; rfl)
    clear hok
    go_wp2
    refine bodyPost_ret (v := .tuple #[.agg #[encStr q.cls, encStr q.ty.con, .int .i64 q.ty.var, .slice q.ty.A q.ty.args.length q.ty.cap], (.iface 142 (.agg #[.int .i64 1]))]) ?_ rfl ⟨⟨q, _, rfl, by rw [HO.out]; rfl⟩, ?_⟩
    · simp [results, Tryz.f79, go_sem, y0, y1, y2, y3]
    · exact ext_set4 (ext_set4 X1.out (by omega) _ _ _ _) (by omega) _ _ _ _
  | some a =>
    obtain ⟨rfl, rfl⟩ := hok.some
    have Ha := hide (Hin.out _ rfl)
    rename Pd => a
    have X5 : Hid (Ext w (setPd w1 (w.heap.size + 1 + 1 + 1) a)) := hide (ext_setPd X1.out (by omega) a)
    have B5 : Hid (PdBox (setPd w1 (w.heap.size + 1 + 1 + 1) a) (w.heap.size + 1 + 1 + 1) a) := hide (setPd_box B4.out a)
    have B6 : Hid ((setPd w1 (w.heap.size + 1 + 1 + 1) a).heap[w.heap.size + 1 + 1]? = some (.cells #[.string ⟨#[]⟩, .string ⟨#[]⟩, .int .i64 0, .slice none 0 0] 55)) := hide ((setPd_other a (by omega)).trans B3.out)
    have HL := hide (HLg.out a Ha.out _ X5.out)
    cases hb : pdB a
    · rw [hb] at HL
      have HO : Hid (prv x.classes x.insts given p = none) := hide (by rw [HO0.out, Option.filter_some, if_neg (by rw [hb]; decide)])
      clear hb
      go_wp2_with fail
      refine HL.out.out.mono ?_
      rintro e w2 ⟨rfl, hx⟩
      have X6 := hide (X5.out.trans hx)
      have B7 := hide (B5.out.ext hx)
      have B8 := hide ((hx.heap (lt_of_obj B6.out)).trans B6.out)
      clear hx
      obtain ⟨a0, a1, a2, a3⟩ := B7.out.cells
      obtain ⟨y0, y1, y2, y3, yf0, yf1, yf2, yf3⟩ := p0_cells B8.out
      have hb7 := B7.out.lt
      go_wp2
      refine bodyPost_ret (v := .tuple #[.agg #[encStr a.cls, encStr a.ty.con, .int .i64 a.ty.var, .slice a.ty.A a.ty.args.length a.ty.cap], (.iface 142 (.agg #[.int .i64 1]))]) ?_ rfl ⟨⟨a, _, rfl, by rw [HO.out]; rfl⟩, ?_⟩
      · simp [results, Tryz.f79, go_sem, y0, y1, y2, y3]
      · exact ext_set4 X6.out (by omega) _ _ _ _
    · rw [hb] at HL
      have HO : Hid (prv x.classes x.insts given p = some a) := hide (by rw [HO0.out, Option.filter_some, if_pos hb])
      clear hb
      go_wp2_with fail
      refine HL.out.out.mono ?_
      rintro e w2 ⟨rfl, hx⟩
      have X6 := hide (X5.out.trans hx)
      have B7 := hide (B5.out.ext hx)
      have B8 := hide ((hx.heap (lt_of_obj B6.out)).trans B6.out)
      clear hx
      obtain ⟨a0, a1, a2, a3⟩ := B7.out.cells
      obtain ⟨y0, y1, y2, y3, yf0, yf1, yf2, yf3⟩ := p0_cells B8.out
      have hb7 := B7.out.lt
      go_wp2
      refine bodyPost_ret (v := .tuple #[.agg #[encStr a.cls, encStr a.ty.con, .int .i64 a.ty.var, .slice a.ty.A a.ty.args.length a.ty.cap], .nilIface]) ?_ rfl ⟨⟨a, _, rfl, by rw [HO.out]; exact ⟨rfl, rfl⟩⟩, ?_⟩
      · simp [results, Tryz.f79, go_sem, y0, y1, y2, y3]
      · exact ext_set4 X6.out (by omega) _ _ _ _

set_option maxRecDepth 10000 in
set_option maxHeartbeats 4000000 in
theorem p_none (x : EnD) (G : Option Addr) (gc : Nat) (given : List Pd) (p : Pf) (hk1 : (p.kind == 1) = false) (hk2 : (p.kind == 2) = false) (hk3 : (p.kind == 3) = false) : PrvC x G gc given 79 (prv x.classes x.insts given p) p := by
  intro w he hg hp
  obtain ⟨W, hW⟩ : ∃ W, W = (((w.alloc (.cells #[.slice x.D x.datas.length x.dc, .slice x.C x.classes.length x.cc, .slice x.I x.insts.length x.ic] 26)).alloc (.cells #[.int .i64 p.kind, .int .i64 p.n, .slice p.T p.types.length p.tc, .slice p.A p.kids.length p.cap] 34)).alloc (.cells #[.string ⟨#[]⟩, .string ⟨#[]⟩, .int .i64 0, .slice none 0 0] 55)).alloc (.cells #[.string ⟨#[]⟩, .string ⟨#[]⟩, .int .i64 0, .slice none 0 0] 55) := ⟨_, rfl⟩
  have HW := hide hW.symm
  have X0 : Hid (Ext w W) := hide (by rw [hW]; exact ((((Ext.refl _).alloc _).alloc _).alloc _).alloc _)
  have B1 : Hid (EnBox W w.heap.size x) := hide (by rw [hW]; exact (EnBox.new w x).ext ((((Ext.refl _).alloc _).alloc _).alloc _))
  have B2 : Hid (FBox W (w.heap.size + 1) p) := hide (by rw [hW]; exact FBox.ext (at_newB _ _ _ (by simp)) (((Ext.refl _).alloc _).alloc _))
  have B3 : Hid (W.heap[w.heap.size + 1 + 1]? = some (.cells #[.string ⟨#[]⟩, .string ⟨#[]⟩, .int .i64 0, .slice none 0 0] 55)) := hide (by rw [hW]; exact (((Ext.refl _).alloc _).heap (by simp)).trans (at_newB _ _ _ (by simp)))
  have B4 : Hid (W.heap[w.heap.size + 1 + 1 + 1]? = some (.cells #[.string ⟨#[]⟩, .string ⟨#[]⟩, .int .i64 0, .slice none 0 0] 55)) := hide (by rw [hW]; exact at_newB _ _ _ (by simp))
  have HP := hide (prv_eq x.classes x.insts given p)
  have HsW : Hid (W.heap.size = w.heap.size + 4) := hide (by rw [hW]; simp)
  obtain ⟨c0, c1, c2, c3⟩ := B2.out.cells
  obtain ⟨e0, e1, e2⟩ := B1.out.cells
  obtain ⟨y0, y1, y2, y3, yf0, yf1, yf2, yf3⟩ := p0_cells B3.out
  obtain ⟨z0, z1, z2, z3, zf0, zf1, zf2, zf3⟩ := p0_cells B4.out
  have HG := hide (hg.ext X0.out)
  have HLg := hide (fun (a : Pd) (ha : PdIn w a) w' (e : Ext w w') => hide (p_legalU a w' (ha.ext e)))
  clear hW
  unfold enV pfV
  have HO : Hid (prv x.classes x.insts given p = none) := hide (by rw [HP.out]; unfold prv0; rw [if_neg (by simpa using hk1), if_neg (by simpa using hk2), if_neg (by simpa using hk3)]; rfl)
  clear HG HLg
  go_enter Tryz.func79, Tryz.ntmps79
  go_upto_region 3 with fail
  rw [HW.out]
  clear HW
  go_wp2
  refine bodyPost_ret (v := .tuple #[.agg #[.string ⟨#[]⟩, .string ⟨#[]⟩, .int .i64 0, .slice none 0 0], (.iface 142 (.agg #[.int .i64 1]))]) ?_ rfl ⟨⟨⟨[], Ty.zero⟩, _, rfl, by rw [HO.out]; rfl⟩, ?_⟩
  · simp [results, Tryz.f79, go_sem, y0, y1, y2, y3]
  · exact ext_set4 X0.out (by omega) _ _ _ _


end Go.Proofs.YtcnkfkjgpdmebaaGreatDoor
