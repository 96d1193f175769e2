/- Contract: the walk over a type's parts, each with its level, as long as it is told to. -/
import Derived.Test.YtcnkfkjgpdmebaaGreatDoorJN9
import Derived.Shelf.Abstract
/- Contract: the walk over a type's parts, each with its level, as long as it is told to. -/
namespace Go.Proofs.YtcnkfkjgpdmebaaGreatDoor
open Go.RowKit Go.Shelf

theorem TBox.tr {w w' : World} {c b : Nat} {v v' : Value} {t : Ty} (h : TBox w b t) (k : Tr c w v w' v') (h1 : b ≠ c) (h2 : v.ownBlock ≠ some b) : TBox w' b t := (k.blk b h.lt h1 h2).trans h
theorem tlevs_len (l : List Ty) (d : Nat) : (tlevs l d).length = tsizes l := by
  unfold tlevs tsizes
  rw [List.length_flatten, List.map_map]
  congr 1
  exact List.map_congr_left (fun k _ => tlev_len k d)

set_option maxRecDepth 10000 in
set_option maxHeartbeats 2000000 in
theorem t_walk (f : FuncId) (lb : Array Value) (ef : Opens f) (w0 : World) (c N : Nat) (J Jx : List (Nat × Ty) → World → Value → Prop)
    (hJe : ∀ pre w w' v, J pre w v → Ext w w' → J pre w' v)
    (hJl : ∀ pre w v, J pre w v → w0.heap.size ≤ c ∧ c < w.heap.size ∧ ∀ k, v.ownBlock = some k → w0.heap.size ≤ k ∧ k < w.heap.size)
    (hY : ∀ pre (x : Nat × Ty) w v, J pre w v → pre.length < N → x.1 ≤ 1000000 → TyIn w x.2 → Calls Tryz.prog f (#[tyV x.2, .int .i64 (x.1 : Nat)] ++ lb) w fun e w' =>
      ∃ v', Tr c w v w' v' ∧ ((e = .returned (.bool true) ∧ J (pre ++ [x]) w' v') ∨ (e = .returned (.bool false) ∧ Jx (pre ++ [x]) w' v'))) (t : Ty) :
    ∀ (d : Nat) (pre : List (Nat × Ty)) (w : World) (v : Value), TyIn w0 t → Below w0.heap.size w0 w → J pre w v → d + t.size ≤ 1000000 → pre.length + t.size ≤ N →
      Calls Tryz.prog 169 #[tyV t, .int .i64 d, .func (.func f) #[] lb] w fun e w' => ∃ v', Tr c w v w' v' ∧ ((e = .returned (.bool true) ∧ J (pre ++ t.lev d) w' v') ∨ (e = .returned (.bool false) ∧ ∃ q, q <+: t.lev d ∧ Jx (pre ++ q) w' v')) := by
  induction t using Ty.ind with
  | h t ih =>
  intro d pre w v ht hB hJ hsz hN
  have IH := hide ih
  have Hk := hide ht.all
  have hle := ht.le
  have hmx := ht.max
  have HB0 := hide (TBox.new w t)
  have X0 : Ext w (w.alloc (.cells #[encStr t.con, .int .i64 t.var, .slice t.A t.args.length t.cap] 53)) := (Ext.refl w).alloc _
  have hlv := tlev_eq t d
  have hts : 1 ≤ t.size := t.size_pos
  have hJ0 := hJe _ _ _ _ hJ X0
  have hl0 := hJl _ _ _ hJ
  have HC := hide (hY pre (d, t) _ v hJ0 (by omega) (by show d ≤ 1000000; omega) ((ht.old hB).ext X0))
  have HBw := hide hB
  have HSz := hide (fun k (hk : k ∈ t.args) => Ty.size_arg hk)
  have HSt := hide (fun k (hk : k < t.args.length) => tsizes_take t.args hk)
  have HSl := hide (fun k => tsizes_le t.args k)
  have HS : Hid (t.size = tsizes t.args + 1) := hide (Ty.size_eq t)
  have HLt := hide (fun k (hk : k < t.args.length) => tlevs_take t.args (d + 1) hk)
  have HLp := hide (fun k => tlevs_split t.args (d + 1) k)
  have HLv := hide hlv
  have HvB : Hid (∀ k, v.ownBlock = some k → w0.heap.size ≤ k) := hide (fun k e => (hl0.2.2 k e).1)
  have HJe := hide hJe
  have HJl := hide hJl
  have T0 : Hid (Tr c w v (w.alloc (.cells #[encStr t.con, .int .i64 t.var, .slice t.A t.args.length t.cap] 53)) v) := hide (Tr.of_ext X0)
  unfold Opens at ef
  have hne : w.heap.size ≠ c := by omega
  have hnv : v.ownBlock ≠ some w.heap.size := fun e => by have := (hl0.2.2 _ e).2; omega
  clear ih hB hJ hJ0 hlv hY hJe hJl ht hl0 X0
  unfold tyV at *
  dsimp only at HC
  generalize hA0 : t.A = A0 at *
  have HA0 := hide hA0
  clear hA0
  go_enter Tryz.func169, Tryz.ntmps169
  go_wp2_with fail
  refine HC.out.mono ?_
  rintro e w2 ⟨v2, ht2, (⟨rfl, hJ2⟩ | ⟨rfl, hJx⟩)⟩
  · have T2 := hide (T0.out.trans ht2)
    have HB2 := hide (HB0.out.tr ht2 hne hnv)
    have HJ2 := hide hJ2
    clear ht2 hJ2 T0 HC
    have hc2 := HB2.out.c2
    rw [HA0.out] at hc2
    go_wp2
    go_loopw [17] (fun i wr => ∃ (k : Nat) (v3 : Value), k ≤ t.args.length ∧ i = .int .i64 k ∧ Hid (J (pre ++ (d, t) :: tlevs (t.args.take k) (d + 1)) wr v3) ∧ Hid (Tr c w v wr v3) ∧ Hid (Tr c w2 v2 wr v3)) (fun i _ => t.args.length - (intOf i).toNat)
    case atStart => exact ⟨0, v2, Nat.zero_le _, rfl, hide (by simpa [tlevs] using HJ2.out), T2, hide (Tr.refl _ _ _)⟩
    case round =>
      obtain ⟨k, v3, hk, rfl, HJ, HT, HT2⟩ := hrel
      by_cases hlt : k < t.args.length
      · have hlt' : (k : Int) < (t.args.length : Int) := by omega
        have hk0 : (0 : Int) ≤ (k : Int) := by omega
        have hj0 := HJl.out _ _ _ HJ.out
        have hjw := HJl.out _ _ _ HJ2.out
        have HKw : Hid (Below w0.heap.size w0 wr) := hide (HBw.out.trans (HT.out.below (by have := HBw.out.size; omega) hj0.1 (fun k hk => (HvB.out k hk))))
        obtain ⟨b, o, rfl, hb, q0, q1, q2⟩ := (Hk.out.old HKw.out).at_ hlt
        have hck := List.getElem_mem hlt
        have hcs := HSz.out _ hck
        have Hst := hide (HSt.out k hlt)
        have hS := HS.out
        have hs1 := HSl.out (k + 1)
        rw [Hst.out] at hs1
        have Hlt := hide (HLt.out k hlt)
        have hpl : (pre ++ (d, t) :: tlevs (t.args.take k) (d + 1)).length = pre.length + 1 + tsizes (t.args.take k) := by
          rw [List.length_append, List.length_cons, tlevs_len]; omega
        have HC := hide (IH.out _ hck (d + 1) _ (wr.alloc (.cells #[encStr (t.args[k]'hlt).con, .int .i64 (t.args[k]'hlt).var, .slice (t.args[k]'hlt).A (t.args[k]'hlt).args.length (t.args[k]'hlt).cap] 53)) v3 (Hk.out.args _ hck) (HKw.out.alloc (by have := HKw.out.size; omega) _) (HJe.out _ _ _ _ HJ.out ((Ext.refl _).alloc _)) (by omega) (by omega))
        have T3 : Hid (Tr c w v (wr.alloc (.cells #[encStr (t.args[k]'hlt).con, .int .i64 (t.args[k]'hlt).var, .slice (t.args[k]'hlt).A (t.args[k]'hlt).args.length (t.args[k]'hlt).cap] 53)) v3) := hide (HT.out.trans (Tr.of_ext ((Ext.refl _).alloc _)))
        have T23 : Hid (Tr c w2 v2 (wr.alloc (.cells #[encStr (t.args[k]'hlt).con, .int .i64 (t.args[k]'hlt).var, .slice (t.args[k]'hlt).A (t.args[k]'hlt).args.length (t.args[k]'hlt).cap] 53)) v3) := hide (HT2.out.trans (Tr.of_ext ((Ext.refl _).alloc _)))
        have Hpl := hide (HLp.out k)
        have Hpd : Hid (tlevs (t.args.drop k) (d + 1) = (t.args[k]'hlt).lev (d + 1) ++ tlevs (t.args.drop (k + 1)) (d + 1)) := hide (by unfold tlevs; rw [List.drop_eq_getElem_cons hlt]; rfl)
        clear hck hpl hj0 hjw
        generalize t.args[k]'hlt = x at *
        have hd1 : (d : Int) + 1 ≤ 2000000 := by omega
        have hd0 : (0 : Int) ≤ (d : Int) := by omega
        go_wp2_with fail
        refine HC.out.mono ?_
        rintro e w4 ⟨v4, ht4, (⟨rfl, hJ4⟩ | ⟨rfl, q, hq, hJx4⟩)⟩
        · have T4 := hide (T3.out.trans ht4)
          have T24 := hide (T23.out.trans ht4)
          have HJ4 := hide hJ4
          clear hJ4 ht4
          go_wp2
          go_roundw
          case rel => exact ⟨k + 1, v4, hlt, by go_num, hide (by rw [Hlt.out]; simpa using HJ4.out), T4, T24⟩
          case measure => simp [intOf]; omega
        · have T4 := hide (T3.out.trans ht4)
          clear ht4
          go_wp2
          go_ret
          refine ⟨v4, T4.out, .inr ⟨rfl, (d, t) :: tlevs (t.args.take k) (d + 1) ++ q, ?_, by simpa using hJx4⟩⟩
          obtain ⟨r, hr⟩ := hq
          rw [HLv.out, Hpl.out, Hpd.out, ← hr]
          exact ⟨r ++ tlevs (t.args.drop (k + 1)) (d + 1), by simp⟩
      · have hge : ¬ (k : Int) < (t.args.length : Int) := by omega
        have hkk : t.args.take k = t.args := List.take_of_length_le (by omega)
        have HF : Hid (J (pre ++ t.lev d) wr v3) := hide (by have := HJ.out; rw [hkk, ← HLv.out] at this; exact this)
        clear hkk
        go_wp2
        go_ret
        exact ⟨v3, HT.out, .inl ⟨rfl, HF.out⟩⟩
  · have T2 := hide (T0.out.trans ht2)
    clear ht2
    go_wp2
    go_ret
    exact ⟨v2, T2.out, .inr ⟨rfl, [(d, t)], by rw [HLv.out]; exact ⟨_, rfl⟩, hJx⟩⟩

end Go.Proofs.YtcnkfkjgpdmebaaGreatDoor
