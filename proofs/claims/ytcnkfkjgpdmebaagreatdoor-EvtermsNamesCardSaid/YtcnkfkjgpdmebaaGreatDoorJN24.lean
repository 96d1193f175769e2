/- Substitutions at work: contract of a builder's put. -/
import Derived.Test.YtcnkfkjgpdmebaaGreatDoorJN23
import Derived.Deep.DeepCutAuto
import Derived.Deep.RegionHeld3
/- Substitutions at work: contract of a builder's put. -/
namespace Go.Proofs.YtcnkfkjgpdmebaaGreatDoor
open Go.RowKit

/-- A builder: its substitution, and what is left. -/
def BldIn (w : World) (bb p : Nat) (left : Int) : Prop := w.heap[bb]? = some (.cells #[.pointer (some ⟨p, 0, none⟩), .int .i64 left] 200 (0, 0))
section
variable {w w' : World} {bb p : Nat} {left : Int}
theorem BldIn.c0 (h : BldIn w bb p left) : w.cell? ⟨bb, 0, none⟩ = some (.pointer (some ⟨p, 0, none⟩)) := bytes_block h 0
theorem BldIn.c1 (h : BldIn w bb p left) : w.cell? ⟨bb, 1, none⟩ = some (.int .i64 left) := bytes_block h 1
theorem BldIn.f1 (h : BldIn w bb p left) : w.frozen? ⟨bb, 1, none⟩ = false := free_block h 1
theorem BldIn.lt (h : BldIn w bb p left) : bb < w.heap.size := lt_of_obj h
theorem BldIn.ext (h : BldIn w bb p left) (e : Ext w w') : BldIn w' bb p left := (e.heap h.lt).trans h
theorem BldIn.set (h : BldIn w bb p left) (n : Int) : BldIn (w.setCell ⟨bb, 1, none⟩ (.int .i64 n)) bb p n := blk_setCell h 1 _
theorem BldIn.grown (h : BldIn w bb p left) {row : Nat} (hg : w.grownBy w' (some row)) (hr : bb ≠ row) : BldIn w' bb p left := (hg.block bb h.lt (fun e => hr (by injection e))).trans h
end
/-- A substitution that a builder's writing does not reach. -/
structure SubFar (w : World) (bb p : Nat) (A : Option Addr) (cap : Nat) (s : List Pr) : Prop where
  sub : SubIn w p A cap s
  hp : p ≠ bb
  hA : s.length ≠ 0 → ∀ a, A = some a → a.block ≠ bb
  tys : ∀ x ∈ s, awayB bb x.ty = true
  small : ∀ x ∈ s, x.ty.size ≤ 4096 ∧ x.ty.depth ≤ 100
theorem SubFar.ext {w w' : World} {bb p : Nat} {A : Option Addr} {cap : Nat} {s : List Pr} (h : SubFar w bb p A cap s) (e : Ext w w') : SubFar w' bb p A cap s := ⟨h.sub.ext e, h.hp, h.hA, h.tys, h.small⟩
theorem SubFar.grown {w w' : World} {bb p : Nat} {A : Option Addr} {cap : Nat} {s : List Pr} (h : SubFar w bb p A cap s) (hg : w.grownBy w' (some bb)) : SubFar w' bb p A cap s :=
  ⟨⟨(hg.block p (lt_of_obj h.sub.blk) (fun e => h.hp (by injection e))).trans h.sub.blk, h.sub.le, h.sub.max, ⟨row_grown h.sub.prs.row hg (fun hn a e e2 => by injection e2 with e2; exact h.hA hn a e e2.symm), fun x hx => (h.sub.prs.ty x hx).grown hg (fun c e => by injection e with e; subst e; exact h.tys x hx)⟩, h.sub.few, h.sub.rise⟩, h.hp, h.hA, h.tys, h.small⟩
/-- What is put, and what is left. -/
structure PutB (w w' : World) (bb : Nat) (s : List Pr) (t u : Ty) (left level left' : Int) : Prop where
  ty : TyIn w' u
  off : awayB bb u = true
  away : ∀ c, c < w.heap.size → awayB c t = true → awayB c u = true
  lo : -5000 ≤ left'
  hi : left' ≤ left - 1
  yes : 0 ≤ left' → u.pure = putP (vsP s) (tsP s) t ∧ left' = left - szS (vsP s) (tsP s) t ∧ level + dpS (vsP s) (tsP s) t ≤ 101
  no : left' < 0 → left < szS (vsP s) (tsP s) t ∨ 101 < level + dpS (vsP s) (tsP s) t
def PutC (bb p : Nat) (A : Option Addr) (cap : Nat) (s : List Pr) (t : Ty) : Prop :=
  ∀ (w : World) (left level : Int), TyIn w t → awayB bb t = true → SubFar w bb p A cap s → BldIn w bb p left → 0 ≤ left → left ≤ 4096 → 1 ≤ level → level + t.depth ≤ 101 →
    Calls Tryz.prog 133 #[.pointer (some ⟨bb, 0, none⟩), tyV t, .int .i64 level] w fun e w' => ∃ u left', e = .returned (tyV u) ∧ PutB w w' bb s t u left level left' ∧ w.grownBy w' (some bb) ∧ BldIn w' bb p left'
/-- Some args that have been put. -/
structure PutBs (w w' : World) (bb : Nat) (s : List Pr) (l us : List Ty) : Prop where
  len : us.length = l.length
  ty : ∀ u ∈ us, TyIn w' u
  off : ∀ u ∈ us, awayB bb u = true
  row : ∀ u ∈ us, ∀ c, w.heap.size ≤ c ∧ c < w.heap.size + 3 → awayB c u = true
  away : ∀ u ∈ us, ∀ c, c < w.heap.size → (∀ k ∈ l, awayB c k = true) → awayB c u = true
/-- How many are left behind some args. -/
structure LeftB (s : List Pr) (l : List Ty) (us : List Ty) (szN dpN : Nat) (left level L : Int) : Prop where
  lo : -5000 ≤ L
  hi : L ≤ left - 1
  yes : 0 ≤ L → us.map Ty.pure = l.map (putP (vsP s) (tsP s)) ∧ L = left - 1 - ((l.map (szS (vsP s) (tsP s))).sum : Nat) ∧ ∀ k ∈ l, level + 1 + dpS (vsP s) (tsP s) k ≤ 101
  no : L < 0 → left < szN ∨ 101 < level + dpN
theorem TyIn.gb {w w' : World} {bb : Nat} {t : Ty} (h : TyIn w t) (hg : w.grownBy w' (some bb)) (ha : awayB bb t = true) : TyIn w' t := h.grown hg (fun c e => by injection e with e; subst e; exact ha)
theorem gb_new {w a b : World} {bb r : Nat} (h : w.grownBy a (some bb)) (k : a.grownBy b (some r)) (hr : w.heap.size ≤ r) : w.grownBy b (some bb) :=
  ⟨k.os.trans h.os, k.tape.trans h.tape, k.output.trans h.output, Nat.le_trans h.size k.size, fun j hj hne => (k.block j (Nat.lt_of_lt_of_le hj h.size) (fun e => by injection e with e; omega)).trans (h.block j hj hne)⟩
theorem PutBs.nil (w w' : World) (bb : Nat) (s : List Pr) : PutBs w w' bb s [] [] := ⟨rfl, by simp, by simp, by simp, by simp⟩
theorem PutBs.grown {w w1 w2 : World} {bb : Nat} {s : List Pr} {l us : List Ty} (h : PutBs w w1 bb s l us) {row : Nat} (hg : w1.grownBy w2 (some row)) (hr : row = bb ∨ (w.heap.size ≤ row ∧ row < w.heap.size + 3)) : PutBs w w2 bb s l us :=
  ⟨h.len, fun u hu => (h.ty u hu).grown hg (fun c e => by injection e with e; subst e; rcases hr with hr | hr; · rw [hr]; exact h.off u hu
                                                          · exact h.row u hu _ hr), h.off, h.row, h.away⟩
theorem PutBs.ext {w w1 w2 : World} {bb : Nat} {s : List Pr} {l us : List Ty} (h : PutBs w w1 bb s l us) (e : Ext w1 w2) : PutBs w w2 bb s l us := ⟨h.len, fun u hu => (h.ty u hu).ext e, h.off, h.row, h.away⟩
theorem PutBs.snoc {w w1 w2 : World} {bb : Nat} {s : List Pr} {l us : List Ty} {t u : Ty} {L lv L' : Int} (h : PutBs w w1 bb s l us) (k : PutB w1 w2 bb s t u L lv L') (hg : w1.grownBy w2 (some bb))
    (ht : TyIn w t) (hs : w.heap.size + 3 ≤ w1.heap.size) : PutBs w w2 bb s (l ++ [t]) (us ++ [u]) := by
  have h' := h.grown hg (.inl rfl)
  refine ⟨by simp [h.len], fun x hx => ?_, fun x hx => ?_, fun x hx c hc => ?_, fun x hx c hc h1 => ?_⟩
  · rcases List.mem_append.1 hx with hx | hx
    · exact h'.ty x hx
    · rw [List.mem_singleton] at hx; subst hx; exact k.ty
  · rcases List.mem_append.1 hx with hx | hx
    · exact h.off x hx
    · rw [List.mem_singleton] at hx; subst hx; exact k.off
  · rcases List.mem_append.1 hx with hx | hx
    · exact h.row x hx c hc
    · rw [List.mem_singleton] at hx; subst hx
      exact k.away c (by omega) (away_new ht hc.1)
  · rcases List.mem_append.1 hx with hx | hx
    · exact h.away x hx c hc (fun k hk => h1 k (List.mem_append.2 (.inl hk)))
    · rw [List.mem_singleton] at hx; subst hx
      exact k.away c (by omega) (h1 t (by simp))
theorem LeftB.start (s : List Pr) {szN dpN : Nat} {left level : Int} (h : 0 ≤ left) (htot : 1 ≤ szN) (hl : left ≤ 4096) : LeftB s [] [] szN dpN left level (left - 1) :=
  ⟨by omega, by omega, fun _ => ⟨rfl, by simp, by simp⟩, fun h2 => .inl (by omega)⟩
theorem LeftB.snoc {s : List Pr} {l us : List Ty} {t u : Ty} {szN dpN : Nat} {left level L L' : Int} {w w' : World} {bb : Nat} (h : LeftB s l us szN dpN left level L) (k : PutB w w' bb s t u L (level + 1) L') (hL : 0 ≤ L)
    (hz : (l.map (szS (vsP s) (tsP s))).sum + szS (vsP s) (tsP s) t + 1 ≤ szN) (hd : 1 + dpS (vsP s) (tsP s) t ≤ dpN) : LeftB s (l ++ [t]) (us ++ [u]) szN dpN left level L' := by
  obtain ⟨a1, a2, a3⟩ := h.yes hL
  refine ⟨k.lo, by have := k.hi; have := h.hi; omega, fun hL' => ?_, fun hL' => ?_⟩
  · obtain ⟨b1, b2, b3⟩ := k.yes hL'
    refine ⟨by rw [List.map_append, List.map_append, a1]; simp [b1], ?_, fun x hx => ?_⟩
    · rw [List.map_append, List.sum_append, List.map_singleton, List.sum_singleton]; omega
    · rcases List.mem_append.1 hx with hx | hx
      · exact a3 x hx
      · rw [List.mem_singleton] at hx; subst hx; exact b3
  · rcases k.no hL' with h1 | h1
    · exact .inl (by omega)
    · exact .inr (by omega)
theorem sum_snoc (f : Ty → Nat) (l : List Ty) {k : Nat} (h : k < l.length) : ((l.take k).map f).sum + f (l[k]'h) ≤ (l.map f).sum := by
  have e : l.map f = (l.take k).map f ++ (f (l[k]'h) :: (l.drop (k + 1)).map f) := by
    rw [← List.map_cons, ← List.map_append]
    congr 1
    rw [← List.drop_eq_getElem_cons h, List.take_append_drop]
  rw [e, List.sum_append, List.sum_cons]
  omega
theorem max_get (l : List Nat) (x : Nat) (h : x ∈ l) : x ≤ l.foldr max 0 := (tmax_le l _).1 (Nat.le_refl _) x h
theorem szS_far {s : List Pr} {t : Ty} (hc : t.con ≠ []) {k : Nat} (h : k < t.args.length) : ((t.args.take k).map (szS (vsP s) (tsP s))).sum + szS (vsP s) (tsP s) (t.args[k]'h) + 1 ≤ szS (vsP s) (tsP s) t ∧ 1 + dpS (vsP s) (tsP s) (t.args[k]'h) ≤ dpS (vsP s) (tsP s) t := by
  rw [szS_eq (t := t), dpS_eq (t := t), if_neg hc, if_neg hc]
  have h1 := sum_snoc (szS (vsP s) (tsP s)) t.args h
  have h2 := max_get (t.args.map (dpS (vsP s) (tsP s))) (dpS (vsP s) (tsP s) (t.args[k]'h)) (List.mem_map.2 ⟨_, List.getElem_mem h, rfl⟩)
  omega
/-- All args have been put: the type. -/
theorem PutB.done {w w' : World} {bb : Nat} {s : List Pr} {t : Ty} {us : List Ty} {A : Option Addr} {cap : Nat} {left level L : Int} (hc : t.con ≠ []) (htx : t.con.length ≤ 9223372036854775807) (h : PutBs w w' bb s t.args us) (hL : LeftB s t.args us (szS (vsP s) (tsP s) t) (dpS (vsP s) (tsP s) t) left level L)
    (h1 : us.length ≤ cap) (h2 : cap ≤ 9223372036854775807) (h3 : RowOf tyC w' A us) (hA : us ≠ [] → ∀ a, A = some a → w.heap.size ≤ a.block) (hbb : bb < w.heap.size) (hlv : level ≤ 100) : PutB w w' bb s t (.mk t.con t.var A cap us) left level L where
  ty := TyIn.of h1 h2 htx h3 h.ty
  off := awayB_mk (fun hn a ha => by have := hA hn a ha; omega) h.off
  away c hlt hk := awayB_mk (fun hn a ha => by have := hA hn a ha; omega) (fun u hu => h.away u hu c hlt (fun k hk' => awayB_arg hk hk'))
  lo := hL.lo
  hi := hL.hi
  yes h0 := by
    obtain ⟨a1, a2, a3⟩ := hL.yes h0
    refine ⟨?_, ?_, ?_⟩
    · rw [Ty.pure_eq, putP_eq, if_neg hc]
      show Ty.Pure.mk _ _ (us.map Ty.pure) = _
      rw [a1]
      rfl
    · rw [szS_eq, if_neg hc]; omega
    · rw [dpS_eq, if_neg hc]
      have : (t.args.map (dpS (vsP s) (tsP s))).foldr max 0 ≤ (100 - level).toNat := (tmax_le _ _).2 (fun x hx => by
        obtain ⟨k, hk, rfl⟩ := List.mem_map.1 hx
        have := a3 k hk
        omega)
      omega
  no := hL.no

set_option maxRecDepth 10000 in
set_option maxHeartbeats 8000000 in
theorem s_put_far (bb p : Nat) (A : Option Addr) (cap : Nat) (s : List Pr) (t : Ty) (hc : t.con ≠ []) (hlen : t.args.length ≤ 100000) (ih : ∀ k ∈ t.args, PutC bb p A cap s k) : PutC bb p A cap s t := by
  intro w left level ht hoff hsub hbl hl0 hl1 hv0 hv1
  obtain ⟨W, hW⟩ : ∃ W, W = (w.alloc (.cells #[encStr t.con, .int .i64 t.var, .slice t.A t.args.length t.cap] 53)).alloc (.cells #[.string ⟨#[]⟩, .int .i64 0, .slice none 0 0] 53) := ⟨_, rfl⟩
  have HW := hide hW.symm
  have X0 : Hid (Ext w W) := hide (by rw [hW]; exact ((Ext.refl _).alloc _).alloc _)
  have B1 : Hid (TBox W w.heap.size t) := hide (by rw [hW]; exact (TBox.new w t).ext ((Ext.refl _).alloc _))
  have B2 : Hid (W.heap[w.heap.size + 1]? = some (.cells #[.string ⟨#[]⟩, .int .i64 0, .slice none 0 0] 53 (0, 0))) := hide (by rw [hW]; exact at_newB _ _ _ (by simp))
  have hWs : W.heap.size = w.heap.size + 2 := by rw [hW]; simp
  have hbw := hbl.lt
  have HBl := hide (hbl.ext X0.out)
  obtain ⟨W8, hW8⟩ : ∃ W8, W8 = W.setCell ⟨bb, 1, none⟩ (.int .i64 (left - 1)) := ⟨_, rfl⟩
  have HW8 := hide hW8.symm
  have HG8 : Hid (w.grownBy W8 (some bb)) := hide (by rw [hW8]; exact grown_trans (ext_grown X0.out _) (grown_cell _ _ _ _))
  have HL8 : Hid (BldIn W8 bb p (left - 1)) := hide (by rw [hW8]; exact HBl.out.set _)
  have B18 : Hid (TBox W8 w.heap.size t) := hide (by rw [hW8]; exact (Below.heap_setCell W ⟨bb, 1, none⟩ _ w.heap.size (by show w.heap.size ≠ bb; omega)).trans B1.out)
  have B28 : Hid (W8.heap[w.heap.size + 1]? = some (.cells #[.string ⟨#[]⟩, .int .i64 0, .slice none 0 0] 53 (0, 0))) := hide (by rw [hW8]; exact (Below.heap_setCell W ⟨bb, 1, none⟩ _ (w.heap.size + 1) (by show w.heap.size + 1 ≠ bb; omega)).trans B2.out)
  have hW8s : W8.heap.size = w.heap.size + 2 := by rw [hW8, World.size_setCell, hWs]
  have hmk := make_zeros t.args.length (by omega) W8
  obtain ⟨W1, hW1⟩ : ∃ W1, W1 = W8.alloc (.cells (zerosT t.args.length) 53) := ⟨_, rfl⟩
  have X81 : Hid (Ext W8 W1) := hide (by rw [hW1]; exact (Ext.refl _).alloc _)
  have B3 : Hid (W1.heap[w.heap.size + 2]? = some (.cells (rowT [] t.args.length) 53 (0, 0))) := hide (by rw [hW1]; exact at_newB _ _ _ hW8s.symm)
  rw [hW8s, ← hW1] at hmk
  have HMk := hide hmk
  have HG1 : Hid (w.grownBy W1 (some bb)) := hide (grown_trans HG8.out (ext_grown X81.out _))
  have HL1 := hide (HL8.out.ext X81.out)
  have B11 := hide (B18.out.ext X81.out)
  have B21 := hide ((X81.out.heap (lt_of_obj B28.out)).trans B28.out)
  have H := hide ht
  have HOff := hide hoff
  have HSub := hide hsub
  have IH := hide ih
  have hle := ht.le
  have hmx := ht.max
  have hcB : (t.con == ([] : Str)) = false := by simpa using hc
  have HC := hide hc
  have HSz : Hid (1 ≤ szS (vsP s) (tsP s) t) := hide (by rw [szS_eq, if_neg hc]; omega)
  have HSf := hide (fun k (h : k < t.args.length) => szS_far (s := s) hc h)
  have b0 := B1.out.c0
  have d0 := HBl.out.c0
  have d1 := HBl.out.c1
  have d2 := HBl.out.f1
  have e2 := B18.out.c2
  have e2' := B11.out.c2
  have hbW : bb < W.heap.size := by omega
  have HWs := hide hWs
  clear hW hW8 hW1 ht hoff hsub hbl ih hc hWs hmk
  unfold tyV at *
  go_enter Tryz.func133, Tryz.ntmps133
  go_upto_region 1 with fail
  rw [HW.out]
  clear HW
  go_upto_region 9 with fail
  rw [HW8.out]
  have hmk := HMk.out
  go_wp2
  go_loopw [58] (fun i wr => ∃ (k : Nat) (us : List Ty) (L : Int), k ≤ t.args.length ∧ i = .int .i64 k ∧ Hid (w.grownBy wr (some bb)) ∧ Hid (wr.heap[w.heap.size + 2]? = some (.cells (rowT us (t.args.length - k)) 53 (0, 0))) ∧ Hid (BldIn wr bb p L) ∧ Hid (PutBs w wr bb s (t.args.take k) us) ∧ Hid (LeftB s (t.args.take k) us (szS (vsP s) (tsP s) t) (dpS (vsP s) (tsP s) t) left level L) ∧ Hid (TBox wr w.heap.size t) ∧ Hid (wr.heap[w.heap.size + 1]? = some (.cells #[.string ⟨#[]⟩, .int .i64 0, .slice none 0 0] 53 (0, 0)))) (fun i _ => t.args.length - (intOf i).toNat)
  case atStart => exact ⟨0, [], left - 1, Nat.zero_le _, rfl, HG1, B3, HL1, hide (PutBs.nil _ _ _ _), hide (LeftB.start s hl0 HSz.out hl1), B11, B21⟩
  case round =>
    obtain ⟨k, us, L, hk, rfl, HG, HR, HLb, HP, HLf, HB1, HB2⟩ := hrel
    have hul : us.length = k := by have := HP.out.len; rw [List.length_take] at this; omega
    have a1 := HLb.out.c1
    have a0 := HLb.out.c0
    have hbr := HLb.out.lt
    by_cases hlt : k < t.args.length
    · have hlt' : (k : Int) < (t.args.length : Int) := by omega
      have hk0 : (0 : Int) ≤ (k : Int) := by omega
      by_cases hL0 : L < 0
      · have g0 := HB1.out.c0
        have g1 := HB1.out.c1
        have g2 := HB1.out.c2
        have f0 := free_block HB2.out 0
        have f1 := free_block HB2.out 1
        have f2 := free_block HB2.out 2
        have k0 := bytes_block HB2.out 0
        have k1 := bytes_block HB2.out 1
        have k2 := bytes_block HB2.out 2
        simp only [List.getElem?_toArray, List.getElem?_cons_zero, List.getElem?_cons_succ] at k0 k1 k2
        have hg3 := put3_grown wr (w.heap.size + 1) 0 1 2 (encStr t.con) (.int .i64 t.var) (.slice t.A t.args.length t.cap)
        have PF : Hid (PutB w (((wr.setCell ⟨w.heap.size + 1, 0, none⟩ (encStr t.con)).setCell ⟨w.heap.size + 1, 1, none⟩ (.int .i64 t.var)).setCell ⟨w.heap.size + 1, 2, none⟩ (.slice t.A t.args.length t.cap)) bb s t t left level L) := hide
          ⟨(H.out.gb HG.out HOff.out).grown hg3 (fun c e => by injection e with e; subst e; exact away_new H.out (by omega)), HOff.out, fun c _ h => h, HLf.out.lo, HLf.out.hi, fun h => absurd h (by omega), fun _ => HLf.out.no hL0⟩
        have GF : Hid (w.grownBy (((wr.setCell ⟨w.heap.size + 1, 0, none⟩ (encStr t.con)).setCell ⟨w.heap.size + 1, 1, none⟩ (.int .i64 t.var)).setCell ⟨w.heap.size + 1, 2, none⟩ (.slice t.A t.args.length t.cap)) (some bb)) := hide
          ⟨hg3.os.trans HG.out.os, hg3.tape.trans HG.out.tape, hg3.output.trans HG.out.output, Nat.le_trans HG.out.size hg3.size, fun j hj hne => (hg3.block j (Nat.lt_of_lt_of_le hj HG.out.size) (fun e => by injection e with e; omega)).trans (HG.out.block j hj hne)⟩
        have LF := hide (HLb.out.grown hg3 (by omega))
        go_wp2
        refine bodyPost_ret (v := .agg #[encStr t.con, .int .i64 t.var, .slice t.A t.args.length t.cap]) ?_ rfl ⟨t, L, rfl, PF.out, GF.out, LF.out⟩
        simp [results, Tryz.f133, go_sem, k0, k1, k2]
      · have hL0' : 0 ≤ L := by omega
        have Hk := hide (H.out.gb HG.out HOff.out)
        obtain ⟨b, o, hA, hb, q0, q1, q2⟩ := (Hk.out.all).at_ hlt
        have hkm := List.getElem_mem hlt
        have HIH := hide (IH.out _ hkm wr L (level + 1) (Hk.out.all.args _ hkm) (awayB_arg HOff.out hkm) (HSub.out.grown HG.out) HLb.out hL0' (by have := HLf.out.hi; omega) (by omega) (by have := tdepth_arg hkm; omega))
        have Hx := hide (H.out.all.args _ hkm)
        have Hsf := hide (HSf.out k hlt)
        have Htk : Hid (t.args.take (k + 1) = t.args.take k ++ [t.args[k]'hlt]) := hide (List.take_succ_eq_append_getElem hlt)
        obtain ⟨m, hm⟩ : ∃ m, t.args.length - k = m + 1 := ⟨t.args.length - k - 1, by omega⟩
        have hm2 : t.args.length - (k + 1) = m := by omega
        rw [hm] at HR
        generalize t.args[k]'hlt = x at *
        have hsz3 : w.heap.size + 3 ≤ wr.heap.size := by have := lt_of_obj HR.out; omega
        have g0 := HB1.out.c0
        have g1 := HB1.out.c1
        have g2 := HB1.out.c2
        rw [hA] at g2 ⊢
        clear hkm hA Hk
        unfold tyV at HIH
        go_wp2_with fail
        refine HIH.out.mono ?_
        rintro e w3 ⟨u, L', rfl, hu, hg3, hl3⟩
        have Hu := hide hu
        have Hg3 := hide hg3
        have HR3 := hide ((hg3.block (w.heap.size + 2) (by omega) (fun e => by injection e with e; omega)).trans HR.out)
        have HP3 : Hid (PutBs w w3 bb s (t.args.take (k + 1)) (us ++ [u])) := hide (by rw [Htk.out]; exact HP.out.snoc hu hg3 Hx.out hsz3)
        have HRn := hide (put3 u HR3.out)
        have hpg := put3_grown w3 (w.heap.size + 2) (us.length * 3) (us.length * 3 + 1) (us.length * 3 + 2) (encStr u.con) (.int .i64 u.var) (.slice u.A u.args.length u.cap)
        have HPn := hide (HP3.out.grown hpg (.inr ⟨by omega, by omega⟩))
        have HLn : Hid (LeftB s (t.args.take (k + 1)) (us ++ [u]) (szS (vsP s) (tsP s) t) (dpS (vsP s) (tsP s) t) left level L') := hide (by rw [Htk.out]; exact HLf.out.snoc hu hL0' Hsf.out.1 Hsf.out.2)
        have HGn := hide (gb_new (grown_trans HG.out hg3) hpg (by omega))
        have HBn := hide (hl3.grown hpg (by omega))
        have HB1n : Hid (TBox (((w3.setCell ⟨w.heap.size + 2, us.length * 3, none⟩ (encStr u.con)).setCell ⟨w.heap.size + 2, us.length * 3 + 1, none⟩ (.int .i64 u.var)).setCell ⟨w.heap.size + 2, us.length * 3 + 2, none⟩ (.slice u.A u.args.length u.cap)) w.heap.size t) := hide ((hpg.block _ (by have := hg3.size; omega) (fun e => by injection e with e; omega)).trans ((hg3.block _ (by omega) (fun e => by injection e with e; omega)).trans HB1.out))
        have HB2n := hide ((hpg.block (w.heap.size + 1) (by have := hg3.size; omega) (fun e => by injection e with e; omega)).trans ((hg3.block _ (by omega) (fun e => by injection e with e; omega)).trans HB2.out))
        have f0 := free_block HR3.out (us.length * 3)
        have f1 := free_block HR3.out (us.length * 3 + 1)
        have f2 := free_block HR3.out (us.length * 3 + 2)
        have k0 := (bytes_block HR3.out (us.length * 3)).trans (row_at3 us m).1
        have k1 := (bytes_block HR3.out (us.length * 3 + 1)).trans (row_at3 us m).2.1
        have k2 := (bytes_block HR3.out (us.length * 3 + 2)).trans (row_at3 us m).2.2
        rw [hul] at f0 f1 f2 k0 k1 k2 HRn HPn HGn HBn HB1n HB2n
        clear hu hg3 hl3 HR3 HP3 hpg Hu Hg3
        go_wp2
        go_roundw
        case rel => exact ⟨k + 1, us ++ [u], L', hlt, by go_num, HGn, hide (by rw [hm2]; exact HRn.out), HBn, HPn, HLn, HB1n, HB2n⟩
        case measure => simp [intOf]; omega
    · have hge : ¬ (k : Int) < (t.args.length : Int) := by omega
      have hkn : k = t.args.length := by omega
      have HRd : Hid (wr.heap[w.heap.size + 2]? = some (.cells (us.flatMap tyC.f).toArray 53 (0, 0))) := hide (by have := HR.out; rw [hkn, Nat.sub_self, row_done] at this; exact this)
      have HPd : Hid (PutBs w wr bb s t.args us) := hide (by have := HP.out; rwa [List.take_of_length_le (by omega)] at this)
      have HLd : Hid (LeftB s t.args us (szS (vsP s) (tsP s) t) (dpS (vsP s) (tsP s) t) left level L) := hide (by have := HLf.out; rwa [List.take_of_length_le (by omega)] at this)
      have hun : us.length = t.args.length := by omega
      clear HR HP HLf hkn
      have hsz3 := lt_of_obj HRd.out
      have g0 := HB1.out.c0
      have g1 := HB1.out.c1
      have g2 := HB1.out.c2
      have fb := HB1.out.free 2
      have f0 := free_block HB2.out 0
      have f1 := free_block HB2.out 1
      have f2 := free_block HB2.out 2
      have k0 := bytes_block HB2.out 0
      have k1 := bytes_block HB2.out 1
      have k2 := bytes_block HB2.out 2
      simp only [List.getElem?_toArray, List.getElem?_cons_zero, List.getElem?_cons_succ] at k0 k1 k2
      obtain ⟨U, hU⟩ : ∃ U : Ty, U = .mk t.con t.var (some ⟨w.heap.size + 2, 0, none⟩) t.args.length us := ⟨_, rfl⟩
      obtain ⟨WF, hWF⟩ : ∃ WF, WF = (((wr.setCell ⟨w.heap.size, 2, none⟩ (.slice (some ⟨w.heap.size + 2, 0, none⟩) t.args.length t.args.length)).setCell ⟨w.heap.size + 1, 0, none⟩ (encStr t.con)).setCell ⟨w.heap.size + 1, 1, none⟩ (.int .i64 t.var)).setCell ⟨w.heap.size + 1, 2, none⟩ (.slice (some ⟨w.heap.size + 2, 0, none⟩) t.args.length t.args.length) := ⟨_, rfl⟩
      have hgA := grown_cell wr w.heap.size 2 (.slice (some ⟨w.heap.size + 2, 0, none⟩) t.args.length t.args.length)
      have hgB := put3_grown (wr.setCell ⟨w.heap.size, 2, none⟩ (.slice (some ⟨w.heap.size + 2, 0, none⟩) t.args.length t.args.length)) (w.heap.size + 1) 0 1 2 (encStr t.con) (.int .i64 t.var) (.slice (some ⟨w.heap.size + 2, 0, none⟩) t.args.length t.args.length)
      have GF : Hid (w.grownBy WF (some bb)) := hide (by rw [hWF]; exact gb_new (gb_new HG.out hgA (Nat.le_refl _)) hgB (by omega))
      have LF : Hid (BldIn WF bb p L) := hide (by rw [hWF]; exact (HLb.out.grown hgA (by omega)).grown hgB (by omega))
      have PF : Hid (PutB w WF bb s t U left level L) := hide (by
        have h1 := (HPd.out.grown hgA (.inr ⟨Nat.le_refl _, by omega⟩)).grown hgB (.inr ⟨by omega, by omega⟩)
        rw [← hWF] at h1
        rw [hU]
        have hblk : WF.heap[w.heap.size + 2]? = some (.cells (us.flatMap tyC.f).toArray 53 (0, 0)) := by
          rw [hWF, Below.heap_setCell _ _ _ _ (by simp), Below.heap_setCell _ _ _ _ (by simp), Below.heap_setCell _ _ _ _ (by simp), Below.heap_setCell _ _ _ _ (by simp)]
          exact HRd.out
        exact PutB.done HC.out H.out.txt h1 HLd.out (by omega) (by omega) (RowOf.block tyC us hblk) (fun _ a e => by injection e with e; subst e; show w.heap.size ≤ w.heap.size + 2; omega) hbw (by rw [Ty.depth_eq] at hv1; omega))
      have hUv : tyV U = .agg #[encStr t.con, .int .i64 t.var, .slice (some ⟨w.heap.size + 2, 0, none⟩) t.args.length t.args.length] := by rw [hU]; unfold tyV; show Value.agg #[_, _, .slice _ us.length _] = _; rw [hun]; rfl
      clear HRd HPd hU hgA hgB
      go_wp2
      rw [← hWF]
      refine bodyPost_ret (v := .agg #[encStr t.con, .int .i64 t.var, .slice (some ⟨w.heap.size + 2, 0, none⟩) t.args.length t.args.length]) ?_ rfl ⟨U, by rw [← hUv]; rfl, L, PF.out, GF.out, LF.out⟩
      rw [hWF]
      simp [results, Tryz.f133, go_sem, k0, k1, k2]

end Go.Proofs.YtcnkfkjgpdmebaaGreatDoor

/- Contracts: a type's size, and its depth; of the program. -/
namespace Go.Proofs.YtcnkfkjgpdmebaaGreatDoor
open Go.RowKit Go.Shelf

/-- A counter is written, and a box is made. -/
theorem cnt_step {w : World} {c : Nat} {n m : Int} (t : Ty) (hc : w.heap[c]? = some (.cells #[.int .i64 n] 3 (0, 0))) :
    (((w.setCell ⟨c, 0, none⟩ (.int .i64 m)).alloc (.cells #[encStr t.con, .int .i64 t.var, .slice t.A t.args.length t.cap] 53)).heap[c]? = some (.cells #[.int .i64 m] 3 (0, 0))) ∧ Tr c w (.bool false) ((w.setCell ⟨c, 0, none⟩ (.int .i64 m)).alloc (.cells #[encStr t.con, .int .i64 t.var, .slice t.A t.args.length t.cap] 53)) (.bool false) := by
  have hlt := lt_of_obj hc
  have hs1 : (w.setCell ⟨c, 0, none⟩ (.int .i64 m)).heap.size = w.heap.size := by simp [World.setCell]
  have h1 := blk_setCell hc 0 (.int .i64 m)
  refine ⟨(((Ext.refl _).alloc _).heap (by rw [hs1]; exact hlt)).trans h1, ?_⟩
  have h2 : Tr c w (.bool false) (w.setCell ⟨c, 0, none⟩ (.int .i64 m)) (.bool false) := ⟨rfl, rfl, rfl, by rw [hs1]; exact Nat.le_refl _, fun k _ hk _ => Below.heap_setCell _ ⟨c, 0, none⟩ _ k hk, .inl rfl⟩
  exact h2.trans (Tr.of_ext ((Ext.refl _).alloc _))

set_option maxRecDepth 10000 in
set_option maxHeartbeats 2000000 in
theorem t_size1 (t : Ty) (d n c : Nat) (w : World) (hc : w.heap[c]? = some (.cells #[.int .i64 n] 3 (0, 0))) (hn : n ≤ 1000000) :
    Calls Tryz.prog 215 #[tyV t, .int .i64 d, .pointer (some ⟨c, 0, none⟩)] w fun e w' => e = .returned (.bool true) ∧ w'.heap[c]? = some (.cells #[.int .i64 ((n + 1 : Nat) : Int)] 3 (0, 0)) ∧ Tr c w (.bool false) w' (.bool false) := by
  have hlt := lt_of_obj hc
  have X0 : Ext w (w.alloc (.cells #[encStr t.con, .int .i64 t.var, .slice t.A t.args.length t.cap] 53)) := (Ext.refl w).alloc _
  have hc1 := (X0.heap hlt).trans hc
  have hcell : (w.alloc (.cells #[encStr t.con, .int .i64 t.var, .slice t.A t.args.length t.cap] 53)).cell? ⟨c, 0, none⟩ = some (.int .i64 n) := bytes_block hc1 0
  have hfree : (w.alloc (.cells #[encStr t.con, .int .i64 t.var, .slice t.A t.args.length t.cap] 53)).frozen? ⟨c, 0, none⟩ = false := free_block hc1 0
  have HE := hide (cnt_step (m := (n : Int) + 1) t hc)
  clear hc hc1 X0
  unfold tyV
  go_enter Tryz.func215, Tryz.ntmps215
  go_wp2
  go_ret
  exact ⟨rfl, by have := HE.out.1; simpa using this, HE.out.2⟩

set_option maxRecDepth 10000 in
set_option maxHeartbeats 2000000 in
theorem t_depth1 (t : Ty) (d n c : Nat) (w : World) (hc : w.heap[c]? = some (.cells #[.int .i64 n] 3 (0, 0))) (_hn : n ≤ 1000000) (_hd : d ≤ 1000000) :
    Calls Tryz.prog 216 #[tyV t, .int .i64 d, .pointer (some ⟨c, 0, none⟩)] w fun e w' => e = .returned (.bool true) ∧ w'.heap[c]? = some (.cells #[.int .i64 ((max n d : Nat) : Int)] 3 (0, 0)) ∧ Tr c w (.bool false) w' (.bool false) := by
  have hlt := lt_of_obj hc
  have X0 : Ext w (w.alloc (.cells #[encStr t.con, .int .i64 t.var, .slice t.A t.args.length t.cap] 53)) := (Ext.refl w).alloc _
  have hc1 := (X0.heap hlt).trans hc
  have hcell : (w.alloc (.cells #[encStr t.con, .int .i64 t.var, .slice t.A t.args.length t.cap] 53)).cell? ⟨c, 0, none⟩ = some (.int .i64 n) := bytes_block hc1 0
  have hfree : (w.alloc (.cells #[encStr t.con, .int .i64 t.var, .slice t.A t.args.length t.cap] 53)).frozen? ⟨c, 0, none⟩ = false := free_block hc1 0
  have HE := hide (fun m : Int => cnt_step (m := m) t hc)
  clear hc hc1 X0
  unfold tyV
  go_enter Tryz.func216, Tryz.ntmps216
  go_wp2
  all_goals go_ret
  all_goals first
    | exact ⟨rfl, by rw [show max n d = d by omega]; exact (HE.out _).1, (HE.out _).2⟩
    | exact ⟨rfl, by rw [show max n d = n by omega]; exact (HE.out _).1, (HE.out _).2⟩
    | exact ⟨rfl, by rw [show ((max n d : Nat) : Int) = max (n : Int) (d : Int) by omega]; exact (HE.out _).1, (HE.out _).2⟩
    | exact ⟨rfl, by rw [show ((max n d : Nat) : Int) = (if (n : Int) ≤ d then (d : Int) else n) by split <;> omega]; exact (HE.out _).1, (HE.out _).2⟩

theorem tsize1_opens : Opens 215 := enters_of Tryz.func215 (by kernel_rfl) rfl
theorem tdepth1_opens : Opens 216 := enters_of Tryz.func216 (by kernel_rfl) rfl

set_option maxRecDepth 10000 in
set_option maxHeartbeats 2000000 in
theorem t_size (t : Ty) (w : World) (h : TyIn w t) (hsz : t.size ≤ 900000) : Calls Tryz.prog 183 #[tyV t] w fun e w' => e = .returned (.int .i64 t.size) ∧ Ext w w' := by
  have HB := hide (TBox.new w t)
  have X1 : Ext w ((w.alloc (.cells #[encStr t.con, .int .i64 t.var, .slice t.A t.args.length t.cap] 53)).alloc (.cells #[.int .i64 0] 3)) := ((Ext.refl w).alloc _).alloc _
  have hs : (w.alloc (.cells #[encStr t.con, .int .i64 t.var, .slice t.A t.args.length t.cap] 53)).heap.size = w.heap.size + 1 := by simp
  have hc : ((w.alloc (.cells #[encStr t.con, .int .i64 t.var, .slice t.A t.args.length t.cap] 53)).alloc (.cells #[.int .i64 0] 3)).heap[w.heap.size + 1]? = some (.cells #[.int .i64 0] 3 (0, 0)) := at_newB (w.alloc (.cells #[encStr t.con, .int .i64 t.var, .slice t.A t.args.length t.cap] 53)) (.cells #[Value.int .i64 0] 3) (w.heap.size + 1) hs.symm
  have HW := hide (t_walk 215 #[.pointer (some ⟨w.heap.size + 1, 0, none⟩)] tsize1_opens w (w.heap.size + 1) 1000000
    (fun pre w' v => v = .bool false ∧ w'.heap[w.heap.size + 1]? = some (.cells #[.int .i64 pre.length] 3 (0, 0)))
    (fun _ _ _ => False)
    (fun pre w1 w2 v hj e => ⟨hj.1, (e.heap (lt_of_obj hj.2)).trans hj.2⟩)
    (fun pre w1 v hj => ⟨by omega, lt_of_obj hj.2, fun k hk => by rw [hj.1] at hk; cases hk⟩)
    (fun pre x w1 v hj hN hx ht => by
      obtain ⟨rfl, hcell⟩ := hj
      refine (t_size1 x.2 x.1 pre.length (w.heap.size + 1) w1 hcell (by omega)).mono ?_
      rintro e w2 ⟨rfl, hc2, hT⟩
      exact ⟨.bool false, hT, .inl ⟨rfl, rfl, by rw [List.length_append]; exact hc2⟩⟩)
    t 1 [] ((w.alloc (.cells #[encStr t.con, .int .i64 t.var, .slice t.A t.args.length t.cap] 53)).alloc (.cells #[.int .i64 0] 3)) (.bool false) h X1.below ⟨rfl, hc⟩ (by omega) (by simp; omega))
  have HL : Hid ((t.lev 1).length = t.size) := hide (tlev_len t 1)
  have HX := hide X1
  clear h hc hs X1
  unfold tyV at *
  go_enter Tryz.func183, Tryz.ntmps183
  go_wp2_with fail
  refine HW.out.mono ?_
  rintro e w2 ⟨v2, hT, (⟨rfl, hj⟩ | ⟨rfl, q, hq, hx⟩)⟩
  · have HE := hide (Ext.of_below (HX.out.below.trans (hT.below HX.out.size (by omega) (fun k e => by cases e))) (Nat.le_refl _))
    have hj2 := hj.2
    rw [List.nil_append, HL.out] at hj2
    have k0 := bytes_block hj2 0
    have hb := lt_of_obj hj2
    simp only [List.getElem?_toArray, List.getElem?_cons_zero] at k0
    clear hT hj hj2
    go_wp2
    go_ret
    exact ⟨rfl, HE.out⟩
  · exact absurd hx id

def mxL (l : List (Nat × Ty)) : Nat := (l.map (·.1)).foldr max 0
theorem mxL_snoc (l : List (Nat × Ty)) (x : Nat × Ty) : mxL (l ++ [x]) = max (mxL l) x.1 := by
  unfold mxL
  rw [List.map_append, List.map_singleton]
  induction l.map (·.1) with
  | nil => simp
  | cons y l ih => simp only [List.cons_append, List.foldr_cons, ih]; omega
theorem mxL_depth (t : Ty) : mxL (t.lev 1) = t.depth := by
  have h1 : ∀ c, mxL (t.lev 1) ≤ c ↔ t.depth ≤ c := by
    intro c
    have h2 := tlev_low c t 1
    unfold mxL
    rw [tmax_le]
    constructor
    · intro h
      have := h2.1 (fun p hp => h p.1 (List.mem_map.2 ⟨p, hp, rfl⟩))
      omega
    · intro h x hx
      obtain ⟨p, hp, rfl⟩ := List.mem_map.1 hx
      exact h2.2 (by omega) p hp
  exact Nat.le_antisymm ((h1 _).2 (Nat.le_refl _)) ((h1 _).1 (Nat.le_refl _))

set_option maxRecDepth 10000 in
set_option maxHeartbeats 2000000 in
theorem t_depth (t : Ty) (w : World) (h : TyIn w t) (hsz : t.size ≤ 900000) : Calls Tryz.prog 184 #[tyV t] w fun e w' => e = .returned (.int .i64 t.depth) ∧ Ext w w' := by
  have HB := hide (TBox.new w t)
  have X1 : Ext w ((w.alloc (.cells #[encStr t.con, .int .i64 t.var, .slice t.A t.args.length t.cap] 53)).alloc (.cells #[.int .i64 0] 3)) := ((Ext.refl w).alloc _).alloc _
  have hs : (w.alloc (.cells #[encStr t.con, .int .i64 t.var, .slice t.A t.args.length t.cap] 53)).heap.size = w.heap.size + 1 := by simp
  have hc : ((w.alloc (.cells #[encStr t.con, .int .i64 t.var, .slice t.A t.args.length t.cap] 53)).alloc (.cells #[.int .i64 0] 3)).heap[w.heap.size + 1]? = some (.cells #[.int .i64 0] 3 (0, 0)) := at_newB (w.alloc (.cells #[encStr t.con, .int .i64 t.var, .slice t.A t.args.length t.cap] 53)) (.cells #[Value.int .i64 0] 3) (w.heap.size + 1) hs.symm
  have HW := hide (t_walk 216 #[.pointer (some ⟨w.heap.size + 1, 0, none⟩)] tdepth1_opens w (w.heap.size + 1) 1000000
    (fun pre w' v => v = .bool false ∧ w'.heap[w.heap.size + 1]? = some (.cells #[.int .i64 (mxL pre : Nat)] 3 (0, 0)) ∧ mxL pre ≤ 1000000)
    (fun _ _ _ => False)
    (fun pre w1 w2 v hj e => ⟨hj.1, (e.heap (lt_of_obj hj.2.1)).trans hj.2.1, hj.2.2⟩)
    (fun pre w1 v hj => ⟨by omega, lt_of_obj hj.2.1, fun k hk => by rw [hj.1] at hk; cases hk⟩)
    (fun pre x w1 v hj hN hx ht => by
      obtain ⟨rfl, hcell, hmx⟩ := hj
      refine (t_depth1 x.2 x.1 (mxL pre) (w.heap.size + 1) w1 hcell hmx hx).mono ?_
      rintro e w2 ⟨rfl, hc2, hT⟩
      exact ⟨.bool false, hT, .inl ⟨rfl, rfl, by rw [mxL_snoc]; exact hc2, by rw [mxL_snoc]; omega⟩⟩)
    t 1 [] ((w.alloc (.cells #[encStr t.con, .int .i64 t.var, .slice t.A t.args.length t.cap] 53)).alloc (.cells #[.int .i64 0] 3)) (.bool false) h X1.below ⟨rfl, hc, Nat.zero_le _⟩ (by omega) (by simp; omega))
  have HL : Hid (mxL (t.lev 1) = t.depth) := hide (mxL_depth t)
  have HX := hide X1
  clear h hc hs X1
  unfold tyV at *
  go_enter Tryz.func184, Tryz.ntmps184
  go_wp2_with fail
  refine HW.out.mono ?_
  rintro e w2 ⟨v2, hT, (⟨rfl, hj⟩ | ⟨rfl, q, hq, hx⟩)⟩
  · have HE := hide (Ext.of_below (HX.out.below.trans (hT.below HX.out.size (by omega) (fun k e => by cases e))) (Nat.le_refl _))
    have hj2 := hj.2.1
    rw [List.nil_append, HL.out] at hj2
    have k0 := bytes_block hj2 0
    have hb := lt_of_obj hj2
    simp only [List.getElem?_toArray, List.getElem?_cons_zero] at k0
    clear hT hj hj2
    go_wp2
    go_ret
    exact ⟨rfl, HE.out⟩
  · exact absurd hx id

end Go.Proofs.YtcnkfkjgpdmebaaGreatDoor

/- Substitutions at work: a builder's put at variables. -/
namespace Go.Proofs.YtcnkfkjgpdmebaaGreatDoor
open Go.RowKit

theorem zt {a y : World} {B : Nat} (e : Ext a y) (h : a.heap[B]? = some (.cells #[.string ⟨#[]⟩, .int .i64 0, .slice none 0 0] 53 (0, 0))) :
    y.cell? ⟨B, 0, none⟩ = some (.string ⟨#[]⟩) ∧ y.cell? ⟨B, 1, none⟩ = some (.int .i64 0) ∧ y.cell? ⟨B, 2, none⟩ = some (.slice none 0 0) ∧ y.frozen? ⟨B, 0, none⟩ = false ∧ y.frozen? ⟨B, 1, none⟩ = false ∧ y.frozen? ⟨B, 2, none⟩ = false ∧ B < y.heap.size := by
  have hb := (e.heap (lt_of_obj h)).trans h
  exact ⟨bytes_block hb 0, bytes_block hb 1, bytes_block hb 2, free_block hb 0, free_block hb 1, free_block hb 2, lt_of_obj hb⟩

theorem zt2 {W a y : World} {B : Nat} (h1 : Ext W a) (e : Ext a y) (hB : W.heap.size ≤ B) (h : a.heap[B]? = some (.cells #[.string ⟨#[]⟩, .int .i64 0, .slice none 0 0] 53 (0, 0))) (x : Ty) :
    Ext W (((y.setCell ⟨B, 0, none⟩ (encStr x.con)).setCell ⟨B, 1, none⟩ (.int .i64 x.var)).setCell ⟨B, 2, none⟩ (.slice x.A x.args.length x.cap)) ∧ TBox (((y.setCell ⟨B, 0, none⟩ (encStr x.con)).setCell ⟨B, 1, none⟩ (.int .i64 x.var)).setCell ⟨B, 2, none⟩ (.slice x.A x.args.length x.cap)) B x := by
  refine ⟨(((h1.trans e).setCell hB _).setCell hB _).setCell hB _, ?_⟩
  have := blk_setCell (blk_setCell (blk_setCell ((e.heap (lt_of_obj h)).trans h) 0 (encStr x.con)) 1 (.int .i64 x.var)) 2 (.slice x.A x.args.length x.cap)
  unfold TBox
  rw [this]
  rfl

set_option maxRecDepth 10000 in
set_option maxHeartbeats 8000000 in
theorem s_put_hit (bb p : Nat) (A : Option Addr) (cap : Nat) (s : List Pr) (t : Ty) (hc : t.con = []) (x : Ty) (hx : putAt (vsP s) (tsP s) t.var = some x) : PutC bb p A cap s t := by
  intro w left level ht hoff hsub hbl hl0 hl1 hv0 hv1
  obtain ⟨q, hq, hqv, hqx⟩ := (putAt_some hsub.sub.rise).1 hx
  have hxin : TyIn w x := hqx ▸ hsub.sub.prs.ty q hq
  obtain ⟨hx1, hx2⟩ : x.size ≤ 4096 ∧ x.depth ≤ 100 := hqx ▸ hsub.small q hq
  obtain ⟨W, hW⟩ : ∃ W, W = (w.alloc (.cells #[encStr t.con, .int .i64 t.var, .slice t.A t.args.length t.cap] 53)).alloc (.cells #[.string ⟨#[]⟩, .int .i64 0, .slice none 0 0] 53) := ⟨_, rfl⟩
  have HW := hide hW.symm
  have X0 : Hid (Ext w W) := hide (by rw [hW]; exact ((Ext.refl _).alloc _).alloc _)
  have B1 : Hid (TBox W w.heap.size t) := hide (by rw [hW]; exact (TBox.new w t).ext ((Ext.refl _).alloc _))
  have B2 : Hid (W.heap[w.heap.size + 1]? = some (.cells #[.string ⟨#[]⟩, .int .i64 0, .slice none 0 0] 53 (0, 0))) := hide (by rw [hW]; exact at_newB _ _ _ (by simp))
  have hWs : W.heap.size = w.heap.size + 2 := by rw [hW]; simp
  have hbw := hbl.lt
  have HBl := hide (hbl.ext X0.out)
  have HGet := hide (fun w' (e : Ext W w') => hide (s_get p A cap s t.var w' (hsub.sub.ext (X0.out.trans e))))
  rw [hx] at HGet
  have HSS := hide (fun w' (e : Ext W w') => And.intro (HBl.out.ext e).c0 (B1.out.ext e).c1)
  have HXi := hide (hxin.ext X0.out)
  have hcB : (t.con == ([] : Str)) = true := by simpa using hc
  have b0 := B1.out.c0
  have hbW : bb < W.heap.size := by omega
  have hNW : w.heap.size < W.heap.size := by omega
  obtain ⟨d0, b1⟩ := HSS.out W (Ext.refl _)
  have n1 : ¬ bb = W.heap.size := by omega
  have n2 : ¬ W.heap.size = bb := by omega
  have n3 : ¬ w.heap.size = W.heap.size := by omega
  have n4 : ¬ W.heap.size = w.heap.size := by omega
  have HWs := hide hWs
  have H := hide ht
  have Hc := hide hc
  have Hoffx : Hid (awayB bb x = true) := hide (hqx ▸ hsub.tys q hq)
  have Hx := hide hx
  clear hW ht hoff hsub hbl hc hWs hx hqv hqx hq hxin
  simp only [Option.getD_some, Option.isSome_some] at HGet
  unfold tyV at *
  go_enter Tryz.func133, Tryz.ntmps133
  go_upto_region 1 with fail
  rw [HW.out]
  clear HW
  go_upto_region 2 with fail
  go_cut [7, 8] (fun s7 s8 wx => ∃ b7 : Nat, s7 = .pointer (some ⟨b7, 0, none⟩) ∧ s8 = .bool true ∧ W.heap.size ≤ b7 ∧ Hid (Ext W wx) ∧ Hid (TBox wx b7 x))
  case first =>
    go_region_held3 (fun w' => w'.cell? ⟨bb, 0, none⟩ = some (.pointer (some ⟨p, 0, none⟩)) ∧ w'.cell? ⟨w.heap.size, 1, none⟩ = some (.int .i64 t.var)) (first | assumption | go_keep) (first
      | (go_at_call 182
         refine Calls.mono (HGet.out _ ?e).out ?_
         (case e => exact (by repeat (first | exact Ext.refl _ | exact Ext.pre (by simp) | exact Ext.alloc (by assumption) _ | refine Ext.alloc ?_ _ |  refine Ext.more ?_ _ _ | refine Ext.drew ?_ | refine Ext.drewN ?_ _)))
         rintro e y ⟨rfl, hxy⟩
         have kS := HSS.out y (by refine Ext.trans ?_ hxy; exact (by repeat (first | exact Ext.refl _ | exact Ext.pre (by simp) | exact Ext.alloc (by assumption) _ | refine Ext.alloc ?_ _ |  refine Ext.more ?_ _ _ | refine Ext.drew ?_ | refine Ext.drewN ?_ _)))
         (try (have zz := zt hxy (B := W.heap.size) (by first | exact at_newB W _ _ rfl | fail); obtain ⟨z0, z1, z2, z3, z4, z5, z6⟩ := zz))))
    all_goals (go_wp2_with fail; go_meet; first
      | exact ⟨y.heap.size, rfl, rfl, Nat.le_trans (Nat.le_refl _) ((Ext.refl W).drew.trans hxy).size, hide (((Ext.refl W).drew.trans hxy).alloc _), hide (at_newB _ _ _ rfl)⟩
      | exact ⟨W.heap.size, rfl, rfl, Nat.le_refl _, hide ((zt2 (((Ext.refl W).alloc _).drew) hxy (Nat.le_refl _) (at_newB W _ _ rfl) _).1), hide ((zt2 (((Ext.refl W).alloc _).drew) hxy (Nat.le_refl _) (at_newB W _ _ rfl) _).2)⟩)
  case rest =>
    obtain ⟨b7, rfl, rfl, hb7, HX, H7⟩ := hcut
    have hn7 : ¬ bb = b7 := by omega
    have hn8 : ¬ b7 = bb := by omega
    have hwr : IntKind.i64.wrap (left - (x.size : Int)) = left - (x.size : Int) := by rw [IntKind.wrap_i64]; omega
    have HSz := hide (fun w' (e : Ext wc w') => hide (t_size x w' ((HXi.out.ext HX.out).ext e) (by omega)))
    have HDp := hide (fun w' (h : TyIn w' x) => hide (t_depth x w' h (by omega)))
    have HCp := hide (fun w' (h : TyIn w' x) => hide (s_copied x w' h (by omega)))
    have HBc := hide (HBl.out.ext HX.out)
    have HS7 := hide (fun w' (e : Ext wc w') => And.intro (HBc.out.ext e).c1 (And.intro (H7.out.ext e).c0 (And.intro (H7.out.ext e).c1 (H7.out.ext e).c2)))
    unfold tyV at HSz HDp HCp
    go_wp2
    have hS0 := HS7.out wc.drew (Ext.refl _).drew
    refine but_startN 9 10 #[false, false, false, false, false, false, false, false, false, false] (fun w' => w'.cell? ⟨bb, 1, none⟩ = some (.int .i64 left) ∧ w'.cell? ⟨b7, 0, none⟩ = some (encStr x.con) ∧ w'.cell? ⟨b7, 1, none⟩ = some (.int .i64 x.var) ∧ w'.cell? ⟨b7, 2, none⟩ = some (.slice x.A x.args.length x.cap)) (by kernel_rfl) (by kernel_rfl) (by kernel_rfl) ?_
    (refine but_takeL (i := 0) (v := ?_) rfl (by kernel_rfl) (by kernel_rfl) (by kernel_rfl) (by kernel_rfl) (fun _ _ _ h => h) (Or.inl ⟨by kernel_rfl, ?_⟩) (by assumption) ?_; rotate_left 1; (focus (intro w hSw; (try dsimp only at hSw); (try obtain ⟨g1, g2, g3⟩ := hSw); (try obtain ⟨g1, g2⟩ := hSw); go_simp; try with_reducible rfl)); simp only [Act.put, List.setIfInBounds_toArray, List.set_cons_zero, List.set_cons_succ])
    (refine but_takeL (i := 1) (v := ?_) rfl (by kernel_rfl) (by kernel_rfl) (by kernel_rfl) (by kernel_rfl) (fun _ _ _ h => h) (Or.inl ⟨by kernel_rfl, ?_⟩) (by assumption) ?_; rotate_left 1; (focus (intro w hSw; (try dsimp only at hSw); (try obtain ⟨g1, g2, g3⟩ := hSw); (try obtain ⟨g1, g2⟩ := hSw); go_simp; try with_reducible rfl)); simp only [Act.put, List.setIfInBounds_toArray, List.set_cons_zero, List.set_cons_succ])
    (refine but_takeL (i := 2) (v := ?_) rfl (by kernel_rfl) (by kernel_rfl) (by kernel_rfl) (by kernel_rfl) (fun _ _ _ h => h) (Or.inl ⟨by kernel_rfl, ?_⟩) (by assumption) ?_; rotate_left 1; (focus (intro w hSw; (try dsimp only at hSw); (try obtain ⟨g1, g2, g3⟩ := hSw); (try obtain ⟨g1, g2⟩ := hSw); go_simp; try with_reducible rfl)); simp only [Act.put, List.setIfInBounds_toArray, List.set_cons_zero, List.set_cons_succ])
    (refine but_takeL (i := 3) (v := ?_) rfl (by kernel_rfl) (by kernel_rfl) (by kernel_rfl) (by kernel_rfl) (fun _ _ _ h => h) (Or.inl ⟨by kernel_rfl, ?_⟩) (by assumption) ?_; rotate_left 1; (focus (intro w hSw; (try dsimp only at hSw); (try obtain ⟨g1, g2, g3⟩ := hSw); (try obtain ⟨g1, g2⟩ := hSw); go_simp; try with_reducible rfl)); simp only [Act.put, List.setIfInBounds_toArray, List.set_cons_zero, List.set_cons_succ])
    (refine but_takeL (i := 4) (v := ?_) rfl (by kernel_rfl) (by kernel_rfl) (by kernel_rfl) (by kernel_rfl) (fun _ _ _ h => h) (Or.inl ⟨by kernel_rfl, ?_⟩) (by assumption) ?_; rotate_left 1; (focus (intro w hSw; (try dsimp only at hSw); (try obtain ⟨g1, g2, g3⟩ := hSw); (try obtain ⟨g1, g2⟩ := hSw); go_simp; try with_reducible rfl)); simp only [Act.put, List.setIfInBounds_toArray, List.set_cons_zero, List.set_cons_succ])
    refine but_step (i := 5) (by kernel_rfl) rfl (fun KK hK => ?_)
    go_simp
    refine Calls.mono (HSz.out _ (Ext.refl _).drew).out ?_
    rintro e w4 ⟨rfl, hx4⟩
    have X4 := hide ((Ext.refl wc).drew.trans hx4)
    have hS4 := HS7.out _ X4.out
    refine hK.out _ _ (fun _ => hS4) ?_
    clear hK KK hS0 hx4
    simp only [List.setIfInBounds_toArray, List.set_cons_zero, List.set_cons_succ]
    refine but_step (i := 6) (by kernel_rfl) rfl (fun KK hK => ?_)
    go_simp
    refine hK.out _ _ (fun _ => hS4) ?_
    clear hK KK
    simp only [List.setIfInBounds_toArray, List.set_cons_zero, List.set_cons_succ]
    refine but_step (i := 7) (by kernel_rfl) rfl (fun KK hK => ?_)
    go_simp
    refine hK.out _ _ (fun _ => hS4) ?_
    clear hK KK
    simp only [List.setIfInBounds_toArray, List.set_cons_zero, List.set_cons_succ]
    refine but_step (i := 8) (by kernel_rfl) rfl (fun KK hK => ?_)
    go_simp
    refine hK.out _ _ (fun _ => hS4) ?_
    clear hK KK
    simp only [List.setIfInBounds_toArray, List.set_cons_zero, List.set_cons_succ]
    have HB4 := hide (HBc.out.ext X4.out)
    have f41 := HB4.out.f1
    have c41 := HB4.out.c1
    obtain ⟨W9, hW9⟩ : ∃ W9, W9 = w4.setCell ⟨bb, 1, none⟩ (.int .i64 (left - x.size)) := ⟨_, rfl⟩
    have hg9 : w4.grownBy W9 (some bb) := by rw [hW9]; exact grown_cell _ _ _ _
    have HL9 : Hid (BldIn W9 bb p (left - x.size)) := hide (by rw [hW9]; exact HB4.out.set _)
    have HG9 : Hid (w.grownBy W9 (some bb)) := hide (grown_trans (ext_grown (X0.out.trans (HX.out.trans X4.out)) _) hg9)
    have HX9 : Hid (TyIn W9 x) := hide ((HXi.out.ext (HX.out.trans X4.out)).gb hg9 Hoffx.out)
    have H79 : Hid (TBox W9 b7 x) := hide ((hg9.block b7 (H7.out.ext X4.out).lt (fun e => by injection e with e; exact hn8 e)).trans (H7.out.ext X4.out))
    have B29 : Hid (W9.heap[w.heap.size + 1]? = some (.cells #[.string ⟨#[]⟩, .int .i64 0, .slice none 0 0] 53 (0, 0))) := hide ((hg9.block _ (by have := (HX.out.trans X4.out).size; have := lt_of_obj B2.out; omega) (fun e => by injection e with e; omega)).trans (((HX.out.trans X4.out).heap (lt_of_obj B2.out)).trans B2.out))
    refine but_step (i := 9) (by kernel_rfl) rfl (fun KK hK => ?_)
    go_simp
    rw [← hW9]
    refine hK.out _ _ (fun h => absurd rfl h) ?_
    clear hK KK hS4 HB4 f41 c41 hg9
    try simp only [Act.put]
    refine but_done (by kernel_rfl) ?_ _
    clear hW9
    obtain ⟨a0, a1, a2⟩ := And.intro H79.out.c0 (And.intro H79.out.c1 H79.out.c2)
    go_wp2_with fail
    refine (HDp.out _ HX9.out).out.mono ?_
    rintro e w10 ⟨rfl, hx10⟩
    have HX10 := hide (HX9.out.ext hx10)
    have H710 := hide (H79.out.ext hx10)
    have HL10 := hide (HL9.out.ext hx10)
    have HG10 := hide (grown_trans HG9.out (ext_grown hx10 _))
    have B210 := hide ((hx10.heap (lt_of_obj B29.out)).trans B29.out)
    clear a0 a1 a2 hx10 HX9 H79 HL9 HG9 B29
    have HZ : Hid (szS (vsP s) (tsP s) t = x.size ∧ dpS (vsP s) (tsP s) t = x.depth ∧ putP (vsP s) (tsP s) t = x.pure) := hide (by
      rw [szS_eq, dpS_eq, putP_eq, if_pos Hc.out, if_pos Hc.out, if_pos Hc.out, Hx.out]
      exact ⟨rfl, rfl, rfl⟩)
    by_cases hdp : level + (x.depth : Int) > 101
    · have hg11 := grown_cell w10 bb 1 (.int .i64 (-1))
      have b11 := HL10.out.lt
      have f11 := HL10.out.f1
      have c11 := HL10.out.c1
      have HL11 := hide (HL10.out.set (-1))
      have HG11 := hide (grown_trans HG10.out hg11)
      have HX11 := hide (HX10.out.gb hg11 Hoffx.out)
      have H711 : Hid (TBox (w10.setCell ⟨bb, 1, none⟩ (.int .i64 (-1))) b7 x) := hide ((hg11.block b7 H710.out.lt (fun e => by injection e with e; exact hn8 e)).trans H710.out)
      have B211 := hide ((hg11.block (w.heap.size + 1) (lt_of_obj B210.out) (fun e => by injection e with e; omega)).trans B210.out)
      clear HX10 H710 HL10 HG10 B210 hg11
      obtain ⟨a0, a1, a2⟩ := And.intro H711.out.c0 (And.intro H711.out.c1 H711.out.c2)
      have HC11 := hide (HCp.out _ HX11.out)
      go_wp2_with fail
      refine HC11.out.out.mono ?_
      rintro e w12 ⟨⟨u, rfl, hu⟩, hx12⟩
      clear a0 a1 a2
      have B2e := hide ((hx12.heap (lt_of_obj B211.out)).trans B211.out)
      have f0 := free_block B2e.out 0
      have f1 := free_block B2e.out 1
      have f2 := free_block B2e.out 2
      have k0 := bytes_block B2e.out 0
      have k1 := bytes_block B2e.out 1
      have k2 := bytes_block B2e.out 2
      simp only [List.getElem?_toArray, List.getElem?_cons_zero, List.getElem?_cons_succ] at k0 k1 k2
      have hpg := put3_grown w12 (w.heap.size + 1) 0 1 2 (encStr u.con) (.int .i64 u.var) (.slice u.A u.args.length u.cap)
      have PF : Hid (PutB w (((w12.setCell ⟨w.heap.size + 1, 0, none⟩ (encStr u.con)).setCell ⟨w.heap.size + 1, 1, none⟩ (.int .i64 u.var)).setCell ⟨w.heap.size + 1, 2, none⟩ (.slice u.A u.args.length u.cap)) bb s t u left level (-1)) := hide
        ⟨hu.ty.grown hpg (fun c e => by injection e with e; subst e; exact hu.away _ (by have := lt_of_obj B211.out; exact this)), hu.away bb (by have := HL11.out.lt; exact this), fun c hc _ => hu.away c (by have := lt_of_obj B211.out; omega), by omega, by have := x.size_pos; omega, fun h => absurd h (by omega), fun _ => .inr (by rw [HZ.out.2.1]; omega)⟩
      have GF := hide (gb_new (grown_trans HG11.out (ext_grown hx12 _)) hpg (by omega))
      have LF := hide ((HL11.out.ext hx12).grown hpg (by have := HL11.out.lt; omega))
      clear hx12 hu hpg
      go_wp2
      refine bodyPost_ret (v := .agg #[encStr u.con, .int .i64 u.var, .slice u.A u.args.length u.cap]) ?_ rfl ⟨u, -1, rfl, PF.out, GF.out, LF.out⟩
      simp [results, Tryz.f133, go_sem, k0, k1, k2]
    · have HL11 := HL10
      have HG11 := HG10
      have B211 := B210
      obtain ⟨a0, a1, a2⟩ := And.intro H710.out.c0 (And.intro H710.out.c1 H710.out.c2)
      have HC11 := hide (HCp.out _ HX10.out)
      go_wp2_with fail
      refine HC11.out.out.mono ?_
      rintro e w12 ⟨⟨u, rfl, hu⟩, hx12⟩
      clear a0 a1 a2
      have B2e := hide ((hx12.heap (lt_of_obj B211.out)).trans B211.out)
      have f0 := free_block B2e.out 0
      have f1 := free_block B2e.out 1
      have f2 := free_block B2e.out 2
      have k0 := bytes_block B2e.out 0
      have k1 := bytes_block B2e.out 1
      have k2 := bytes_block B2e.out 2
      simp only [List.getElem?_toArray, List.getElem?_cons_zero, List.getElem?_cons_succ] at k0 k1 k2
      have hpg := put3_grown w12 (w.heap.size + 1) 0 1 2 (encStr u.con) (.int .i64 u.var) (.slice u.A u.args.length u.cap)
      have PF : Hid (PutB w (((w12.setCell ⟨w.heap.size + 1, 0, none⟩ (encStr u.con)).setCell ⟨w.heap.size + 1, 1, none⟩ (.int .i64 u.var)).setCell ⟨w.heap.size + 1, 2, none⟩ (.slice u.A u.args.length u.cap)) bb s t u left level (left - x.size)) := hide
        ⟨hu.ty.grown hpg (fun c e => by injection e with e; subst e; exact hu.away _ (by have := lt_of_obj B211.out; exact this)), hu.away bb (by have := HL11.out.lt; exact this), fun c hc _ => hu.away c (by have := lt_of_obj B211.out; omega), by omega, by have := x.size_pos; omega, fun h => ⟨by rw [HZ.out.2.2]; exact hu.is, by rw [HZ.out.1], by rw [HZ.out.2.1]; omega⟩, fun h => .inl (by rw [HZ.out.1]; omega)⟩
      have GF := hide (gb_new (grown_trans HG11.out (ext_grown hx12 _)) hpg (by omega))
      have LF := hide ((HL11.out.ext hx12).grown hpg (by have := HL11.out.lt; omega))
      clear hx12 hu hpg
      go_wp2
      refine bodyPost_ret (v := .agg #[encStr u.con, .int .i64 u.var, .slice u.A u.args.length u.cap]) ?_ rfl ⟨u, left - x.size, rfl, PF.out, GF.out, LF.out⟩
      simp [results, Tryz.f133, go_sem, k0, k1, k2]

end Go.Proofs.YtcnkfkjgpdmebaaGreatDoor
