/- The program's sets: all in order. -/
import Derived.Test.YtjacjpeeinnkcaaGreatJB31
import Derived.WalkSpells
import Derived.WalkLawsBesides
import Derived.BigFrameIn
import Derived.OwnWalkIn
import Derived.Lib.AppendZeros
import Derived.Deep.DeepCutAuto
/- The program's sets: all in order. -/
namespace Go.Proofs.YtjacjpeeinnkcaaGreat
open Go.RowKit Go.Sort Go.Maps

/-- All of a set, rising. -/
def sortedD (D : SD) : List Str := (strKeys D).mergeSort leB

theorem own_monoS {w : World} {base base' : Nat} {e : TypeId} {size : Nat} {v : Value} {n : Nat} {xs : List Value} (h : w.ownsRow base e size v n xs) (hb : base' ≤ base) : w.ownsRow base' e size v n xs := by
  rcases h with ⟨h1, h2 | ⟨g, cap, cur, he, hg, h3⟩⟩
  · exact ⟨h1, .inl h2⟩
  · exact ⟨h1, .inr ⟨g, cap, cur, he, Nat.le_trans hb hg, h3⟩⟩
theorem SetAt.size_le {w : World} {s r n : Nat} {D : SD} (h : SetAt w s r n D) : Maps.size D ≤ n := by
  obtain ⟨es, clock, _, _, hn, rfl⟩ := h.own
  rw [size_eq, length_sorted]
  simpa using hn
theorem SetAt.keys_len {w : World} {s r n : Nat} {D : SD} (h : SetAt w s r n D) : (strKeys D).length = Maps.size D := by
  obtain ⟨es, e, _⟩ := h.tidy
  subst e
  simp [strKeys, size_eq]
theorem sorted_len {w : World} {s r n : Nat} {D : SD} (h : SetAt w s r n D) : (sortedD D).length = Maps.size D := by
  unfold sortedD
  rw [List.length_mergeSort]
  exact h.keys_len

set_option maxHeartbeats 1000000 in
theorem set_list_own {w : World} {s r n : Nat} {D : SD} (h : SetAt w s r n D) (hn : n ≤ 100000) :
    Calls Tryz.prog 112 #[.pointer (some ⟨s, 0, none⟩)] w fun e w' => (∃ v, e = .returned v ∧ w'.ownsRow w.heap.size 9 1 v (sortedD D).length ((sortedD D).map encStr)) ∧ Ext w w' := by
  have hsz := h.size_le
  have Hl := hide (set_len h)
  have hc := h.cell
  have Hh := hide h
  have Hsl := hide (sorted_len h)
  clear h
  by_cases h0 : Maps.size D = 0
  · have h0' : ((Maps.size D : Int) == 0) = true := by simp [h0]
    have he : sortedD D = [] := List.eq_nil_of_length_eq_zero (by rw [Hsl.out, h0])
    rw [he]
    clear he h0
    go_enter Tryz.func112, Tryz.ntmps112
    go_wp2_with fail
    refine Hl.out.mono ?_
    rintro e w1 ⟨rfl, rfl⟩
    go_wp2
    go_ret
    exact ⟨⟨_, rfl, World.ownsRow_nil _ _ _ _⟩, (by repeat (first | exact Ext.refl _ | exact Ext.pre (by simp) | exact Ext.alloc (by assumption) _ | refine Ext.alloc ?_ _ |  refine Ext.more ?_ _ _ | refine Ext.drew ?_ | refine Ext.drewN ?_ _))⟩
  · have h0' : ((Maps.size D : Int) == 0) = false := by simp; omega
    refine (callsIn_wide (n := 6)).1 ?_
    have hfK : Fence.wide.fn 193 := trivial
    have hfS : Fence.wide.fn 192 := trivial
    have hfL : Fence.wide.fn 191 := trivial
    refine callsIn_of_wp Tryz.func112 rfl trivial ?_ rfl
    simp only [Tryz.ntmps112, List.size_toArray, List.length_cons, List.length_nil, Nat.reduceAdd, Nat.reduceSub, Array.replicate_succ, Array.replicate_zero, List.push_toArray, List.append_toArray, List.nil_append, List.cons_append]
    gi_wp2_with (first
      | (gi_at_call 191; refine (callsIn_wide.2 Hl.out).mono ?_; rintro e w' ⟨rfl, rfl⟩)
      | (gi_at_call 193; refine (Tryz.maps_Keys_193 _ _).mono ?_; rintro e w' ⟨rfl, rfl⟩)
      | (gi_at_call 192; refine (Tryz.slices_Sorted_keys_192_193 r n D (plainElem Tryz.prog 3) _ Hh.out.own (by unfold maxLen; omega) (by omega)).mono ?_; rintro e w' ⟨v, ss, rfl, hS, hrow, hnil, hb⟩))
    go_ret
    have e1 : ss.mergeSort leB = sortedD D := mergeSort_of_perm hS
    have e2 : ss.length = (sortedD D).length := by rw [← e1, List.length_mergeSort]
    have hrow' : _ := hrow
    rw [show (ss.mergeSort fun x y => decide (x ≤ y)) = sortedD D from e1, e2] at hrow'
    exact ⟨⟨v, rfl, own_monoS hrow' (by simp)⟩, ((Ext.refl _).alloc _).trans (Ext.of_below hb (Nat.le_refl _))⟩

theorem none_list (w : World) : Calls Tryz.prog 112 #[.pointer none] w fun e w' => e = .returned (.slice none 0 0) ∧ w' = w := by
  go_enter Tryz.func112, Tryz.ntmps112
  go_wp2_with (go_at_call 191; refine (none_len _).mono ?_; rintro e w1 ⟨rfl, rfl⟩)
  go_ret
  exact ⟨rfl, rfl⟩

end Go.Proofs.YtjacjpeeinnkcaaGreat

/- The program's sets as rising lists: all methods, of a set or of none. -/
namespace Go.Proofs.YtjacjpeeinnkcaaGreat
open Go.RowKit Go.Sort Go.Maps

theorem SetAt.sorted {w : World} {s r n : Nat} {D : SD} (h : SetAt w s r n D) : Rising (sortedD D) ∧ ∀ x, x ∈ sortedD D ↔ mem D x = true := by
  obtain ⟨es, hD, hpw, _⟩ := h.own.entries key_law
  obtain ⟨es', hD', hko⟩ := h.own.keysOf
  obtain rfl : es = es' := by rw [hD] at hD'; simpa using hD'
  subst hD
  have hk : ∀ p ∈ es, ∃ x, p.1 = .string x := fun p hp => by obtain ⟨v, hv⟩ := hko p hp; obtain ⟨x, _, hx, _⟩ := Maps.keyOf_str Tryz.underlying9 hv; exact ⟨x, hx⟩
  have hnd : (es.map fun p => strOf p.1).Nodup := by
    refine List.pairwise_map.2 (hpw.imp_of_mem fun {p q} hp' hq' hne e => hne ?_)
    obtain ⟨a, ha⟩ := hk p hp'
    obtain ⟨b, hb⟩ := hk q hq'
    rw [ha, hb] at e ⊢
    exact congrArg _ e
  have hm : ∀ x, x ∈ (es.map fun p => strOf p.1) ↔ has (.map es : SD) (.string x) = true := by
    intro x
    rw [has_eq, List.any_eq_true, List.mem_map]
    constructor
    · rintro ⟨p, hp', rfl⟩
      obtain ⟨a, ha⟩ := hk p hp'
      exact ⟨p, hp', by rw [ha]; simp [Lit.sameKey, strOf]⟩
    · rintro ⟨p, hp', hs⟩
      obtain ⟨a, ha⟩ := hk p hp'
      rw [ha] at hs
      exact ⟨p, hp', by rw [ha]; simpa [Lit.sameKey, strOf] using hs⟩
  have tr : ∀ a b c : Str, leB a b = true → leB b c = true → leB a c = true := fun a b c h1 h2 => by simp only [leB, decide_eq_true_eq] at *; exact List.le_trans h1 h2
  have tot : ∀ a b : Str, (leB a b || leB b a) = true := fun a b => by simp only [leB, Bool.or_eq_true, decide_eq_true_eq]; exact List.le_total a b
  have hp := List.mergeSort_perm (es.map fun p => strOf p.1) leB
  refine ⟨?_, fun x => (hp.mem_iff).trans (hm x)⟩
  have h1 := List.pairwise_mergeSort tr tot (es.map fun p => strOf p.1)
  have h2 : ((es.map fun p => strOf p.1).mergeSort leB).Nodup := hp.nodup_iff.2 hnd
  refine (List.Pairwise.and h1 h2).imp ?_
  rintro a b ⟨h3, h4⟩
  simp only [leB, decide_eq_true_eq] at h3
  rcases slt_total a b with h5 | h5 | h5
  · exact h5
  · exact absurd h5 h4
  · exact absurd h5 (List.not_lt.2 h3)

/-- A set in memory, as the list of its texts. -/
def SetL (w : World) (s r n : Nat) (L : List Str) : Prop := ∃ D, SetAt w s r n D ∧ sortedD D = L

section
variable {w w' : World} {s r n : Nat} {L M : List Str}
theorem SetL.rising (h : SetL w s r n L) : Rising L := by obtain ⟨D, h, rfl⟩ := h; exact h.sorted.1
theorem SetL.ext (h : SetL w s r n L) (e : Ext w w') : SetL w' s r n L := by obtain ⟨D, h, hL⟩ := h; exact ⟨D, h.ext e, hL⟩
theorem SetL.grown (h : SetL w s r n L) {row : Option Nat} (g : w.grownBy w' row) (h1 : row ≠ some s) (h2 : row ≠ some r) : SetL w' s r n L := by obtain ⟨D, h, hL⟩ := h; exact ⟨D, h.grown g h1 h2, hL⟩
theorem SetL.lts (h : SetL w s r n L) : s < w.heap.size := by obtain ⟨D, h, _⟩ := h; exact h.lts
theorem SetL.ltr (h : SetL w s r n L) : r < w.heap.size := by obtain ⟨D, h, _⟩ := h; exact h.ltr
theorem SetL.len_le (h : SetL w s r n L) : L.length ≤ n := by obtain ⟨D, h, rfl⟩ := h; rw [sorted_len h]; exact h.size_le
/-- A row is in another block than a set's map. -/
theorem SetL.row (h : SetL w s r n L) (g : w.grownBy w' (some r)) {A : Option Addr} {k m : Nat} {xs : List Value} (hk : 0 < k) (hr : Row w A k m xs) : Row w' A k m xs := by
  obtain ⟨D, h, _⟩ := h
  rcases Nat.eq_zero_or_pos m with h0 | h0
  · exact ⟨hr.1, fun hm => absurd hm (by omega)⟩
  · refine hr.keep g.size fun b o e hb => g.block b hb fun hbr => ?_
    injection hbr with hbr
    subst hbr
    obtain ⟨b', o', e', _, hc⟩ := hr.2 h0
    rw [e] at e'
    injection e' with e'
    injection e' with e1 e2
    subst e1 e2
    have hl : 0 < xs.length := by rw [hr.1]; exact Nat.mul_pos h0 hk
    have := hc 0 _ (List.getElem?_eq_getElem hl)
    obtain ⟨es, clock, hbk, _⟩ := h.own
    simp [World.cell?, hbk] at this
end

theorem sorted_ofD {w : World} {s r n : Nat} {l : List Str} (h : SetAt w s r n (ofD l)) : sortedD (ofD l) = ofL l :=
  h.sorted.1.ext (ofL_rising l) fun x => by rw [h.sorted.2, ofL_mem, (ofD_map l).2.2, List.any_eq_true]; simp
theorem mem_findB_set {w : World} {s r n : Nat} {D : SD} (h : SetAt w s r n D) (x : Str) : mem D x = findB (sortedD D) x := by
  rw [Bool.eq_iff_iff, mem_findB h.sorted.1, h.sorted.2]
theorem sorted_add {w w' : World} {s r n s' r' n' : Nat} {D : SD} {x : Str} (h : SetAt w s r n D) (h' : SetAt w' s' r' n' (if mem D x then D else D.put (.string x) oneD)) :
    sortedD (if mem D x then D else D.put (.string x) oneD) = addL (sortedD D) x :=
  h'.sorted.1.ext (addL_rising h.sorted.1 x) fun y => by
    rw [h'.sorted.2, addL_mem h.sorted.1, h.sorted.2]
    cases hm : mem D x
    · simp only [Bool.false_eq_true, ↓reduceIte]
      rw [mem_put D h.tidy.isMap]; simp
    · simp only [↓reduceIte]
      constructor
      · exact .inl
      · rintro (h1 | rfl)
        · exact h1
        · exact hm
/-! ### Contracts on sets as lists -/
theorem setl_has {w : World} {s r n : Nat} {L : List Str} (h : SetL w s r n L) (x : Str) (hx : x.length ≤ 9223372036854775807) :
    Calls Tryz.prog 65 #[.pointer (some ⟨s, 0, none⟩), encStr x] w fun e w' => e = .returned (.bool (findB L x)) ∧ w' = w := by
  obtain ⟨D, h, rfl⟩ := h
  rw [← mem_findB_set h]
  exact set_has h x hx
theorem setl_add {w : World} {s r n : Nat} {L : List Str} (h : SetL w s r n L) (x : Str) (hx : x.length ≤ 9223372036854775807) (hn : n < 100000) :
    Calls Tryz.prog 189 #[.pointer (some ⟨s, 0, none⟩), encStr x] w fun e w' => e = .returned (.bool (!findB L x)) ∧ SetL w' s r (n + 1) (addL L x) ∧ w.grownBy w' (some r) := by
  obtain ⟨D, h, rfl⟩ := h
  rw [← mem_findB_set h]
  exact (set_add h x hx hn).mono fun e w' ⟨h1, h2, h3⟩ => ⟨h1, ⟨_, h2, sorted_add h h2⟩, h3⟩
theorem setl_len {w : World} {s r n : Nat} {L : List Str} (h : SetL w s r n L) :
    Calls Tryz.prog 191 #[.pointer (some ⟨s, 0, none⟩)] w fun e w' => e = .returned (.int .i64 L.length) ∧ w' = w := by
  obtain ⟨D, h, rfl⟩ := h
  rw [sorted_len h]
  exact set_len h
theorem setl_list {w : World} {s r n : Nat} {L : List Str} (h : SetL w s r n L) (hn : n ≤ 100000) :
    Calls Tryz.prog 112 #[.pointer (some ⟨s, 0, none⟩)] w fun e w' => (∃ v, e = .returned v ∧ w'.ownsRow w.heap.size 9 1 v L.length (L.map encStr)) ∧ Ext w w' := by
  obtain ⟨D, h, rfl⟩ := h
  exact set_list_own h hn
theorem setl_new (A : Option Addr) (cap : Nat) (l : List Str) (w : World) (h : Strs w A l) (hs : ∀ x ∈ l, x.length ≤ 9223372036854775807) (hn : l.length ≤ 10000) :
    Calls Tryz.prog 110 #[.slice A l.length cap] w fun e w' => (∃ s r n, e = .returned (.pointer (some ⟨s, 0, none⟩)) ∧ w.heap.size ≤ s ∧ w.heap.size ≤ r ∧ n ≤ 10000 ∧ SetL w' s r n (ofL l)) ∧ Ext w w' :=
  (set_new A cap l w h hs hn).mono fun _ _ ⟨⟨s, r, n, h1, h2, h3, h4, h5⟩, h6⟩ => ⟨⟨s, r, n, h1, h2, h3, h4, _, h5, sorted_ofD h5⟩, h6⟩

/-- A set's pointer, or none. -/
def SetO (w : World) (v : Value) (L : List Str) : Prop := (v = .pointer none ∧ L = []) ∨ ∃ s r n, v = .pointer (some ⟨s, 0, none⟩) ∧ n ≤ 20000 ∧ SetL w s r n L
theorem SetO.ext {w w' : World} {v : Value} {L : List Str} (h : SetO w v L) (e : Ext w w') : SetO w' v L := by
  rcases h with h | ⟨s, r, n, h1, h2, h3⟩
  · exact .inl h
  · exact .inr ⟨s, r, n, h1, h2, h3.ext e⟩
theorem SetO.rising {w : World} {v : Value} {L : List Str} (h : SetO w v L) : Rising L := by
  rcases h with ⟨_, rfl⟩ | ⟨s, r, n, h1, h2, h3⟩
  · exact List.Pairwise.nil
  · exact h3.rising
theorem seto_has {w : World} {v : Value} {L : List Str} (h : SetO w v L) (x : Str) (hx : x.length ≤ 9223372036854775807) :
    Calls Tryz.prog 65 #[v, encStr x] w fun e w' => e = .returned (.bool (findB L x)) ∧ w' = w := by
  rcases h with ⟨rfl, rfl⟩ | ⟨s, r, n, rfl, h2, h3⟩
  · exact none_has x w
  · exact setl_has h3 x hx
theorem seto_len {w : World} {v : Value} {L : List Str} (h : SetO w v L) : Calls Tryz.prog 191 #[v] w fun e w' => e = .returned (.int .i64 L.length) ∧ w' = w := by
  rcases h with ⟨rfl, rfl⟩ | ⟨s, r, n, rfl, h2, h3⟩
  · exact none_len w
  · exact setl_len h3
theorem seto_list {w : World} {v : Value} {L : List Str} (h : SetO w v L) :
    Calls Tryz.prog 112 #[v] w fun e w' => (∃ v, e = .returned v ∧ w'.ownsRow w.heap.size 9 1 v L.length (L.map encStr)) ∧ Ext w w' := by
  rcases h with ⟨rfl, rfl⟩ | ⟨s, r, n, rfl, h2, h3⟩
  · exact (none_list w).mono fun _ _ ⟨h1, h2⟩ => by subst h2; exact ⟨⟨_, h1, World.ownsRow_nil _ _ _ _⟩, Ext.refl _⟩
  · exact setl_list h3 (by omega)

end Go.Proofs.YtjacjpeeinnkcaaGreat


/- Contracts: the names of a term that nobody around binds. -/
namespace Go.Proofs.YtjacjpeeinnkcaaGreat
open Go.RowKit Go.Sort

theorem bindsM_len (t : Tm) : (bindsM t).length ≤ t.size := by
  by_cases h3 : t.kind = 3
  · rw [bindsM_lam h3]; have := t.size_pos; simp; omega
  by_cases h10 : t.kind = 10
  · rw [bindsM_let h10]; have := bnsM_len t.kids; have := t.kids_len; omega
  by_cases h9 : t.kind = 9
  · rw [bindsM_alt h9]
    cases hk : t.kids with
    | nil => simp
    | cons p l =>
      have h1 := pvM_len p
      have h2 := Tm.size_kid (t := t) (k := p) (by rw [hk]; simp)
      show (pvM p).length ≤ _
      omega
  · rw [bindsM_none h3 h10 h9]; simp
theorem room_kid {a b m c M k n : Nat} (h1 : k + 1 ≤ n) (h2 : c ≤ M) (h : a + n * M ≤ b) (hm : m = a + c) : m + k * M ≤ b := by
  have h3 : (k + 1) * M ≤ n * M := Nat.mul_le_mul_right M h1
  rw [Nat.succ_mul] at h3
  omega

set_option maxRecDepth 10000 in
set_option maxHeartbeats 4000000 in
theorem m_freeI (M : Nat) (hM : M ≤ 10000) (t : Tm) : ∀ (w0 w : World) (s r n : Nat) (L : List Str) (A : Option Addr) (cap : Nat) (b : List Str), TmIn w0 t → Below w0.heap.size w0 w → w0.heap.size ≤ s → w0.heap.size ≤ r → SetL w s r n L → Strs w A b → t.size ≤ M → b.length + t.size * M ≤ 100000000 → n + t.size ≤ 50000 →
    Calls Tryz.prog 111 #[.pointer (some ⟨s, 0, none⟩), tmV t, .slice A b.length cap] w fun e w' => e = .returned (.tuple #[]) ∧ (∃ n', n' ≤ n + t.size ∧ SetL w' s r n' ((freeM t b).foldl addL L)) ∧ w.grownBy w' (some r) := by
  induction t using Tm.ind with
  | h t ih =>
  intro w0 w s r n L A cap b ht hB hs hr hS hb hsz hbl hn
  have IH := hide ih
  have hle := ht.hd.le
  have hmx := ht.hd.max
  have htx := ht.hd.txt
  have hpos := t.size_pos
  have Hk := hide ht.all
  have Hw := hide (ht.old hB)
  have HB0 := hide (TmBox.new w t)
  have X0 : Hid (Ext w (w.alloc (.cells #[.int .i64 t.kind, .int .i64 t.n, encStr t.name, .slice t.V t.vars.length t.vc, .slice t.T t.types.length t.tc, .slice t.A t.kids.length t.cap] 31))) := hide ((Ext.refl w).alloc _)
  have HE := hide (freeM_eq t b)
  have hrl := hS.ltr
  have hsl := hS.lts
  have HBw := hide hB
  have HS := hide hS
  have Hb := hide hb
  have hbl2 : b.length ≤ 100000000 := by omega
  have HSt := hide (fun bb k (hk : k < t.kids.length) => freesM_take t.kids bb hk)
  have HSz := hide (fun k (hk : k ∈ t.kids) => Tm.size_kid hk)
  have HMs : Hid (t.size = msizes t.kids + 1) := hide (Tm.size_eq t)
  have HMt := hide (fun k (hk : k < t.kids.length) => msizes_take t.kids hk)
  have HMl := hide (fun k => msizes_le t.kids k)
  obtain ⟨c0, c1, c2, c3, c4, c5⟩ := HB0.out.cells
  clear ih ht hB hS hb
  by_cases h1 : t.kind = 1
  · have HE1 : Hid (freeM t b = if b.any (· == t.name) then [] else [t.name]) := hide (by rw [HE.out, if_pos h1])
    have hk1 : (t.kind == 1) = true := by simpa using h1
    have HH := hide (fun w' (e : Ext w w') => hide (has_s A cap b t.name w' (Hb.out.ext e) (by omega)))
    clear HE h1
    generalize freeM t b = R at *
    generalize (b.any fun x => x == t.name) = H at *
    unfold tmV
    cases H
    · have hR := HE1.out
      simp only [Bool.false_eq_true, if_false] at hR
      subst hR
      have HA := hide (fun w' (e : Ext w w') => hide (setl_add (HS.out.ext e) t.name htx (by omega)))
      clear HE1
      go_enter Tryz.func111, Tryz.ntmps111
      go_wp2_with fail
      refine (HH.out _ X0.out).out.mono ?_
      rintro e w2 ⟨rfl, rfl⟩
      go_wp2_with fail
      refine (HA.out _ X0.out).out.mono ?_
      rintro e w3 ⟨rfl, hS3, hg3⟩
      have S3 := hide hS3
      have G3 := hide (grown_tr (ext_grown X0.out (some r)) hg3)
      clear hS3 hg3
      go_wp2
      ((try simp only [Exit.inBlock, Exit.then]); refine bodyPost_ret (results_none rfl _ _ _) rfl ?_)
      exact ⟨rfl, ⟨_, by omega, S3.out⟩, G3.out⟩
    · have hR := HE1.out
      simp only [if_true] at hR
      subst hR
      clear HE1
      go_enter Tryz.func111, Tryz.ntmps111
      go_wp2_with fail
      refine (HH.out _ X0.out).out.mono ?_
      rintro e w2 ⟨rfl, rfl⟩
      go_wp2
      ((try simp only [Exit.inBlock, Exit.then]); refine bodyPost_ret (results_none rfl _ _ _) rfl ?_)
      exact ⟨rfl, ⟨n, by omega, HS.out.ext X0.out⟩, ext_grown X0.out _⟩
  · have HE1 : Hid (freeM t b = freesM t.kids (b ++ bindsM t)) := hide (by rw [HE.out, if_neg h1])
    have hk1 : (t.kind == 1) = false := by simpa using h1
    have HBi := hide (fun w' (e : Ext w w') => hide (m_binds t w' (Hw.out.ext e) (by omega)))
    have hbb := bindsM_len t
    have HC := hide (fun (w' : World) (g c2 : Nat) (A2 : Option Addr) (ty : TypeId) (h1 : w'.heap[g]? = some (.cells #[.slice A b.length cap, .slice A2 (bindsM t).length c2] ty (0, 0))) (h2 : Strs w' A b) (h3 : Strs w' A2 (bindsM t)) => hide (concat2 g cap c2 A A2 b (bindsM t) ty w' h1 h2 h3 (by have := Nat.mul_le_mul_right M hpos; omega)))
    have hb' : (b ++ bindsM t).length = b.length + (bindsM t).length := by simp
    have Hrm : Hid (∀ k ∈ t.kids, (b ++ bindsM t).length + k.size * M ≤ 100000000) := hide (fun k hk => room_kid (Tm.size_kid hk) (by omega) hbl hb')
    clear HE h1 hb' hbl
    generalize freeM t b = R at *
    generalize b ++ bindsM t = b' at *
    generalize bindsM t = B at *
    unfold tmV at HBi ⊢
    generalize hA0 : t.A = A0 at *
    have HA0 := hide hA0
    clear hA0
    go_enter Tryz.func111, Tryz.ntmps111
    go_wp2_with fail
    refine (HBi.out _ X0.out).out.mono ?_
    rintro e w2 ⟨⟨A2, c2', rfl, hN⟩, hx⟩
    have N2 := hide hN
    have Y2 := hide hx
    have X2 := hide (X0.out.trans hx)
    clear hN hx
    go_wp2_with fail
    refine (HC.out _ w2.heap.size c2' A2 _ (at_newB _ _ _ rfl) (Hb.out.ext (X2.out.alloc _)) (N2.out.row.ext ((Ext.refl _).alloc _))).out.mono ?_
    rintro e w3 ⟨⟨A3, cp3, rfl, q1, q2, hR3, -⟩, hx3⟩
    have Y3 := hide (Y2.out.trans (((Ext.refl w2).alloc _).trans hx3))
    have X3 := hide (X0.out.trans Y3.out)
    have R3 := hide hR3
    have S3 := hide (HS.out.ext X3.out)
    have B3 := hide (HB0.out.ext Y3.out)
    obtain ⟨-, -, -, -, -, d5⟩ := B3.out.cells
    have hw3 := X3.out.size
    rw [HA0.out] at d5
    clear hR3 hx3 c0 c1 c2 c3 c4 c5 HC HBi N2 HB0 B3 HA0
    go_wp2
    go_loopw [28] (fun i wr => ∃ k n' : Nat, k ≤ t.kids.length ∧ i = .int .i64 k ∧ n' ≤ n + msizes (t.kids.take k) ∧ Hid (w3.grownBy wr (some r)) ∧ Hid (SetL wr s r n' ((freesM (t.kids.take k) b').foldl addL L)) ∧ Hid (Strs wr A3 b')) (fun i _ => t.kids.length - (intOf i).toNat)
    case atStart => exact ⟨0, n, Nat.zero_le _, rfl, by omega, hide (World.grownBy.refl _ _), hide (by simpa [freesM] using S3.out), R3⟩
    case round =>
      obtain ⟨k, n', hk, rfl, hn', HG, HL, HR⟩ := hrel
      by_cases hlt : k < t.kids.length
      · have hlt' : (k : Int) < (t.kids.length : Int) := by omega
        have hk0 : (0 : Int) ≤ (k : Int) := by omega
        have HKw : Hid (Below w0.heap.size w0 wr) := hide ((HBw.out.trans (X3.out.below.mono HBw.out.size)).grown HG.out (Nat.le_trans HBw.out.size hw3) (fun j e => by injection e with e; omega))
        obtain ⟨bb, o, rfl, hbb, q0, q1, q2, q3, q4, q5⟩ := (Hk.out.old HKw.out).at_ hlt
        have hck := List.getElem_mem hlt
        have hcs := HSz.out _ hck
        have hms := HMt.out k hlt
        have hml := HMl.out (k + 1)
        have hmt := HMs.out
        have Hst := hide (HSt.out b' k hlt)
        have HCk := hide (IH.out _ hck w0 (wr.alloc (.cells #[.int .i64 (t.kids[k]'hlt).kind, .int .i64 (t.kids[k]'hlt).n, encStr (t.kids[k]'hlt).name, .slice (t.kids[k]'hlt).V (t.kids[k]'hlt).vars.length (t.kids[k]'hlt).vc, .slice (t.kids[k]'hlt).T (t.kids[k]'hlt).types.length (t.kids[k]'hlt).tc, .slice (t.kids[k]'hlt).A (t.kids[k]'hlt).kids.length (t.kids[k]'hlt).cap] 31)) s r n' ((freesM (t.kids.take k) b').foldl addL L) A3 cp3 b' (Hk.out.kids _ hck)
          (HKw.out.alloc (by have := HKw.out.size; omega) _) hs hr (HL.out.ext ((Ext.refl _).alloc _)) (HR.out.ext ((Ext.refl _).alloc _)) (by omega) (Hrm.out _ hck) (by omega))
        have HGa : Hid (w3.grownBy (wr.alloc (.cells #[.int .i64 (t.kids[k]'hlt).kind, .int .i64 (t.kids[k]'hlt).n, encStr (t.kids[k]'hlt).name, .slice (t.kids[k]'hlt).V (t.kids[k]'hlt).vars.length (t.kids[k]'hlt).vc, .slice (t.kids[k]'hlt).T (t.kids[k]'hlt).types.length (t.kids[k]'hlt).tc, .slice (t.kids[k]'hlt).A (t.kids[k]'hlt).kids.length (t.kids[k]'hlt).cap] 31)) (some r)) := hide (grown_tr HG.out (ext_grown ((Ext.refl _).alloc _) _))
        have HRa : Hid (Strs (wr.alloc (.cells #[.int .i64 (t.kids[k]'hlt).kind, .int .i64 (t.kids[k]'hlt).n, encStr (t.kids[k]'hlt).name, .slice (t.kids[k]'hlt).V (t.kids[k]'hlt).vars.length (t.kids[k]'hlt).vc, .slice (t.kids[k]'hlt).T (t.kids[k]'hlt).types.length (t.kids[k]'hlt).tc, .slice (t.kids[k]'hlt).A (t.kids[k]'hlt).kids.length (t.kids[k]'hlt).cap] 31)) A3 b') := hide (HR.out.ext ((Ext.refl _).alloc _))
        have HLa : Hid (SetL (wr.alloc (.cells #[.int .i64 (t.kids[k]'hlt).kind, .int .i64 (t.kids[k]'hlt).n, encStr (t.kids[k]'hlt).name, .slice (t.kids[k]'hlt).V (t.kids[k]'hlt).vars.length (t.kids[k]'hlt).vc, .slice (t.kids[k]'hlt).T (t.kids[k]'hlt).types.length (t.kids[k]'hlt).tc, .slice (t.kids[k]'hlt).A (t.kids[k]'hlt).kids.length (t.kids[k]'hlt).cap] 31)) s r n' ((freesM (t.kids.take k) b').foldl addL L)) := hide (HL.out.ext ((Ext.refl _).alloc _))
        clear hck
        generalize t.kids[k]'hlt = c at *
        unfold tmV at HCk
        go_wp2_with fail
        refine HCk.out.mono ?_
        rintro e w4 ⟨rfl, ⟨n4, hn4, hS4⟩, hg4⟩
        have S4 := hide hS4
        have G4 := hide (grown_tr HGa.out hg4)
        have R4 : Hid (Strs w4 A3 b') := hide (HLa.out.row hg4 (by decide) HRa.out)
        clear hS4 hg4
        go_wp2
        go_roundw
        case rel => exact ⟨k + 1, n4, hlt, by go_num, by omega, G4, hide (by rw [Hst.out, List.foldl_append]; exact S4.out), R4⟩
        case measure => simp [intOf]; omega
      · have hge : ¬ (k : Int) < (t.kids.length : Int) := by omega
        have hkn : t.kids.take k = t.kids := List.take_of_length_le (by omega)
        have HF : Hid (SetL wr s r n' (R.foldl addL L)) := hide (by rw [HE1.out]; have := HL.out; rwa [hkn] at this)
        have hml := HMl.out k
        have hmt := HMs.out
        clear hkn HL
        go_wp2
        go_end0
        exact ⟨rfl, ⟨n', by omega, HF.out⟩, grown_tr (ext_grown X3.out _) HG.out⟩


set_option maxRecDepth 10000 in
set_option maxHeartbeats 4000000 in
theorem m_free (t : Tm) (w : World) (h : TmIn w t) (hsz : t.size ≤ 10000) :
    Calls Tryz.prog 54 #[tmV t] w fun e w' => (∃ v, e = .returned v ∧ w'.ownsRow w.heap.size 9 1 v (frL t).length ((frL t).map encStr)) ∧ Ext w w' := by
  have X1 : Hid (Ext w (w.alloc (.cells #[.int .i64 t.kind, .int .i64 t.n, encStr t.name, .slice t.V t.vars.length t.vc, .slice t.T t.types.length t.tc, .slice t.A t.kids.length t.cap] 31))) := hide ((Ext.refl _).alloc _)
  have HB1 := hide (TmBox.new w t)
  have HF := hide (fun w' s r n (e : Ext w w') hs hr (hS : SetL w' s r n []) hn => hide (m_freeI 10000 (Nat.le_refl _) t w w' s r n [] none 0 [] h e.below hs hr hS (Strs.nil _) hsz (by simp; omega) hn))
  have HR : Hid ((freeM t []).foldl addL [] = frL t) := hide rfl
  rw [HR.out] at HF
  have hl := t.size_pos
  clear h HR
  generalize frL t = R at *
  unfold tmV at *
  go_enter Tryz.func54, Tryz.ntmps54
  go_wp2_with fail
  refine (setl_new none 0 [] _ (Strs.nil _) (by simp) (by simp)).mono ?_
  rintro e w2 ⟨⟨s1, r1, n1, rfl, a1, a2, a3, hS1⟩, hx2⟩
  have S1 := hide hS1
  have X2 := hide (X1.out.trans hx2)
  have HB2 := hide (HB1.out.ext hx2)
  obtain ⟨c0, c1, c2, c3, c4, c5⟩ := HB2.out.cells
  simp only [World.size_alloc] at a1 a2
  clear hS1 hx2
  go_wp2_with fail
  refine (HF.out _ s1 r1 n1 X2.out (by omega) (by omega) S1.out (by omega)).out.mono ?_
  rintro e w3 ⟨rfl, ⟨n3, hn3, hS3⟩, hg3⟩
  have HL := hide (setl_list hS3 (by omega))
  have X3 := hide (X2.out.grown hg3 (fun j e => by injection e with e; omega))
  have hs3 := X3.out.size
  clear hS3 hg3
  go_wp2_with fail
  refine HL.out.mono ?_
  rintro e w4 ⟨⟨v4, rfl, hO4⟩, hx4⟩
  have O4 := hide hO4
  clear hO4
  go_wp2
  go_ret
  exact ⟨⟨v4, rfl, own_mono O4.out hs3⟩, X3.out.trans hx4⟩

end Go.Proofs.YtjacjpeeinnkcaaGreat

/- Contracts on slices.Grow from nil, and slices.Concat of two, of ints. -/
namespace Go.Proofs.YtjacjpeeinnkcaaGreat
open Go.RowKit Go.Sort

theorem cat_infoI : (Tryz.prog.info? 3).map (fun i => (i.zero, i.size, i.bytes)) = some (some (.int .i64 0), 1, 8) := by kernel_rfl

set_option maxRecDepth 10000 in
set_option maxHeartbeats 1000000 in
theorem grow_sI (n : Nat) (w : World) (hn : n ≤ 100000000) :
    Calls Tryz.prog 203 #[.slice none 0 0, .int .i64 n] w fun e w' => (∃ v, e = .returned v ∧ w'.ownsRow w.heap.size 3 1 v 0 []) ∧ Ext w w' := by
  obtain ⟨i0, hi, hz0, hz1, hz2⟩ := info_parts cat_infoI
  have h1 : ¬ ((n : Int) < 0) := by omega
  have h3 : wrap64 ((n : Int) - 0) = (n : Int) := by unfold wrap64; omega
  rcases Nat.eq_zero_or_pos n with h0 | h0
  · subst h0
    go_enter Tryz.func203, Tryz.ntmps203
    go_wp2
    go_ret
    exact ⟨⟨_, rfl, World.ownsRow_nil _ _ _ _⟩, (by repeat (first | exact Ext.refl _ | exact Ext.pre (by simp) | exact Ext.alloc (by assumption) _ | refine Ext.alloc ?_ _ |  refine Ext.more ?_ _ _ | refine Ext.drew ?_ | refine Ext.drewN ?_ _))⟩
  · have h4 : (n : Int) > 0 := by omega
    have h5 : ¬ ((n : Int) < 0) := by omega
    have h6 : (n : Int) ≤ 100000000 := by omega
    have hc := grownCap_ge w n 0 3
    have hm := grownCap_le_maxLen w n 0 3 (by unfold maxLen; omega)
    have hr := Lib.run_append_nil_zeros (P := Tryz.prog) w 29 3 29 3 i0 _ .i64 .i64 Tryz.underlying29 Tryz.underlying3 hi hz0 n h0 (by rw [hz1]; omega) (by omega) (by rw [hz2]; omega)
    have hsz : (Builtin.zeroCells (Value.int .i64 0).cells n ++ Builtin.zeroCells (Value.int .i64 0).cells (grownCap w n 0 3 - n)).size = grownCap w n 0 3 * 1 := by
      rw [Array.size_append, size_zeroCells, size_zeroCells]
      show n * 1 + (grownCap w n 0 3 - n) * 1 = _
      omega
    have hown := World.ownsRow_made (base := w.heap.size) (e := 3) (size := 1) w.drew (Builtin.zeroCells (Value.int .i64 0).cells n ++ Builtin.zeroCells (Value.int .i64 0).cells (grownCap w n 0 3 - n)) (grownCap w n 0 3) (Nat.le_refl _) hm hsz
    generalize Builtin.zeroCells (Value.int .i64 0).cells n ++ Builtin.zeroCells (Value.int .i64 0).cells (grownCap w n 0 3 - n) = Z at *
    have Hown := hide hown
    have Hr := hide hr
    have hcI : (0 : Int) ≤ (grownCap w n 0 3 : Nat) := by omega
    clear hown hr hm hsz hc hcI
    generalize grownCap w n 0 3 = CC at *
    go_enter Tryz.func203, Tryz.ntmps203
    go_wp2_with (at_builtin; refine Lib.wpList_append_run _ rfl _ _ _ _ rfl _ _ rfl rfl _ _ Hr.out ?_)
    go_ret
    exact ⟨⟨_, rfl, Hown.out⟩, (by repeat (first | exact Ext.refl _ | exact Ext.pre (by simp) | exact Ext.alloc (by assumption) _ | refine Ext.alloc ?_ _ |  refine Ext.more ?_ _ _ | refine Ext.drew ?_ | refine Ext.drewN ?_ _))⟩

theorem grow_mI (m : Int) (w : World) (h0 : 0 ≤ m) (hn : m ≤ 100000000) :
    Calls Tryz.prog 203 #[.slice none 0 0, .int .i64 m] w fun e w' => (∃ v, e = .returned v ∧ w'.ownsRow w.heap.size 3 1 v 0 []) ∧ Ext w w' := by
  obtain ⟨n, rfl⟩ := Int.eq_ofNat_of_zero_le h0
  exact grow_sI n w (by omega)

set_option maxRecDepth 10000 in
set_option maxHeartbeats 2000000 in
theorem concat2I (b c1 c2 : Nat) (A1 A2 : Option Addr) (l1 l2 : List Int) (t : TypeId) (w : World) (hb : w.heap[b]? = some (.cells #[.slice A1 l1.length c1, .slice A2 l2.length c2] t (0, 0)))
    (h1 : Ints w A1 l1) (h2 : Ints w A2 l2) (hlen : l1.length + l2.length ≤ 100000000) :
    Calls Tryz.prog 126 #[.slice (some ⟨b, 0, none⟩) 2 2] w fun e w' => (∃ A cap, e = .returned (.slice A (l1 ++ l2).length cap) ∧ (l1 ++ l2).length ≤ cap ∧ cap ≤ 9223372036854775807 ∧ Ints w' A (l1 ++ l2) ∧ ∀ c o, A = some ⟨c, o, none⟩ → w.heap.size ≤ c) ∧ Ext w w' := by
  obtain ⟨i0, hi, hz0, hz1, hz2⟩ := info_parts cat_infoI
  have H1 := hide h1
  have H2 := hide h2
  have hbl := lt_of_obj hb
  have q0 : w.cell? ⟨b, 0, none⟩ = some (.slice A1 l1.length c1) := by simp [World.cell?, hb]
  have q1 : w.cell? ⟨b, 1, none⟩ = some (.slice A2 l2.length c2) := by simp [World.cell?, hb]
  have a1 : ((l1.length : Int)) ≤ 100000000 := by omega
  have a2 : ((l2.length : Int)) ≤ 100000000 := by omega
  have a3 : (0 : Int) ≤ ((l1.length : Int)) := by omega
  have a4 : (0 : Int) ≤ ((l2.length : Int)) := by omega
  have a5 : ¬ ((l1.length : Int)) < 0 := by omega
  have a6 : ¬ ((l1.length : Int) + (l2.length : Int)) < 0 := by omega
  clear h1 h2 hb
  go_enter Tryz.func126, Tryz.ntmps126
  go_wp2
  go_loop [3, 11] (fun s i => (i = .int .i64 0 ∧ s = .int .i64 0) ∨ (i = .int .i64 1 ∧ s = .int .i64 l1.length) ∨ (i = .int .i64 2 ∧ s = .int .i64 ((l1.length : Int) + (l2.length : Int)))) (fun _ i => 2 - (intOf i).toNat)
  case atStart => exact .inl ⟨rfl, rfl⟩
  case round =>
    rcases hrel with ⟨rfl, rfl⟩ | ⟨rfl, rfl⟩ | ⟨rfl, rfl⟩
    · go_wp2
      go_round
      case rel => exact .inr (.inl ⟨rfl, rfl⟩)
      case measure => simp [intOf]
    · go_wp2
      go_round
      case rel => exact .inr (.inr ⟨rfl, rfl⟩)
      case measure => simp [intOf]
    · have Hg := hide (grow_mI ((l1.length : Int) + (l2.length : Int)) w (by omega) (by omega))
      go_wp2_with fail
      refine Hg.out.mono ?_
      rintro e w1 ⟨⟨v1, rfl, ho1⟩, l3, d3, rfl⟩
      have Ho1 := hide ho1
      clear ho1 Hg
      go_wp2
      go_loopw [6, 27] (fun v i wr => Hid (Ext w wr) ∧ ((i = .int .i64 0 ∧ Hid (wr.ownsRow w.heap.size 3 1 v 0 [])) ∨ (i = .int .i64 1 ∧ Hid (wr.ownsRow w.heap.size 3 1 v l1.length (l1.map (Value.int .i64)))) ∨ (i = .int .i64 2 ∧ Hid (wr.ownsRow w.heap.size 3 1 v (l1 ++ l2).length ((l1 ++ l2).map (Value.int .i64)))))) (fun _ i _ => 2 - (intOf i).toNat)
      case atStart => exact ⟨hide (by repeat (first | exact Ext.refl _ | exact Ext.pre (by simp) | exact Ext.alloc (by assumption) _ | refine Ext.alloc ?_ _ |  refine Ext.more ?_ _ _ | refine Ext.drew ?_ | refine Ext.drewN ?_ _)), .inl ⟨rfl, Ho1⟩⟩
      case round =>
        obtain ⟨HX, hh⟩ := hrel
        have r0 : wr.cell? ⟨b, 0, none⟩ = some (.slice A1 l1.length c1) := (World.cell?_of_block (a := ⟨b, 0, none⟩) (HX.out.heap hbl)).trans q0
        have r1 : wr.cell? ⟨b, 1, none⟩ = some (.slice A2 l2.length c2) := (World.cell?_of_block (a := ⟨b, 1, none⟩) (HX.out.heap hbl)).trans q1
        rcases hh with ⟨rfl, HO⟩ | ⟨rfl, HO⟩ | ⟨rfl, HO⟩
        · go_wp2_with (at_builtin; refine wpList_append_row _ rfl _ _ 29 rfl w.heap.size 3 i0 _ 1 8 Tryz.underlying29 hi hz0 hz1 hz2 rfl (by decide) u6 0 [] rfl HO.out A1 l1.length c1 (l1.map (Value.int .i64)) rfl ?c2 ?c3 ?c4 ?c5 ?c6 ?_)
          case c2 => exact Ints.row (RowOf.ext _ H1.out HX.out)
          case c3 => exact one_ints _
          case c4 => unfold maxLen; omega
          case c5 => omega
          case c6 => exact HX.out.size
          intro v3 w4 hown3 hg3 _
          have He3 := hide (Ext.app HX.out hg3 HO.out (Nat.le_refl _))
          have Ho3 := hide hown3
          clear hown3 hg3
          go_wp2
          go_roundw
          case rel => exact ⟨He3, .inr (.inl ⟨rfl, Ho3⟩)⟩
          case measure => simp [intOf]
        · go_wp2_with (at_builtin; refine wpList_append_row _ rfl _ _ 29 rfl w.heap.size 3 i0 _ 1 8 Tryz.underlying29 hi hz0 hz1 hz2 rfl (by decide) u6 l1.length (l1.map (Value.int .i64)) rfl HO.out A2 l2.length c2 (l2.map (Value.int .i64)) rfl ?c2 ?c3 ?c4 ?c5 ?c6 ?_)
          case c2 => exact Ints.row (RowOf.ext _ H2.out HX.out)
          case c3 => exact one_ints _
          case c4 => unfold maxLen; omega
          case c5 => omega
          case c6 => exact HX.out.size
          intro v3 w4 hown3 hg3 _
          have He3 := hide (Ext.app HX.out hg3 HO.out (Nat.le_refl _))
          rw [← List.map_append, ← List.length_append] at hown3
          have Ho3 := hide hown3
          clear hown3 hg3
          go_wp2
          go_roundw
          case rel => exact ⟨He3, .inr (.inr ⟨rfl, Ho3⟩)⟩
          case measure => simp [intOf]
        · have HO2 := hide (Ints.own HO.out)
          clear HO
          obtain ⟨A, cap, rfl, g1, g2, g3, g4⟩ := HO2.out
          have G4 := hide g4
          clear g4
          have G3 := hide g3
          have HLe : ∃ X, X = l1 ++ l2 := ⟨_, rfl⟩
          obtain ⟨X, hX⟩ := HLe
          rw [← hX] at g1 G3
          have HXe := hide hX
          clear hX g3 HO2
          go_wp2
          go_ret
          exact ⟨⟨A, cap, rfl, by rw [← HXe.out]; exact g1, g2, by rw [← HXe.out]; exact G3.out, fun c o h => (G4.out c o h).1⟩, HX.out⟩

end Go.Proofs.YtjacjpeeinnkcaaGreat

/- Contracts: the variables of a term's types that nobody around binds. -/
namespace Go.Proofs.YtjacjpeeinnkcaaGreat
open Go.RowKit Go.Sort

/-- What is bound within a term. -/
def vbM (t : Tm) (b : List Int) : List Int := if t.kind = 5 ∨ t.kind = 11 then b ++ t.vars else b
/-- Variables of types that are not bound, each type's once. -/
noncomputable def tvL (b : List Int) (l : List Ty) : List Int := l.flatMap fun x => (onceI x.vars).filter fun v => !(b.any (· == v))
/-- Variables that nobody around binds. -/
noncomputable def vsM : Tm → List Int → List Int := Tm.fold fun t l b => tvL (vbM t b) t.types ++ (l.map fun f => f (vbM t b)).flatten
noncomputable def vsMs (b : List Int) (l : List Tm) : List Int := l.flatMap fun k => vsM k b
theorem vsM_eq (t : Tm) (b : List Int) : vsM t b = tvL (vbM t b) t.types ++ vsMs (vbM t b) t.kids := by
  unfold vsM
  rw [Tm.fold_eq]
  simp only [vsMs, List.map_map, List.flatMap_def]
  rfl
theorem vsMs_take (b : List Int) (l : List Tm) {k : Nat} (h : k < l.length) : vsMs b (l.take (k + 1)) = vsMs b (l.take k) ++ vsM (l[k]'h) b := by
  unfold vsMs
  rw [List.take_succ_eq_append_getElem h, List.flatMap_append]
  simp
theorem tvL_take (b : List Int) (l : List Ty) {k : Nat} (h : k < l.length) : tvL b (l.take (k + 1)) = tvL b (l.take k) ++ (onceI (l[k]'h).vars).filter fun v => !(b.any (· == v)) := by
  unfold tvL
  rw [List.take_succ_eq_append_getElem h, List.flatMap_append]
  simp
/-- How many there may be. -/
noncomputable def vszM : Tm → Nat := Tm.fold fun t l => (t.types.map Ty.size).sum + l.sum
theorem vszM_eq (t : Tm) : vszM t = (t.types.map Ty.size).sum + (t.kids.map vszM).sum := Tm.fold_eq _ t
theorem tvL_len (b : List Int) (l : List Ty) : (tvL b l).length ≤ (l.map Ty.size).sum := by
  induction l with
  | nil => simp [tvL]
  | cons x l ih =>
    have h1 : ((onceI x.vars).filter fun v => !(b.any (· == v))).length ≤ x.size := Nat.le_trans (List.length_filter_le _ _) (Nat.le_trans (onceI_len _) (vars_len _))
    unfold tvL at *
    simp only [List.flatMap_cons, List.length_append, List.map_cons, List.sum_cons]
    omega
theorem vsM_len (t : Tm) : ∀ b, (vsM t b).length ≤ vszM t := by
  induction t using Tm.ind with
  | h t ih =>
  intro b
  rw [vsM_eq, vszM_eq, List.length_append]
  have h1 := tvL_len (vbM t b) t.types
  have h2 : ∀ l : List Tm, (∀ k ∈ l, ∀ b, (vsM k b).length ≤ vszM k) → (vsMs (vbM t b) l).length ≤ (l.map vszM).sum := by
    intro l
    induction l with
    | nil => intro _; simp [vsMs]
    | cons x l ihl =>
      intro h
      have g1 := h x (by simp) (vbM t b)
      have g2 := ihl (fun k hk => h k (List.mem_cons_of_mem _ hk))
      unfold vsMs at *
      simp only [List.flatMap_cons, List.length_append, List.map_cons, List.sum_cons]
      omega
  have := h2 t.kids ih
  omega
theorem sum_take_le {α : Type} (f : α → Nat) (l : List α) {k : Nat} (h : k < l.length) : ((l.take k).map f).sum + f (l[k]'h) ≤ (l.map f).sum := by
  have e : l.map f = (l.take k).map f ++ (f (l[k]'h) :: (l.drop (k + 1)).map f) := by
    rw [← List.map_cons, ← List.map_append]
    congr 1
    rw [← List.drop_eq_getElem_cons h, List.take_append_drop]
  rw [e, List.sum_append, List.sum_cons]
  omega
theorem vsMs_len (b : List Int) (l : List Tm) : (vsMs b l).length ≤ (l.map vszM).sum := by
  induction l with
  | nil => simp [vsMs]
  | cons x l ihl =>
    have g1 := vsM_len x b
    unfold vsMs at *
    simp only [List.flatMap_cons, List.length_append, List.map_cons, List.sum_cons]
    omega
theorem onceGo_one (out : List Int) (x : Int) : onceGo out [x] = if out.any (· == x) then out else out ++ [x] := by
  have : out.contains x = out.any (· == x) := by
    rw [Bool.eq_iff_iff, List.contains_iff_mem, List.any_eq_true]
    simp
  unfold onceGo onceGo
  rw [this]
theorem onceGo_step (out l : List Int) (p : Int → Bool) {j : Nat} (h : j < l.length) : onceGo out ((l.take (j + 1)).filter p) = if p (l[j]'h) && !(onceGo out ((l.take j).filter p)).any (· == l[j]'h) then onceGo out ((l.take j).filter p) ++ [l[j]'h] else onceGo out ((l.take j).filter p) := by
  rw [List.take_succ_eq_append_getElem h, List.filter_append, onceGo_app]
  cases hp : p (l[j]'h)
  · simp [hp, onceGo]
  · rw [show [l[j]'h].filter p = [l[j]'h] by simp [hp], onceGo_one]
    cases (onceGo out ((l.take j).filter p)).any (· == l[j]'h) <;> simp

end Go.Proofs.YtjacjpeeinnkcaaGreat
