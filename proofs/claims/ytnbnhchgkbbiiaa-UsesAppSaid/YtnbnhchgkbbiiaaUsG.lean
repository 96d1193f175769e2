/- Contracts: the functions that uses' walk is handed and makes: whether a name is bound; a use that is told. -/
import Derived.Test.YtnbnhchgkbbiiaaUsD
import Derived.Test.YtnbnhchgkbbiiaaUsF
import Derived.Test.YtnbnhchgkbbiiaaSeekS
namespace Go.Proofs.Ytnbnhchgkbbiiaa
open Go.RowKit

/-- From w to w' nothing has turned but block `c` and the block of what is told, which was `v` and is `v'`. -/
structure Tr (c : Nat) (w : World) (v : Value) (w' : World) (v' : Value) : Prop where
  os : w'.os = w.os
  tape : w'.tape = w.tape
  output : w'.output = w.output
  size : w.heap.size ≤ w'.heap.size
  blk : ∀ k, k < w.heap.size → k ≠ c → v.ownBlock ≠ some k → w'.heap[k]? = w.heap[k]?
  own : v'.ownBlock = v.ownBlock ∨ ∀ k, v'.ownBlock = some k → w.heap.size ≤ k
section
variable {c : Nat} {a b d w w' : World} {v v1 v2 v' : Value}
theorem Tr.trans (h : Tr c a v b v1) (k : Tr c b v1 d v2) : Tr c a v d v2 where
  os := k.os.trans h.os
  tape := k.tape.trans h.tape
  output := k.output.trans h.output
  size := Nat.le_trans h.size k.size
  blk i hi hc hv := (k.blk i (Nat.lt_of_lt_of_le hi h.size) hc (fun e => by
    rcases h.own with h1 | h1
    · exact hv (h1 ▸ e)
    · have := h1 i e; omega)).trans (h.blk i hi hc hv)
  own := by
    rcases k.own with k1 | k1
    · rcases h.own with h1 | h1
      · exact .inl (k1.trans h1)
      · exact .inr (fun i hi => h1 i (k1 ▸ hi))
    · exact .inr (fun i hi => Nat.le_trans h.size (k1 i hi))
theorem Tr.of_ext (e : Ext w w') : Tr c w v w' v :=
  ⟨e.below.os, e.below.tape, e.below.output, e.size, fun _ hk _ _ => e.heap hk, .inl rfl⟩
theorem Tr.refl (c : Nat) (w : World) (v : Value) : Tr c w v w v := Tr.of_ext (Ext.refl w)
/-- What lies below is as it was. -/
theorem Tr.below {B : Nat} (h : Tr c w v w' v') (hB : B ≤ w.heap.size) (hc : B ≤ c) (hv : ∀ k, v.ownBlock = some k → B ≤ k) : Below B w w' :=
  ⟨h.os, h.tape, h.output, h.size, fun k hk => h.blk k (by omega) (by omega) (fun e => by have := hv k e; omega)⟩
end

/-- A function value tells whether a name is bound, now and later. -/
def AsksB (c : Nat) (w : World) (v fv : Value) (p : Str → Bool) : Prop := ∃ f lb, fv = .func (.func f) #[] lb ∧ Opens f ∧
  ∀ w' v', Tr c w v w' v' → ∀ s : Str, s.length ≤ 9223372036854775807 → Calls Try.prog f (#[encStr s] ++ lb) w' fun e w'' => e = .returned (.bool (p s)) ∧ Ext w' w''
theorem AsksB.on {c : Nat} {w w' : World} {v v' fv : Value} {p : Str → Bool} (h : AsksB c w v fv p) (k : Tr c w v w' v') : AsksB c w' v' fv p := by
  obtain ⟨f, lb, h1, h2, h3⟩ := h
  exact ⟨f, lb, h1, h2, fun w2 v2 k2 => h3 w2 v2 (k.trans k2)⟩

theorem u_uses1 (s : Str) (w : World) : Calls Try.prog 55 #[encStr s] w fun e w' => e = .returned (.bool false) ∧ Ext w w' := by
  go_enter Try.func55, Try.ntmps55
  go_wp2
  go_ret
  exact ⟨rfl, Ext.refl _⟩
theorem none_asks (c : Nat) (w : World) (v : Value) (eg : Opens 55) : AsksB c w v (.func (.func 55) #[] #[]) (fun _ => false) :=
  ⟨55, #[], rfl, eg, fun w' _ _ s _ => u_uses1 s w'⟩

theorem u_also (A : Option Addr) (n cap ob : Nat) (w : World) :
    Calls Try.prog 75 #[.slice A n cap, .pointer (some ⟨ob, 0, none⟩)] w fun e w' => e = .returned (.func (.func 76) #[] #[.pointer (some ⟨w.heap.size, 0, none⟩), .pointer (some ⟨ob, 0, none⟩)]) ∧ w' = w.alloc (.cells #[.slice A n cap] 51) := by
  go_enter Try.func75, Try.ntmps75
  go_wp2
  go_ret
  exact ⟨rfl, rfl⟩

set_option maxHeartbeats 1000000 in
theorem u_in (s : Str) (A : Option Addr) (cap lbx ob : Nat) (l : List Str) (f : FuncId) (lb : Array Value) (p : Str → Bool) (w : World) (h1 : w.cell? ⟨lbx, 0, none⟩ = some (.slice A l.length cap)) (h2 : w.cell? ⟨ob, 0, none⟩ = some (.func (.func f) #[] lb))
    (h3 : Strs w A l) (hl : l.length ≤ 9223372036854775807) (eg : Opens f) (hf : ∀ w', Ext w w' → Calls Try.prog f (#[encStr s] ++ lb) w' fun e w'' => e = .returned (.bool (p s)) ∧ Ext w' w'') :
    Calls Try.prog 76 #[encStr s, .pointer (some ⟨lbx, 0, none⟩), .pointer (some ⟨ob, 0, none⟩)] w fun e w' => e = .returned (.bool (l.any (· == s) || p s)) ∧ Ext w w' := by
  have HC := hide (has_s A cap l s w h3 hl)
  have HF := hide hf
  unfold Opens at eg
  clear hf h3
  cases hb : l.any (· == s)
  · rw [hb] at HC
    go_enter Try.func76, Try.ntmps76
    go_wp2_with fail
    refine HC.out.mono ?_
    rintro e w1 ⟨rfl, rfl⟩
    go_wp2_with fail
    refine (HF.out _ (Ext.refl _)).mono ?_
    rintro e w2 ⟨rfl, hx⟩
    go_wp2
    go_ret
    exact ⟨by simp, hx⟩
  · rw [hb] at HC
    go_enter Try.func76, Try.ntmps76
    go_wp2_with fail
    refine HC.out.mono ?_
    rintro e w1 ⟨rfl, rfl⟩
    go_wp2
    go_ret
    exact ⟨by simp, Ext.refl _⟩

/-- A function that is made: a name of a list, or one that is bound around. -/
theorem also_asks {c : Nat} {w : World} {v fv : Value} {p : Str → Bool} (A : Option Addr) (cap lbx ob : Nat) (l : List Str) (eg : Opens 76) (h1 : w.heap[lbx]? = some (.cells #[.slice A l.length cap] 51 (0, 0))) (h2 : w.heap[ob]? = some (.cells #[fv] 87 (0, 0)))
    (h3 : Strs w A l) (hl : l.length ≤ 9223372036854775807) (c1 : lbx ≠ c) (c2 : ob ≠ c) (c3 : v.ownBlock ≠ some lbx) (c4 : v.ownBlock ≠ some ob) (c5 : ∀ b o, A = some ⟨b, o, none⟩ → b ≠ c ∧ v.ownBlock ≠ some b) (ho : AsksB c w v fv p) :
    AsksB c w v (.func (.func 76) #[] #[.pointer (some ⟨lbx, 0, none⟩), .pointer (some ⟨ob, 0, none⟩)]) (fun s => l.any (· == s) || p s) := by
  refine ⟨76, _, rfl, eg, fun w' v' k s hs => ?_⟩
  have g1 := (k.blk lbx (lt_of_obj h1) c1 c3).trans h1
  have g2 := (k.blk ob (lt_of_obj h2) c2 c4).trans h2
  have g3 : Strs w' A l := by
    refine ⟨h3.1, fun hn => ?_⟩
    obtain ⟨b, o, rfl, hb, hc⟩ := h3.2 hn
    obtain ⟨e1, e2⟩ := c5 b o rfl
    exact ⟨b, o, rfl, Nat.lt_of_lt_of_le hb k.size, fun j u hu => (World.cell?_of_block (a := ⟨b, o + j, none⟩) (k.blk b hb e1 e2)).trans (hc j u hu)⟩
  obtain ⟨f, lb, rfl, e2, e3⟩ := ho.on k
  exact u_in s A cap lbx ob l f lb p w' (by simp [World.cell?, g1]) (by simp [World.cell?, g2]) g3 hl e2 (fun w2 e => e3 w2 v' (Tr.of_ext e) s hs)

/-- What has been told, in block `c`. -/
structure OutAt (c base : Nat) (w : World) (v : Value) (us : List Use) : Prop where
  cell : w.heap[c]? = some (.cells #[v] 57 (0, 0))
  own : w.ownsRow base 84 2 v us.length (us.flatMap useC.f)
  lt : c < base
  le : base ≤ w.heap.size
section
variable {c base : Nat} {w w' : World} {v : Value} {us : List Use}
theorem OutAt.ext (h : OutAt c base w v us) (e : Ext w w') : OutAt c base w' v us := ⟨(e.heap (lt_of_obj h.cell)).trans h.cell, own_extB h.own e, h.lt, Nat.le_trans h.le e.size⟩
theorem OutAt.ltc (h : OutAt c base w v us) : c < w.heap.size := lt_of_obj h.cell
theorem OutAt.ne (h : OutAt c base w v us) : v.ownBlock ≠ some c := fun e => by have := (h.own.lt c e).1; have := h.lt; omega
theorem OutAt.new (h : OutAt c base w v us) {k : Nat} (hk : w.heap.size ≤ k) : k ≠ c ∧ v.ownBlock ≠ some k := ⟨by have := h.ltc; omega, fun e => by have := (h.own.lt k e).2; omega⟩
end

set_option maxRecDepth 10000 in
set_option maxHeartbeats 1000000 in
theorem u_tell (t : Tree) (w : World) (c base : Nat) (v : Value) (us : List Use) (h : OutAt c base w v us) (hl : us.length ≤ 100000) :
    Calls Try.prog 56 #[treeV t, .pointer (some ⟨c, 0, none⟩)] w fun e w' => e = .returned (.tuple #[]) ∧ ∃ v', OutAt c base w' v' (us ++ [Use.mk t.text t.pos]) ∧ Tr c w v w' v' := by
  obtain ⟨i0, hi, hz0, hz1, hz2⟩ := info_parts use_info
  have HO := hide h
  have hc := h.ltc
  have hcc : w.cell? ⟨c, 0, none⟩ = some v := by simp [World.cell?, h.cell]
  have hcf : w.frozen? ⟨c, 0, none⟩ = false := by simp [World.frozen?, h.cell]
  clear h
  unfold treeV
  go_enter Try.func56, Try.ntmps56
  go_wp2_with (at_builtin; refine wpList_append_row _ rfl _ _ 57 rfl base 84 i0 _ 2 24 Try.underlying57 hi hz0 hz1 hz2 rfl (by decide) v us.length (us.flatMap useC.f) rfl (own_extB HO.out.own (((Ext.refl _).alloc _).alloc _)) _ 1 1 [encStr t.text, .int .i64 t.pos] rfl ?c2 ?c3 ?c4 ?c5 ?c6 ?_)
  case c2 => exact Row.use2 _ _ (at_newB _ _ _ (by simp))
  case c3 => first | exact ⟨rfl, rfl⟩ | (intro y hy; simp at hy; rcases hy with rfl | rfl <;> rfl)
  case c4 => unfold maxLen; omega
  case c5 => omega
  case c6 => have := HO.out.le; (first | omega | (simp; omega))
  intro v4 w4 hown4 hg4 hat4
  obtain ⟨A4, cp4, hv4, -⟩ := Use.own (l := us ++ [Use.mk t.text t.pos]) (v := v4) (w := w4) (base := base) (by rw [use_flat, List.length_append]; exact hown4)
  have hv5 : v4 = .slice A4 (us.length + 1) cp4 := by rw [hv4]; simp
  clear hv4
  subst hv5
  have E1 : Ext w ((w.alloc (.cells #[.int .i64 t.kind, .int .i64 t.pos, .int .i64 t.n, encStr t.text, .slice t.A t.kids.length t.cap] 54)).alloc (.cells #[encStr t.text, .int .i64 t.pos] 84)) := ((Ext.refl _).alloc _).alloc _
  have T1 : Tr c w v w4 (.slice A4 (us.length + 1) cp4) := ⟨hg4.os.trans E1.below.os, hg4.tape.trans E1.below.tape, hg4.output.trans E1.below.output, Nat.le_trans E1.size hg4.size,
    fun k hk hkc hkv => (hg4.block k (Nat.lt_of_lt_of_le hk E1.size) (fun e => hkv e.symm)).trans (E1.heap hk),
    by
      rcases hat4 with h1 | h1
      · exact .inl h1
      · exact .inr (fun k hk => by rw [h1] at hk; injection hk with hk; omega)⟩
  have hc4 : w4.heap[c]? = some (.cells #[v] 57 (0, 0)) := (hg4.block c (Nat.lt_of_lt_of_le hc E1.size) (fun e => HO.out.ne e.symm)).trans ((E1.heap hc).trans HO.out.cell)
  have O4 : Hid (OutAt c base (w4.setCell ⟨c, 0, none⟩ (.slice A4 (us.length + 1) cp4)) (.slice A4 (us.length + 1) cp4) (us ++ [Use.mk t.text t.pos])) := hide ⟨by have := blk_setCell hc4 0 (.slice A4 (us.length + 1) cp4); simpa using this, by
      have h5 := ownsRow_setCell_below (a := ⟨c, 0, none⟩) hown4 HO.out.lt (.slice A4 (us.length + 1) cp4)
      rw [use_flat, List.length_append]
      exact h5, HO.out.lt, by have := HO.out.le; have := T1.size; simp [World.setCell]; omega⟩
  have T4 : Hid (Tr c w v (w4.setCell ⟨c, 0, none⟩ (.slice A4 (us.length + 1) cp4)) (.slice A4 (us.length + 1) cp4)) := hide ⟨T1.os, T1.tape, T1.output, by have := T1.size; simpa [World.setCell] using this,
    fun k hk hkc hkv => (Below.heap_setCell w4 ⟨c, 0, none⟩ (.slice A4 (us.length + 1) cp4) k hkc).trans (T1.blk k hk hkc hkv), T1.own⟩
  have hcc4 : w4.cell? ⟨c, 0, none⟩ = some v := by simp [World.cell?, hc4]
  have hcf4 : w4.frozen? ⟨c, 0, none⟩ = false := by simp [World.frozen?, hc4]
  clear T1 E1 hown4 hg4 hat4 hcc hcf
  go_wp2
  go_end0
  exact ⟨rfl, _, O4.out, T4.out⟩

end Go.Proofs.Ytnbnhchgkbbiiaa
