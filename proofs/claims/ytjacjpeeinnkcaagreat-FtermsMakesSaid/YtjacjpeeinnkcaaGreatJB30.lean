/- Plain facts on rising lists of texts. No program in sight. -/
import Derived.Test.YtjacjpeeinnkcaaGreatJB29
import Derived.Sort.Walk0
import Derived.Test.YtjacjpeeinnkcaaGreatProg
import Derived.WalkSpells
import Derived.WalkLawsBesides
import Derived.Deep.QuietTactic
import Derived.BigQuiet
/- Plain facts on rising lists of texts. No program in sight. -/
namespace Go.Proofs.YtjacjpeeinnkcaaGreat
open Go.RowKit Go.Sort

def lessB (a b : Str) : Bool := Op.bytesLess a b
/-- How many texts stand ahead of `x`. -/
def findN (l : List Str) (x : Str) : Nat := (l.takeWhile (lessB · x)).length
def findB (l : List Str) (x : Str) : Bool := decide (findN l x < l.length) && (l.getD (findN l x) [] == x)

theorem findN_le (l : List Str) (x : Str) : findN l x ≤ l.length := (List.takeWhile_sublist _).length_le
theorem findN_at : ∀ (l : List Str) (x : Str) (k : Nat), k ≤ l.length → (∀ i, i < k → lessB (l.getD i []) x = true) → (k < l.length → lessB (l.getD k []) x = false) → findN l x = k
  | [], x, k, hk, _, _ => by simp at hk; subst hk; rfl
  | y :: l, x, 0, _, _, h => by
    have : lessB y x = false := by simpa using h (by simp)
    simp [findN, this]
  | y :: l, x, k + 1, hk, h1, h2 => by
    have h0 : lessB y x = true := by simpa using h1 0 (by omega)
    have := findN_at l x k (by simpa using hk) (fun i hi => by simpa using h1 (i + 1) (by omega)) (fun hl => by simpa using h2 (by simpa using hl))
    unfold findN at this ⊢
    simp [h0, this]

/-- With a text. -/
def addL (l : List Str) (x : Str) : List Str := if findB l x then l else l.take (findN l x) ++ [x] ++ l.drop (findN l x)
/-- Without a text. -/
def remL (l : List Str) (x : Str) : List Str := if findB l x then l.take (findN l x) ++ l.drop (findN l x + 1) else l

theorem findB_lt {l : List Str} {x : Str} (h : findB l x = true) : findN l x < l.length := by
  unfold findB at h
  simp at h
  exact h.1

/-- Rising texts, each once. -/
abbrev Rising (l : List Str) : Prop := l.Pairwise (· < ·)
theorem slt_irrefl (a : Str) : ¬ a < a := List.lt_irrefl a
theorem slt_trans {a b c : Str} (h : a < b) (k : b < c) : a < c := List.lt_trans h k
theorem slt_total (a b : Str) : a < b ∨ a = b ∨ b < a := by
  by_cases h : a < b
  · exact .inl h
  · by_cases k : b < a
    · exact .inr (.inr k)
    · exact .inr (.inl (List.le_antisymm (List.not_lt.1 k) (List.not_lt.1 h)))
theorem Rising.nodup {l : List Str} (h : Rising l) : l.Nodup := List.Pairwise.imp (R := (· < ·)) (S := (· ≠ ·)) (fun {a b} (hab : a < b) (e : a = b) => slt_irrefl b (e ▸ hab)) h
theorem Rising.ext {l m : List Str} (hl : Rising l) (hm : Rising m) (h : ∀ x, x ∈ l ↔ x ∈ m) : l = m :=
  List.Perm.eq_of_pairwise (le := (· < ·)) (fun a _ _ _ h1 h2 => absurd (slt_trans h1 h2) (slt_irrefl a)) hl hm ((List.perm_ext_iff_of_nodup hl.nodup hm.nodup).2 h)
theorem lessB_eq (a b : Str) : lessB a b = decide (a < b) := bytesLess_eq a b

theorem find_parts (x : Str) : ∀ l : List Str, Rising l → ∃ p q, l = p ++ q ∧ findN l x = p.length ∧ (∀ y ∈ p, y < x) ∧ (∀ y ∈ q, x < y ∨ x = y) ∧ (findB l x = true ↔ q.head? = some x)
  | [], _ => ⟨[], [], rfl, rfl, by simp, by simp, by simp [findB]⟩
  | y :: l, h => by
    by_cases hy : y < x
    · obtain ⟨p, q, e, hn, hp, hq, hb⟩ := find_parts x l (List.pairwise_cons.1 h).2
      have hN : findN (y :: l) x = findN l x + 1 := by simp [findN, lessB_eq, hy]
      refine ⟨y :: p, q, by rw [e]; rfl, by rw [hN, hn]; rfl, ?_, hq, ?_⟩
      · intro z hz
        rcases List.mem_cons.1 hz with rfl | hz
        · exact hy
        · exact hp z hz
      · rw [← hb]
        unfold findB
        rw [hN]
        simp
    · have hN : findN (y :: l) x = 0 := by simp [findN, lessB_eq, hy]
      refine ⟨[], y :: l, rfl, by rw [hN]; rfl, by simp, ?_, ?_⟩
      · have hxy : x < y ∨ x = y := by
          rcases slt_total y x with h1 | h1 | h1
          · exact absurd h1 hy
          · exact .inr h1.symm
          · exact .inl h1
        intro z hz
        rcases List.mem_cons.1 hz with rfl | hz
        · exact hxy
        · have := (List.pairwise_cons.1 h).1 z hz
          rcases hxy with h1 | h1
          · exact .inl (slt_trans h1 this)
          · subst h1; exact .inl this
      · unfold findB
        rw [hN]
        simp

theorem mem_findB {l : List Str} (h : Rising l) (x : Str) : findB l x = true ↔ x ∈ l := by
  obtain ⟨p, q, e, hn, hp, hq, hb⟩ := find_parts x l h
  rw [hb, e]
  constructor
  · intro hh
    rcases q with _ | ⟨z, q⟩
    · cases hh
    · simp at hh; subst hh; simp
  · intro hh
    rcases List.mem_append.1 hh with h1 | h1
    · exact absurd (hp x h1) (slt_irrefl x)
    · rcases q with _ | ⟨z, q⟩
      · cases h1
      · rcases List.mem_cons.1 h1 with rfl | h2
        · rfl
        · rw [e] at h
          have h3 := (List.pairwise_cons.1 (List.pairwise_append.1 h).2.1).1 x h2
          rcases hq z (by simp) with h4 | h4
          · exact absurd (slt_trans h3 h4) (slt_irrefl z)
          · subst h4; exact absurd h3 (slt_irrefl x)
theorem findB_any {l : List Str} (h : Rising l) (x : Str) : findB l x = l.any (· == x) := by
  rw [Bool.eq_iff_iff, mem_findB h, List.any_eq_true]
  constructor
  · exact fun hx => ⟨x, hx, by simp⟩
  · rintro ⟨y, hy, e⟩
    simp at e; subst e; exact hy

theorem addL_mem {l : List Str} (h : Rising l) (x y : Str) : y ∈ addL l x ↔ y ∈ l ∨ y = x := by
  unfold addL
  split
  · rename_i hb
    have := (mem_findB h x).1 hb
    constructor
    · exact .inl
    · rintro (h1 | rfl)
      · exact h1
      · exact this
  · have e : l.take (findN l x) ++ l.drop (findN l x) = l := List.take_append_drop _ _
    constructor
    · intro hy
      simp only [List.mem_append, List.mem_singleton] at hy
      rcases hy with (h1 | h1) | h1
      · exact .inl (List.mem_of_mem_take h1)
      · exact .inr h1
      · exact .inl (List.mem_of_mem_drop h1)
    · rintro (h1 | rfl)
      · rw [← e] at h1
        rcases List.mem_append.1 h1 with h2 | h2
        · simp [h2]
        · simp [h2]
      · simp
theorem addL_rising {l : List Str} (h : Rising l) (x : Str) : Rising (addL l x) := by
  unfold addL
  split
  · exact h
  · rename_i hb
    obtain ⟨p, q, e, hn, hp, hq, hb'⟩ := find_parts x l h
    have hx : x ∉ l := fun hh => hb ((mem_findB h x).2 hh)
    rw [hn, e, List.take_left, List.drop_left]
    rw [e] at h hx
    obtain ⟨h1, h2, h3⟩ := List.pairwise_append.1 h
    have hq' : ∀ y ∈ q, x < y := fun y hy => by
      rcases hq y hy with h4 | h4
      · exact h4
      · subst h4; exact absurd (List.mem_append.2 (.inr hy)) hx
    refine List.pairwise_append.2 ⟨List.pairwise_append.2 ⟨h1, by simp, fun a ha b hb => ?_⟩, h2, fun a ha b hbq => ?_⟩
    · simp at hb; subst hb; exact hp a ha
    · rcases List.mem_append.1 ha with h4 | h4
      · exact h3 a h4 b hbq
      · simp at h4; subst h4; exact hq' b hbq
theorem remL_parts {l : List Str} (h : Rising l) (x : Str) : Rising (remL l x) ∧ ∀ y, y ∈ remL l x ↔ y ∈ l ∧ y ≠ x := by
  unfold remL
  split
  · rename_i hb
    obtain ⟨p, q, e, hn, hp, hq, hb'⟩ := find_parts x l h
    rcases q with _ | ⟨z, q⟩
    · have := hb'.1 hb; cases this
    · have hz := hb'.1 hb
      simp at hz
      subst hz
      rw [hn, e, List.take_left, show p ++ z :: q = (p ++ [z]) ++ q by simp, show p.length + 1 = (p ++ [z]).length by simp, List.drop_left]
      rw [e] at h
      obtain ⟨h1, h2, h3⟩ := List.pairwise_append.1 h
      obtain ⟨h4, h5⟩ := List.pairwise_cons.1 h2
      refine ⟨List.pairwise_append.2 ⟨h1, h5, fun a ha b hb => h3 a ha b (by simp [hb])⟩, fun y => ?_⟩
      simp only [List.mem_append, List.mem_singleton]
      constructor
      · rintro (h6 | h6)
        · exact ⟨.inl (.inl h6), fun e => by subst e; exact slt_irrefl _ (hp y h6)⟩
        · exact ⟨.inr h6, fun e => by subst e; exact slt_irrefl _ (h4 y h6)⟩
      · rintro ⟨(h6 | h6) | h6, h7⟩
        · exact .inl h6
        · exact absurd h6 h7
        · exact .inr h6
  · rename_i hb
    refine ⟨h, fun y => ⟨fun hy => ⟨hy, fun e => hb ((mem_findB h x).2 (e ▸ hy))⟩, fun hy => hy.1⟩⟩

/-- All of a list. -/
def ofL (l : List Str) : List Str := l.foldl addL []
theorem fold_parts : ∀ (l a : List Str), Rising a → Rising (l.foldl addL a) ∧ ∀ y, y ∈ l.foldl addL a ↔ y ∈ a ∨ y ∈ l
  | [], a, h => ⟨h, by simp⟩
  | x :: l, a, h => by
    obtain ⟨h1, h2⟩ := fold_parts l (addL a x) (addL_rising h x)
    refine ⟨h1, fun y => ?_⟩
    rw [List.foldl_cons, h2, addL_mem h, List.mem_cons]
    exact or_assoc
theorem ofL_rising (l : List Str) : Rising (ofL l) := (fold_parts l [] List.Pairwise.nil).1
theorem ofL_mem (l : List Str) (y : Str) : y ∈ ofL l ↔ y ∈ l := by
  have := (fold_parts l [] List.Pairwise.nil).2 y
  unfold ofL
  simpa using this
theorem ofL_same {l : List Str} (h : Rising l) : ofL l = l := (ofL_rising l).ext h (ofL_mem l)
theorem ofL_snoc (l : List Str) (x : Str) : ofL (l ++ [x]) = addL (ofL l) x := by simp [ofL, List.foldl_append]
theorem addL_len (l : List Str) (x : Str) : (addL l x).length ≤ l.length + 1 := by
  unfold addL
  split
  · omega
  · have := findN_le l x
    simp; omega
theorem remL_len (l : List Str) (x : Str) : (remL l x).length ≤ l.length := by
  unfold remL
  split
  · have := findN_le l x
    simp; omega
  · omega
theorem ofL_len (l : List Str) : (ofL l).length ≤ l.length := by
  have : ∀ (l a : List Str), (l.foldl addL a).length ≤ a.length + l.length := by
    intro l
    induction l with
    | nil => simp
    | cons x l ih => intro a; have := ih (addL a x); have := addL_len a x; simp at *; omega
  have := this l []
  unfold ofL
  simpa using this
/-- Those that another one does not have. -/
def minusL (l m : List Str) : List Str := l.filter fun x => !findB m x
theorem minusL_rising {l : List Str} (m : List Str) (h : Rising l) : Rising (minusL l m) := h.sublist List.filter_sublist
theorem minusL_mem {m : List Str} (l : List Str) (h : Rising m) (y : Str) : y ∈ minusL l m ↔ y ∈ l ∧ y ∉ m := by
  unfold minusL
  rw [List.mem_filter]
  have := mem_findB h y
  cases hb : findB m y
  · rw [hb] at this; simp at this; simp [this]
  · rw [hb] at this; simp at this; simp [this]
theorem minusL_snoc (l m : List Str) (x : Str) : minusL (l ++ [x]) m = minusL l m ++ if findB m x then [] else [x] := by
  unfold minusL
  rw [List.filter_append]
  cases hb : findB m x <;> simp [hb]
theorem minusL_len (l m : List Str) : (minusL l m).length ≤ l.length := List.length_filter_le _ _

end Go.Proofs.YtjacjpeeinnkcaaGreat

/- Contract: a pattern's variables, behind others. -/
namespace Go.Proofs.YtjacjpeeinnkcaaGreat
open Go.RowKit

theorem str_infoM : (Tryz.prog.info? 9).map (fun i => (i.zero, i.size, i.bytes)) = some (some (.string ⟨#[]⟩), 1, 16) := by kernel_rfl
theorem Strs.boxedM {w : World} {b : Nat} {t : TypeId} {fr : Nat × Nat} (x : Str) (h : w.heap[b]? = some (.cells #[encStr x] t fr)) : Row w (some ⟨b, 0, none⟩) 1 1 [encStr x] := by
  refine ⟨rfl, fun _ => ⟨b, 0, rfl, lt_of_obj h, fun j u hu => ?_⟩⟩
  match j with
  | 0 => simp at hu; subst hu; simp [World.cell?, h]
  | j + 1 => simp at hu
theorem Ext.appM {w a b : World} {base : Nat} {e : TypeId} {size n : Nat} {v : Value} {xs : List Value} (h : Ext w a) (hg : a.grownBy b v.ownBlock) (ho : a.ownsRow base e size v n xs) (hb : w.heap.size ≤ base) : Ext w b :=
  h.grown hg (fun k hk => Nat.le_trans hb (ho.lt k hk).1)

noncomputable def pvM (t : Tm) : List Str := patVarsQ t.pure
noncomputable def pvsM (l : List Tm) : List Str := l.flatMap pvM
theorem pvM_eq (t : Tm) : pvM t = if t.kind = 21 then [t.name] else pvsM t.kids := by
  unfold pvM
  rw [Tm.pure_eq, patVarsQ, patVarsQs_flat, List.flatMap_map]
  rfl
theorem pvsM_take (l : List Tm) {k : Nat} (h : k < l.length) : pvsM (l.take (k + 1)) = pvsM (l.take k) ++ pvM (l[k]'h) := by
  unfold pvsM
  rw [List.take_succ_eq_append_getElem h, List.flatMap_append]
  simp
theorem pvM_len (t : Tm) : (pvM t).length ≤ t.size := by
  induction t using Tm.ind with
  | h t ih =>
  rw [pvM_eq, Tm.size_eq]
  split
  · simp
  · unfold pvsM
    rw [List.length_flatMap]
    have : ∀ l : List Tm, (∀ x ∈ l, (pvM x).length ≤ x.size) → (l.map fun a => (pvM a).length).sum ≤ (l.map Tm.size).sum := by
      intro l
      induction l with
      | nil => simp
      | cons x l ih2 =>
        intro h
        have h1 := h x (by simp)
        have h2 := ih2 (fun y hy => h y (List.mem_cons_of_mem _ hy))
        simp only [List.map_cons, List.sum_cons]
        omega
    have := this t.kids ih
    omega
theorem pvsM_room (l : List Tm) {k : Nat} (h : k < l.length) : (pvsM (l.take k)).length + (l[k]'h).size ≤ msizes l := by
  have h1 : (pvsM (l.take k)).length ≤ msizes (l.take k) := by
    have : ∀ l : List Tm, (pvsM l).length ≤ msizes l := by
      intro l
      induction l with
      | nil => simp [pvsM]
      | cons x l ih2 =>
        have h1 := pvM_len x
        unfold pvsM msizes at *
        simp only [List.flatMap_cons, List.length_append, List.map_cons, List.sum_cons]
        omega
    exact this _
  have h2 := msizes_take l h
  have h3 := msizes_le l (k + 1)
  omega

set_option maxRecDepth 10000 in
set_option maxHeartbeats 2000000 in
theorem m_patvars (t : Tm) : ∀ (w0 w : World) (base : Nat) (v : Value) (us : List Str), TmIn w0 t → Below w0.heap.size w0 w → w0.heap.size ≤ base → base ≤ w.heap.size →
    w.ownsRow base 9 1 v us.length (us.map encStr) → us.length + t.size ≤ 1000000 →
    Calls Tryz.prog 195 #[v, tmV t] w fun e w' => (∃ v', e = .returned v' ∧ w'.ownsRow base 9 1 v' (us ++ pvM t).length ((us ++ pvM t).map encStr)) ∧ Below base w w' := by
  induction t using Tm.ind with
  | h t ih =>
  intro w0 w base v us h hB hb0 hb hO hsz
  obtain ⟨i0, hi, hz0, hz1, hz2⟩ := info_parts str_infoM
  have IH := hide ih
  have Hk := hide h.all
  have hle := h.hd.le
  have hmx := h.hd.max
  have HBw := hide hB
  have HO := hide hO
  have HE := hide (pvM_eq t)
  have HS : Hid (t.size = msizes t.kids + 1) := hide (Tm.size_eq t)
  have HSt := hide (fun k (hk : k < t.kids.length) => pvsM_take t.kids hk)
  have HSk := hide (fun k (hk : k < t.kids.length) => pvsM_room t.kids hk)
  have HSz := hide (fun k (hk : k ∈ t.kids) => Tm.size_kid hk)
  have HB0 := hide (TmBox.new w t)
  have HA : Hid (Below base w (w.alloc (.cells #[.int .i64 t.kind, .int .i64 t.n, encStr t.name, .slice t.V t.vars.length t.vc, .slice t.T t.types.length t.tc, .slice t.A t.kids.length t.cap] 31))) := hide ((Below.refl _ _).alloc hb _)
  have OA : Hid ((w.alloc (.cells #[.int .i64 t.kind, .int .i64 t.n, encStr t.name, .slice t.V t.vars.length t.vc, .slice t.T t.types.length t.tc, .slice t.A t.kids.length t.cap] 31)).ownsRow base 9 1 v us.length (us.map encStr)) := hide (own_extB HO.out ((Ext.refl _).alloc _))
  clear ih h hB hO
  unfold tmV
  generalize hA0 : t.A = A0 at *
  have HA0 := hide hA0
  clear hA0
  cases h21 : (t.kind == 21)
  · have HE2 : Hid (pvM t = pvsM t.kids) := hide (by rw [HE.out, if_neg (by simpa using h21)])
    clear HE
    have HU : Hid (us ++ pvsM t.kids = us ++ pvM t) := hide (by rw [HE2.out])
    go_enter Tryz.func195, Tryz.ntmps195
    go_wp2
    go_loopw [0, 18] (fun v i wr => ∃ k : Nat, k ≤ t.kids.length ∧ i = .int .i64 k ∧ Hid (Below base w wr) ∧ Hid (wr.ownsRow base 9 1 v (us ++ pvsM (t.kids.take k)).length ((us ++ pvsM (t.kids.take k)).map encStr))) (fun _ i _ => t.kids.length - (intOf i).toNat)
    case atStart => exact ⟨0, Nat.zero_le _, rfl, HA, hide (by simpa [pvsM] using OA.out)⟩
    case round =>
      obtain ⟨k, hk, rfl, HW, HOw⟩ := hrel
      by_cases hlt : k < t.kids.length
      · have hlt' : (k : Int) < (t.kids.length : Int) := by omega
        have hk0 : (0 : Int) ≤ (k : Int) := by omega
        have HKw : Hid (Below w0.heap.size w0 wr) := hide (HBw.out.trans (HW.out.mono hb0))
        obtain ⟨b, o, rfl, hbb, q0, q1, q2, q3, q4, q5⟩ := (Hk.out.old HKw.out).at_ hlt
        have hck := List.getElem_mem hlt
        have hcs := HSz.out _ hck
        have hsw := HW.out.size
        have Hst := hide (HSt.out k hlt)
        have HC := hide (IH.out _ hck w0 (wr.alloc (.cells #[.int .i64 (t.kids[k]'hlt).kind, .int .i64 (t.kids[k]'hlt).n, encStr (t.kids[k]'hlt).name, .slice (t.kids[k]'hlt).V (t.kids[k]'hlt).vars.length (t.kids[k]'hlt).vc, .slice (t.kids[k]'hlt).T (t.kids[k]'hlt).types.length (t.kids[k]'hlt).tc, .slice (t.kids[k]'hlt).A (t.kids[k]'hlt).kids.length (t.kids[k]'hlt).cap] 31)) base u0 (us ++ pvsM (t.kids.take k)) (Hk.out.kids _ hck)
          (HKw.out.alloc (by have := HKw.out.size; omega) _) hb0 (by simp; omega) (own_extB HOw.out ((Ext.refl _).alloc _)) (by
            have h1 := HS.out
            have h2 := HSk.out k hlt
            rw [List.length_append]
            omega))
        have HWa : Hid (Below base w (wr.alloc (.cells #[.int .i64 (t.kids[k]'hlt).kind, .int .i64 (t.kids[k]'hlt).n, encStr (t.kids[k]'hlt).name, .slice (t.kids[k]'hlt).V (t.kids[k]'hlt).vars.length (t.kids[k]'hlt).vc, .slice (t.kids[k]'hlt).T (t.kids[k]'hlt).types.length (t.kids[k]'hlt).tc, .slice (t.kids[k]'hlt).A (t.kids[k]'hlt).kids.length (t.kids[k]'hlt).cap] 31))) := hide (HW.out.alloc (by omega) _)
        clear hck
        generalize t.kids[k]'hlt = c at *
        go_wp2_with fail
        refine HC.out.mono ?_
        rintro e w4 ⟨⟨v4, rfl, hO4⟩, hB4⟩
        have W4 := hide (HWa.out.trans hB4)
        have O4 := hide hO4
        clear hO4 hB4
        go_wp2
        go_roundw
        case rel => exact ⟨k + 1, hlt, by go_num, W4, hide (by rw [Hst.out, ← List.append_assoc]; exact O4.out)⟩
        case measure => simp [intOf]; omega
      · have hge : ¬ (k : Int) < (t.kids.length : Int) := by omega
        have HF : Hid (us ++ pvsM (t.kids.take k) = us ++ pvM t) := hide (by rw [List.take_of_length_le (by omega)]; exact HU.out)
        rw [HF.out] at HOw
        go_wp2
        go_ret
        exact ⟨⟨u0, rfl, by simpa using HOw.out⟩, HW.out⟩
  · have HU : Hid (us ++ pvM t = us ++ [t.name]) := hide (by rw [HE.out, if_pos (by simpa using h21)])
    have hus : us.length ≤ 1000000 := by omega
    obtain ⟨c0, c1, c2, c3, c4, c5⟩ := HB0.out.cells
    rw [HU.out]
    clear HE
    go_enter Tryz.func195, Tryz.ntmps195
    go_wp2_with (at_builtin; refine wpList_append_row _ rfl _ _ 22 rfl base 9 i0 _ 1 16 Tryz.underlying22 hi hz0 hz1 hz2 rfl (by decide) v us.length (us.map encStr) rfl (own_extB HO.out (((Ext.refl _).alloc _).alloc _)) _ 1 1 [encStr t.name] rfl ?c2 ?c3 ?c4 ?c5 ?c6 ?_)
    case c2 => exact Strs.boxedM _ (at_newB _ _ _ (by simp))
    case c3 => first | rfl | (intro y hy; simp at hy; subst hy; rfl)
    case c4 => unfold maxLen; omega
    case c5 => omega
    case c6 => (first | omega | (simp; omega))
    intro v4 w4 hown4 hg4 _
    have hB1 : Below base w w4 := (HA.out.trans ((Below.refl _ _).alloc (by simp; omega) _)).grown hg4 (by simp; omega) (fun k hk => (HO.out.lt k hk).1)
    have W1 := hide hB1
    have O1 : Hid (w4.ownsRow base 9 1 v4 (us ++ [t.name]).length ((us ++ [t.name]).map encStr)) := hide (by rw [List.map_append, List.length_append]; exact hown4)
    clear hB1 hown4 hg4
    go_wp2
    go_ret
    exact ⟨⟨v4, rfl, by simpa using O1.out⟩, W1.out⟩

end Go.Proofs.YtjacjpeeinnkcaaGreat

/- Contract: the names that a term binds within itself. -/
namespace Go.Proofs.YtjacjpeeinnkcaaGreat
open Go.RowKit

noncomputable def bindsM (t : Tm) : List Str := bindsQ t.kind t.name (t.kids.map Tm.pure)
/-- The names of some bindings. -/
def bnsM (l : List Tm) : List Str := (l.filter fun b => b.kind == 11).map Tm.name
theorem pure_kind (t : Tm) : t.pure.kind = t.kind := by rw [Tm.pure_eq]; rfl
theorem pure_name (t : Tm) : t.pure.name = t.name := by rw [Tm.pure_eq]; rfl
theorem bindsM_lam {t : Tm} (h : t.kind = 3) : bindsM t = [t.name] := by unfold bindsM bindsQ; rw [if_pos h]
theorem bindsM_let {t : Tm} (h : t.kind = 10) : bindsM t = bnsM t.kids := by
  unfold bindsM bindsQ bnsM
  rw [if_neg (by omega), if_pos h, List.filter_map, List.map_map]
  have e1 : ((fun b : Tm.Pure => b.kind == 11) ∘ Tm.pure) = fun b => b.kind == 11 := by funext x; simp [pure_kind]
  rw [e1]
  exact List.map_congr_left (fun x _ => pure_name x)
theorem bindsM_alt {t : Tm} (h : t.kind = 9) : bindsM t = match t.kids with | [] => [] | p :: _ => pvM p := by
  unfold bindsM bindsQ
  rw [if_neg (by omega), if_neg (by omega), if_pos h]
  cases t.kids <;> rfl
theorem bindsM_none {t : Tm} (h3 : ¬ t.kind = 3) (h10 : ¬ t.kind = 10) (h9 : ¬ t.kind = 9) : bindsM t = [] := by
  unfold bindsM bindsQ
  rw [if_neg h3, if_neg h10, if_neg h9]
theorem bnsM_take (l : List Tm) {k : Nat} (h : k < l.length) : bnsM (l.take (k + 1)) = bnsM (l.take k) ++ if (l[k]'h).kind == 11 then [(l[k]'h).name] else [] := by
  unfold bnsM
  rw [List.take_succ_eq_append_getElem h, List.filter_append, List.map_append]
  congr 1
  cases hk : ((l[k]'h).kind == 11) <;> simp [hk]
theorem bnsM_len (l : List Tm) : (bnsM l).length ≤ l.length := by
  unfold bnsM
  rw [List.length_map]
  exact List.length_filter_le _ _
/-- A row of names that has just been made, or none. -/
structure NewStrs (w w' : World) (A : Option Addr) (cap : Nat) (l : List Str) : Prop where
  le : l.length ≤ cap
  max : cap ≤ 9223372036854775807
  row : Strs w' A l
  new : ∀ c o, A = some ⟨c, o, none⟩ → w.heap.size ≤ c
theorem NewStrs.own {w w' : World} {base : Nat} {v : Value} {l : List Str} (h : w'.ownsRow base 9 1 v l.length (l.map encStr)) (hb : w.heap.size ≤ base) : ∃ A cap, v = .slice A l.length cap ∧ NewStrs w w' A cap l := by
  obtain ⟨A, cap, hv, h1, h2, h3, h4⟩ := RowOf.own strC (e := 9) (l := l) (by show w'.ownsRow base _ 1 v l.length (l.flatMap fun x => [encStr x]); rw [flat_one]; exact h)
  exact ⟨A, cap, hv, h1, h2, strs_iff.2 h3, fun c o e => Nat.le_trans hb (h4 c o e).1⟩
theorem NewStrs.ext {w w' w'' : World} {A : Option Addr} {cap : Nat} {l : List Str} (h : NewStrs w w' A cap l) (e : Ext w' w'') : NewStrs w w'' A cap l := ⟨h.le, h.max, h.row.ext e, h.new⟩

set_option maxRecDepth 10000 in
set_option maxHeartbeats 4000000 in
theorem m_binds (t : Tm) (w : World) (h : TmIn w t) (hsz : t.size ≤ 1000000) : Calls Tryz.prog 114 #[tmV t] w fun e w' => (∃ A cap, e = .returned (.slice A (bindsM t).length cap) ∧ NewStrs w w' A cap (bindsM t)) ∧ Ext w w' := by
  obtain ⟨i0, hi, hz0, hz1, hz2⟩ := info_parts str_infoM
  have hkl := h.hd.le
  have hkm := h.hd.max
  have hln := t.kids_len
  have HK := hide h.all
  have HN : Hid (t.name.length ≤ 9223372036854775807) := hide h.hd.txt
  have HB0 := hide (TmBox.new w t)
  have X0 : Hid (Ext w (w.alloc (.cells #[.int .i64 t.kind, .int .i64 t.n, encStr t.name, .slice t.V t.vars.length t.vc, .slice t.T t.types.length t.tc, .slice t.A t.kids.length t.cap] 31))) := hide ((Ext.refl w).alloc _)
  obtain ⟨c0, c1, c2, c3, c4, c5⟩ := HB0.out.cells
  have HPs := hide (fun k (hk : k ∈ t.kids) => Tm.size_kid hk)
  clear h
  cases h3 : (t.kind == 3)
  rotate_left
  · have hb : Hid (bindsM t = [t.name]) := hide (bindsM_lam (by simpa using h3))
    generalize bindsM t = R at *
    have hR := hb.out
    subst hR
    unfold tmV
    go_enter Tryz.func114, Tryz.ntmps114
    go_wp2
    go_ret
    exact ⟨⟨some ⟨w.heap.size + 1, 0, none⟩, 1, rfl, ⟨Nat.le_refl _, by omega, strs_iff.2 (RowOf.block strC [t.name] (at_newB _ _ _ (by simp))), fun c o e => by injection e with e; injection e with e; omega⟩⟩, X0.out.alloc _⟩
  cases h10 : (t.kind == 10)
  rotate_left
  · have hb : Hid (bindsM t = bnsM t.kids) := hide (bindsM_let (by simpa using h10))
    have Htk := hide (fun k (hk : k < t.kids.length) => bnsM_take t.kids hk)
    have Hln := hide (fun k => bnsM_len (t.kids.take k))
    have HR : Hid (bnsM (t.kids.take t.kids.length) = bindsM t) := hide (by rw [List.take_length, hb.out])
    generalize bindsM t = R at *
    unfold tmV
    go_enter Tryz.func114, Tryz.ntmps114
    go_wp2
    go_loopw [3, 18] (fun v i wr => ∃ k : Nat, k ≤ t.kids.length ∧ i = .int .i64 k ∧ Hid (Ext w wr) ∧ Hid (wr.ownsRow w.heap.size 9 1 v (bnsM (t.kids.take k)).length ((bnsM (t.kids.take k)).map encStr))) (fun _ i _ => t.kids.length - (intOf i).toNat)
    case atStart => exact ⟨0, Nat.zero_le _, rfl, X0, hide (World.ownsRow_nil _ _ _ _)⟩
    case round =>
      obtain ⟨k, hk, rfl, HX, HO⟩ := hrel
      by_cases hlt : k < t.kids.length
      · have hlt' : (k : Int) < (t.kids.length : Int) := by omega
        have hk0 : (0 : Int) ≤ (k : Int) := by omega
        obtain ⟨b, o, hA, hb, q0, q1, q2, q3, q4, q5⟩ := (HK.out.ext HX.out).at_ hlt
        have Hst := hide (Htk.out k hlt)
        have hol : (bnsM (t.kids.take k)).length ≤ k := by have := Hln.out k; rw [List.length_take] at this; omega
        generalize bnsM (t.kids.take k) = L at *
        generalize t.kids[k]'hlt = c at *
        rw [hA]
        clear hA
        cases hc : (c.kind == 11)
        · rw [hc] at Hst
          go_wp2
          go_roundw
          case rel => exact ⟨k + 1, hlt, by go_num, hide (HX.out.alloc _), hide (by rw [Hst.out]; simpa using own_extB HO.out ((Ext.refl _).alloc _))⟩
          case measure => simp [intOf]; omega
        · have Hst : Hid (bnsM (t.kids.take (k + 1)) = L ++ [c.name]) := hide (by have := Hst.out; rw [hc] at this; exact this)
          have hxs : Ext wr ((wr.alloc (.cells #[.int .i64 c.kind, .int .i64 c.n, encStr c.name, .slice c.V c.vars.length c.vc, .slice c.T c.types.length c.tc, .slice c.A c.kids.length c.cap] 31)).alloc (.cells #[encStr c.name] 9)) := ((Ext.refl _).alloc _).alloc _
          go_wp2_with (at_builtin; refine wpList_append_row _ rfl _ _ 22 rfl w.heap.size 9 i0 _ 1 16 Tryz.underlying22 hi hz0 hz1 hz2 rfl (by decide) u3 L.length (L.map encStr) rfl (own_extB HO.out (((Ext.refl _).alloc _).alloc _)) _ 1 1 [encStr c.name] rfl ?c2 ?c3 ?c4 ?c5 ?c6 ?_)
          case c2 => exact Strs.boxedM _ (at_newB _ _ _ (by simp))
          case c3 => first | rfl | (intro y hy; simp at hy; subst hy; rfl)
          case c4 => unfold maxLen; omega
          case c5 => omega
          case c6 => (first | omega | (have := HX.out.size; omega) | (have := HX.out.size; simp; omega))
          intro v4 w4 hown4 hg4 _
          have X4 := hide (Ext.appM ((HX.out.alloc _).alloc _) hg4 (own_extB HO.out (((Ext.refl _).alloc _).alloc _)) (Nat.le_refl _))
          have O4 : Hid (w4.ownsRow w.heap.size 9 1 v4 (bnsM (t.kids.take (k + 1))).length ((bnsM (t.kids.take (k + 1))).map encStr)) := hide (by rw [Hst.out, List.map_append, List.length_append]; exact hown4)
          clear hown4 hg4
          go_wp2
          go_roundw
          case rel => exact ⟨k + 1, hlt, by go_num, X4, O4⟩
          case measure => simp [intOf]; omega
      · have hge : ¬ (k : Int) < (t.kids.length : Int) := by omega
        have hkn : k = t.kids.length := by omega
        have HO2 : Hid (wr.ownsRow w.heap.size 9 1 u3 R.length (R.map encStr)) := hide (by have := HO.out; rw [hkn, HR.out] at this; exact this)
        obtain ⟨A', cap', hv, hn⟩ := NewStrs.own (w := w) HO2.out (Nat.le_refl _)
        subst hv
        have Hn := hide hn
        clear HO HO2 hn hkn
        go_wp2
        go_ret
        exact ⟨⟨A', cap', rfl, Hn.out⟩, HX.out⟩
  cases h9 : (t.kind == 9)
  · have hb : Hid (bindsM t = []) := hide (bindsM_none (by simpa using h3) (by simpa using h10) (by simpa using h9))
    generalize bindsM t = R at *
    have hR := hb.out
    subst hR
    unfold tmV
    go_enter Tryz.func114, Tryz.ntmps114
    go_wp2
    go_ret
    exact ⟨⟨none, 0, rfl, ⟨Nat.le_refl _, by omega, strs_iff.2 (RowOf.nil strC _ _), fun c o e => by cases e⟩⟩, X0.out⟩
  · have hb : Hid (bindsM t = match t.kids with | [] => [] | p :: _ => pvM p) := hide (bindsM_alt (by simpa using h9))
    by_cases hl : 0 < t.kids.length
    · have hl' : (t.kids.length : Int) > 0 := by omega
      have hb2 : Hid (bindsM t = pvM (t.kids[0]'hl)) := hide (by
        rw [hb.out]
        revert hl
        cases t.kids with
        | nil => intro hl; simp at hl
        | cons p l => intro _; rfl)
      obtain ⟨b, o, hA, hbb, q0, q1, q2, q3, q4, q5⟩ := first_kid (HK.out.ext X0.out) hl
      have HC := hide (m_patvars (t.kids[0]'hl) w (w.alloc (.cells #[.int .i64 t.kind, .int .i64 t.n, encStr t.name, .slice t.V t.vars.length t.vc, .slice t.T t.types.length t.tc, .slice t.A t.kids.length t.cap] 31)) (w.alloc (.cells #[.int .i64 t.kind, .int .i64 t.n, encStr t.name, .slice t.V t.vars.length t.vc, .slice t.T t.types.length t.tc, .slice t.A t.kids.length t.cap] 31)).heap.size (.slice none 0 0) [] (HK.out.kids _ (List.getElem_mem hl)) X0.out.below (by simp) (Nat.le_refl _) (World.ownsRow_nil _ _ _ _) (by have := HPs.out _ (List.getElem_mem hl); simp; omega))
      rw [List.nil_append] at HC
      clear hb
      generalize t.kids[0]'hl = x at *
      generalize bindsM t = R at *
      generalize pvM x = RP at *
      have hR := hb2.out
      subst hR
      unfold tmV at *
      generalize t.A = A0 at *
      subst hA
      go_enter Tryz.func114, Tryz.ntmps114
      go_wp2_with fail
      refine HC.out.mono ?_
      rintro e w2 ⟨⟨v, rfl, ho⟩, hB⟩
      have X2 := hide (X0.out.trans (Ext.of_below hB (Nat.le_refl _)))
      obtain ⟨A', cap', hv, hn⟩ := NewStrs.own (w := w) ho (by simp)
      subst hv
      have Hn := hide hn
      clear ho hB hn
      go_wp2
      go_ret
      exact ⟨⟨A', cap', rfl, Hn.out⟩, X2.out⟩
    · have hl' : ¬ (t.kids.length : Int) > 0 := by omega
      have hb2 : Hid (bindsM t = []) := hide (by
        rw [hb.out]
        revert hl
        cases t.kids with
        | nil => intro _; rfl
        | cons p l => intro hl; simp at hl)
      clear hb hl
      generalize bindsM t = R at *
      have hR := hb2.out
      subst hR
      unfold tmV
      go_enter Tryz.func114, Tryz.ntmps114
      go_wp2
      go_ret
      exact ⟨⟨none, 0, rfl, ⟨Nat.le_refl _, by omega, strs_iff.2 (RowOf.nil strC _ _), fun c o e => by cases e⟩⟩, X0.out⟩

end Go.Proofs.YtjacjpeeinnkcaaGreat

/- The names that nobody around binds: plain laws. No program in sight. -/
namespace Go.Proofs.YtjacjpeeinnkcaaGreat
open Go.RowKit

mutual
/-- The names that nobody around binds, in order. -/
def freeQ : Tm.Pure → List Str → List Str
  | .mk k _ s _ _ l, b => if k = 1 then (if b.any (· == s) then [] else [s]) else freeQs l (b ++ bindsQ k s l)
def freeQs : List Tm.Pure → List Str → List Str
  | [], _ => []
  | x :: l, b => freeQ x b ++ freeQs l b
end
theorem freeQs_flat (l : List Tm.Pure) (b : List Str) : freeQs l b = l.flatMap fun x => freeQ x b := by
  induction l with
  | nil => rfl
  | cons x l ih => simp only [freeQs, List.flatMap_cons, ih]
theorem filter_flat {α β : Type} (p : β → Bool) (f : α → List β) (l : List α) : (l.flatMap f).filter p = l.flatMap fun x => (f x).filter p := by
  induction l with
  | nil => rfl
  | cons x l ih => rw [List.flatMap_cons, List.flatMap_cons, List.filter_append, ih]
theorem flat_congr {α β : Type} {f g : α → List β} {l : List α} (h : ∀ x ∈ l, f x = g x) : l.flatMap f = l.flatMap g := by
  induction l with
  | nil => rfl
  | cons x l ih => rw [List.flatMap_cons, List.flatMap_cons, h x (by simp), ih (fun y hy => h y (List.mem_cons_of_mem _ hy))]
/-- One more name around: that one is not free any more. -/
theorem freeQ_drop (s : Str) (t : Tm.Pure) : ∀ b b' : List Str, (∀ x, b.any (· == x) = ((x == s) || b'.any (· == x))) → freeQ t b = (freeQ t b').filter fun x => !(x == s) := by
  induction t using Tm.Pure.ind with
  | h t ih =>
  intro b b' h
  obtain ⟨k, n, s', vs, ts, l⟩ := t
  have ih : ∀ x ∈ l, ∀ b b' : List Str, (∀ x, b.any (· == x) = ((x == s) || b'.any (· == x))) → freeQ x b = (freeQ x b').filter fun x => !(x == s) := ih
  rw [freeQ, freeQ]
  split
  · rw [h]
    cases h1 : (s' == s) <;> cases h2 : b'.any (· == s') <;> simp [h1]
  · rw [freeQs_flat, freeQs_flat, filter_flat]
    refine flat_congr (fun x hx => ih x hx _ _ (fun y => ?_))
    rw [List.any_append, List.any_append, h, Bool.or_assoc]
noncomputable def freeM (t : Tm) (b : List Str) : List Str := freeQ t.pure b
noncomputable def freesM (l : List Tm) (b : List Str) : List Str := l.flatMap fun x => freeM x b
theorem freeM_eq (t : Tm) (b : List Str) : freeM t b = if t.kind = 1 then (if b.any (· == t.name) then [] else [t.name]) else freesM t.kids (b ++ bindsM t) := by
  unfold freeM freesM bindsM
  rw [Tm.pure_eq, freeQ, freeQs_flat, List.flatMap_map]
  rfl
theorem freesM_take (l : List Tm) (b : List Str) {k : Nat} (h : k < l.length) : freesM (l.take (k + 1)) b = freesM (l.take k) b ++ freeM (l[k]'h) b := by
  unfold freesM
  rw [List.take_succ_eq_append_getElem h, List.flatMap_append]
  simp
/-- All free names, rising. -/
noncomputable def frL (t : Tm) : List Str := ofL (freeM t [])
theorem frL_lam (s : Str) (t u : Tm) (x : Ty.Pure) (h : u.pure = lamP s x t.pure) : frL u = (frL t).filter fun y => !(y == s) := by
  have e : freeM u [] = (freeM t []).filter fun y => !(y == s) := by
    unfold freeM
    rw [h]
    unfold lamP
    rw [freeQ, if_neg (by decide), freeQs, freeQs, List.append_nil]
    refine freeQ_drop s t.pure _ _ (fun y => ?_)
    have hb : bindsQ 3 s [t.pure] = [s] := by unfold bindsQ; rw [if_pos rfl]
    rw [hb]
    simp only [List.nil_append, List.any_cons, List.any_nil, Bool.or_false]
    exact Bool.eq_iff_iff.2 (by simp only [beq_iff_eq]; exact eq_comm)
  unfold frL
  rw [e]
  refine (ofL_rising _).ext ((ofL_rising _).sublist List.filter_sublist) (fun y => ?_)
  rw [ofL_mem, List.mem_filter, List.mem_filter, ofL_mem]

end Go.Proofs.YtjacjpeeinnkcaaGreat

/- Contracts on lists of texts: is one in a list; are two lists alike. -/
namespace Go.Proofs.YtjacjpeeinnkcaaGreat
open Go.RowKit Go.Sort

set_option maxHeartbeats 1000000 in
theorem ref_has (A : Option Addr) (cap : Nat) (l : List Str) (x : Str) (w : World) (h : Strs w A l) (hle : l.length ≤ 9223372036854775807) :
    Calls Tryz.prog 170 #[.slice A l.length cap, encStr x] w fun e w' => e = .returned (.bool (l.any (· == x))) ∧ w' = w := by
  have Hany : Hid (∀ j, j < l.length → (l.getD j [] == x) = true → l.any (· == x) = true) := hide (by
    intro j hj hb
    rw [List.any_eq_true]
    exact ⟨l.getD j [], by simp [hj], hb⟩)
  have Hnone : Hid ((∀ j, j < l.length → (l.getD j [] == x) = false) → l.any (· == x) = false) := hide (by
    intro hall
    rw [List.any_eq_false]
    intro s hs
    obtain ⟨j, hj, rfl⟩ := List.getElem_of_mem hs
    have := hall j hj
    simpa [hj] using this)
  have Hr := hide h
  clear h
  generalize l.any (· == x) = R at *
  go_enter Tryz.func170, Tryz.ntmps170
  go_wp2
  go_loop [5] (fun i => ∃ j : Nat, j ≤ l.length ∧ i = .int .i64 j ∧ Hid (∀ i, i < j → (l.getD i [] == x) = false)) (fun i => l.length - (intOf i).toNat)
  case atStart => exact ⟨0, Nat.zero_le _, rfl, hide (fun i hi => absurd hi (by omega))⟩
  case round =>
    obtain ⟨j, hj, rfl, Hj⟩ := hrel
    by_cases hlt : j < l.length
    · obtain ⟨b, o, rfl, hb, hc⟩ := Hr.out.at_ hlt
      have hlt' : (j : Int) < (l.length : Int) := by omega
      generalize hy : l.getD j [] = y at hc
      have Hy := hide hy
      clear hy
      cases hs : (y == x)
      · go_wp2
        go_round
        case rel =>
          refine ⟨j + 1, hlt, by go_num, hide (fun i hi => ?_)⟩
          by_cases hij : i = j
          · rw [hij, Hy.out]; exact hs
          · exact Hj.out i (by omega)
        case measure => simp [intOf]; omega
      · have hR := Hany.out j hlt (by rw [Hy.out]; exact hs)
        subst hR
        go_wp2
        go_ret
        exact ⟨rfl, rfl⟩
    · have hge : (l.length : Int) ≤ (j : Int) := by omega
      have hR := Hnone.out (fun i hi => Hj.out i (by omega))
      subst hR
      go_wp2
      go_ret
      exact ⟨rfl, rfl⟩

theorem alike_of {l m : List Str} (hlen : l.length = m.length) (h : ∀ i, i < l.length → l.getD i [] = m.getD i []) : l = m := by
  apply List.ext_getElem hlen
  intro i h1 h2
  have := h i h1
  simpa [h1, h2] using this

set_option maxHeartbeats 1000000 in
theorem ref_texts (A B : Option Addr) (cap cap' : Nat) (l m : List Str) (w : World) (h : Strs w A l) (h' : Strs w B m) (hle : l.length ≤ 9223372036854775807) :
    Calls Tryz.prog 53 #[.slice A l.length cap, .slice B m.length cap'] w fun e w' => e = .returned (.bool (decide (l = m))) ∧ Ext w w' := by
  by_cases hlen : l.length = m.length
  · have Hall : Hid ((∀ j, j < l.length → l.getD j [] = m.getD j []) → decide (l = m) = true) := hide (fun hall => decide_eq_true (alike_of hlen hall))
    have Hne : Hid (∀ j, l.getD j [] ≠ m.getD j [] → decide (l = m) = false) := hide (fun j hj => decide_eq_false (fun e => hj (by rw [e])))
    have Hl := hide h
    have Hm := hide h'
    have Hlen := hide hlen
    clear h h'
    generalize decide (l = m) = R at *
    rw [← hlen]
    clear hlen
    go_enter Tryz.func53, Tryz.ntmps53
    go_wp2
    go_loopw [5] (fun i wr => ∃ j : Nat, j ≤ l.length ∧ i = .int .i64 j ∧ Hid (∀ i, i < j → l.getD i [] = m.getD i []) ∧ ∃ n, wr = w.drewN n) (fun i _ => l.length - (intOf i).toNat)
    case atStart => exact ⟨0, Nat.zero_le _, rfl, hide (fun i hi => absurd hi (by omega)), 0, rfl⟩
    case round =>
      obtain ⟨j, hj, rfl, Hj, n, rfl⟩ := hrel
      by_cases hlt : j < l.length
      · obtain ⟨b, o, rfl, hb, hc⟩ := Hl.out.at_ hlt
        obtain ⟨b', o', rfl, hb', hc'⟩ := Hm.out.at_ (by rw [← Hlen.out]; exact hlt)
        have hlt' : (j : Int) < (l.length : Int) := by omega
        have hj0 : (0 : Int) ≤ (j : Int) := by omega
        generalize hy : l.getD j [] = y at hc
        generalize hz : m.getD j [] = z at hc'
        have Hy := hide hy
        have Hz := hide hz
        clear hy hz
        cases hs : (y == z)
        · have hs' : (y != z) = true := by simp [bne, hs]
          have hR := Hne.out j (by rw [Hy.out, Hz.out]; simpa using hs)
          subst hR
          go_wp2
          go_quiet (fail)
          go_wp2
          go_ret
          exact ⟨rfl, (by repeat (first | exact Ext.refl _ | exact Ext.pre (by simp) | exact Ext.alloc (by assumption) _ | refine Ext.alloc ?_ _ |  refine Ext.more ?_ _ _ | refine Ext.drew ?_ | refine Ext.drewN ?_ _))⟩
        · have hs' : (y != z) = false := by simp [bne, hs]
          go_wp2
          go_quiet (fail)
          go_wp2
          go_roundw
          case rel =>
            refine ⟨j + 1, hlt, by go_num, hide (fun i hi => ?_), _, rfl⟩
            by_cases hij : i = j
            · rw [hij, Hy.out, Hz.out]; simpa using hs
            · exact Hj.out i (by omega)
          case measure => simp [intOf]; omega
      · have hge : (l.length : Int) ≤ (j : Int) := by omega
        have hR := Hall.out (fun i hi => Hj.out i (by omega))
        subst hR
        go_wp2
        go_ret
        exact ⟨rfl, (by repeat (first | exact Ext.refl _ | exact Ext.pre (by simp) | exact Ext.alloc (by assumption) _ | refine Ext.alloc ?_ _ |  refine Ext.more ?_ _ _ | refine Ext.drew ?_ | refine Ext.drewN ?_ _))⟩
  · have hne : ((l.length : Int) != (m.length : Int)) = true := by rw [bne_iff_ne]; omega
    have hR : decide (l = m) = false := decide_eq_false (fun e => hlen (by rw [e]))
    rw [hR]
    clear h h' hR
    go_enter Tryz.func53, Tryz.ntmps53
    go_wp2
    go_ret
    exact ⟨rfl, (by repeat (first | exact Ext.refl _ | exact Ext.pre (by simp) | exact Ext.alloc (by assumption) _ | refine Ext.alloc ?_ _ |  refine Ext.more ?_ _ _ | refine Ext.drew ?_ | refine Ext.drewN ?_ _))⟩

end Go.Proofs.YtjacjpeeinnkcaaGreat
