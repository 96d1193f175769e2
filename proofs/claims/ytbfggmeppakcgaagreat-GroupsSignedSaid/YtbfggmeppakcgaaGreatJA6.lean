/- Contracts on lists of texts: is one in a list; are two lists alike. -/
import Derived.Test.YtbfggmeppakcgaaGreatJA5
import Derived.Test.YtbfggmeppakcgaaGreatProg
import Derived.WalkSpells
import Derived.WalkLawsBesides
import Derived.Deep.QuietTactic
import Derived.BigQuiet
/- Contracts on lists of texts: is one in a list; are two lists alike. -/
namespace Go.Proofs.YtbfggmeppakcgaaGreat
open Go.RowKit Go.Sort


theorem alike_of {l m : List Str} (hlen : l.length = m.length) (h : ∀ i, i < l.length → l.getD i [] = m.getD i []) : l = m := by
  apply List.ext_getElem hlen
  intro i h1 h2
  have := h i h1
  simpa [h1, h2] using this

set_option maxHeartbeats 1000000 in
theorem ref_texts (A B : Option Addr) (cap cap' : Nat) (l m : List Str) (w : World) (h : Strs w A l) (h' : Strs w B m) (hle : l.length ≤ 9223372036854775807) :
    Calls Tryz.prog 12 #[.slice A l.length cap, .slice B m.length cap'] w fun e w' => e = .returned (.bool (decide (l = m))) ∧ Ext w w' := by
  by_cases hlen : l.length = m.length
  · have Hall : Hid ((∀ j, j < l.length → l.getD j [] = m.getD j []) → decide (l = m) = true) := hide (fun hall => decide_eq_true (alike_of hlen hall))
    have Hne : Hid (∀ j, l.getD j [] ≠ m.getD j [] → decide (l = m) = false) := hide (fun j hj => decide_eq_false (fun e => hj (by rw [e])))
    have Hl := hide h
    have Hm := hide h'
    have Hlen := hide hlen
    clear h h'
    generalize decide (l = m) = R at *
    rw [← hlen]
    clear hlen
    go_enter Tryz.func12, Tryz.ntmps12
    go_wp2
    go_loopw [5] (fun i wr => ∃ j : Nat, j ≤ l.length ∧ i = .int .i64 j ∧ Hid (∀ i, i < j → l.getD i [] = m.getD i []) ∧ ∃ n, wr = w.drewN n) (fun i _ => l.length - (intOf i).toNat)
    case atStart => exact ⟨0, Nat.zero_le _, rfl, hide (fun i hi => absurd hi (by omega)), 0, rfl⟩
    case round =>
      obtain ⟨j, hj, rfl, Hj, n, rfl⟩ := hrel
      by_cases hlt : j < l.length
      · obtain ⟨b, o, rfl, hb, hc⟩ := Hl.out.at_ hlt
        obtain ⟨b', o', rfl, hb', hc'⟩ := Hm.out.at_ (by rw [← Hlen.out]; exact hlt)
        have hlt' : (j : Int) < (l.length : Int) := by omega
        have hj0 : (0 : Int) ≤ (j : Int) := by omega
        generalize hy : l.getD j [] = y at hc
        generalize hz : m.getD j [] = z at hc'
        have Hy := hide hy
        have Hz := hide hz
        clear hy hz
        cases hs : (y == z)
        · have hs' : (y != z) = true := by simp [bne, hs]
          have hR := Hne.out j (by rw [Hy.out, Hz.out]; simpa using hs)
          subst hR
          go_wp2
          go_quiet (fail)
          go_wp2
          go_ret
          exact ⟨rfl, (by repeat (first | exact Ext.refl _ | exact Ext.pre (by simp) | exact Ext.alloc (by assumption) _ | refine Ext.alloc ?_ _ |  refine Ext.more ?_ _ _ | refine Ext.drew ?_ | refine Ext.drewN ?_ _))⟩
        · have hs' : (y != z) = false := by simp [bne, hs]
          go_wp2
          go_quiet (fail)
          go_wp2
          go_roundw
          case rel =>
            refine ⟨j + 1, hlt, by go_num, hide (fun i hi => ?_), _, rfl⟩
            by_cases hij : i = j
            · rw [hij, Hy.out, Hz.out]; simpa using hs
            · exact Hj.out i (by omega)
          case measure => simp [intOf]; omega
      · have hge : (l.length : Int) ≤ (j : Int) := by omega
        have hR := Hall.out (fun i hi => Hj.out i (by omega))
        subst hR
        go_wp2
        go_ret
        exact ⟨rfl, (by repeat (first | exact Ext.refl _ | exact Ext.pre (by simp) | exact Ext.alloc (by assumption) _ | refine Ext.alloc ?_ _ |  refine Ext.more ?_ _ _ | refine Ext.drew ?_ | refine Ext.drewN ?_ _))⟩
  · have hne : ((l.length : Int) != (m.length : Int)) = true := by rw [bne_iff_ne]; omega
    have hR : decide (l = m) = false := decide_eq_false (fun e => hlen (by rw [e]))
    rw [hR]
    clear h h' hR
    go_enter Tryz.func12, Tryz.ntmps12
    go_wp2
    go_ret
    exact ⟨rfl, (by repeat (first | exact Ext.refl _ | exact Ext.pre (by simp) | exact Ext.alloc (by assumption) _ | refine Ext.alloc ?_ _ |  refine Ext.more ?_ _ _ | refine Ext.drew ?_ | refine Ext.drewN ?_ _))⟩

end Go.Proofs.YtbfggmeppakcgaaGreat

/- Contracts: the names that some nodes bind, by the program and by the reference. -/
namespace Go.Proofs.YtbfggmeppakcgaaGreat
open Go.RowKit

theorem str_infoU : (Tryz.prog.info? 9).map (fun i => (i.zero, i.size, i.bytes)) = some (some (.string ⟨#[]⟩), 1, 16) := by kernel_rfl
theorem Strs.boxedU {w : World} {b : Nat} {t : TypeId} {fr : Nat × Nat} (x : Str) (h : w.heap[b]? = some (.cells #[encStr x] t fr)) : Row w (some ⟨b, 0, none⟩) 1 1 [encStr x] := by
  refine ⟨rfl, fun _ => ⟨b, 0, rfl, lt_of_obj h, fun j u hu => ?_⟩⟩
  match j with
  | 0 => simp at hu; subst hu; simp [World.cell?, h]
  | j + 1 => simp at hu
/-- Behind an append to what is one's own. -/
theorem Ext.appU {w a b : World} {base : Nat} {e : TypeId} {size n : Nat} {v : Value} {xs : List Value} (h : Ext w a) (hg : a.grownBy b v.ownBlock) (ho : a.ownsRow base e size v n xs) (hb : w.heap.size ≤ base) : Ext w b :=
  h.grown hg (fun k hk => Nat.le_trans hb (ho.lt k hk).1)

/-- The names of all bindings. -/
def bindsL (l : List Tree) : List Str := (l.filter fun t => t.kind == 31).map Tree.text
theorem bindsL_take (l : List Tree) {k : Nat} (h : k < l.length) : bindsL (l.take (k + 1)) = bindsL (l.take k) ++ if (l[k]'h).kind == 31 then [(l[k]'h).text] else [] := by
  unfold bindsL
  rw [List.take_succ_eq_append_getElem h, List.filter_append, List.map_append]
  congr 1
  cases hk : ((l[k]'h).kind == 31) <;> simp [hk]
theorem bindsL_len (l : List Tree) : (bindsL l).length ≤ l.length := by
  unfold bindsL
  rw [List.length_map]
  exact List.length_filter_le _ _

set_option maxRecDepth 10000 in
set_option maxHeartbeats 1000000 in
theorem u_binds (A : Option Addr) (cap : Nat) (l : List Tree) (w : World) (h : NodesIn w A l) (hl : l.length ≤ 100000) :
    Calls Tryz.prog 6 #[.slice A l.length cap] w fun e w' => (∃ A' cap', e = .returned (.slice A' (bindsL l).length cap') ∧ (bindsL l).length ≤ cap' ∧ cap' ≤ 9223372036854775807 ∧ Strs w' A' (bindsL l) ∧ ∀ c o, A' = some ⟨c, o, none⟩ → w.heap.size ≤ c) ∧ Ext w w' := by
  obtain ⟨i0, hi, hz0, hz1, hz2⟩ := info_parts str_infoU
  have HK := hide h
  have Htk := hide (fun k (hk : k < l.length) => bindsL_take l hk)
  have Hln := hide (fun k => bindsL_len (l.take k))
  have HR : Hid (bindsL (l.take l.length) = bindsL l) := hide (by rw [List.take_length])
  generalize bindsL l = R at *
  clear h
  go_enter Tryz.func6, Tryz.ntmps6
  go_wp2
  go_loopw [3, 8] (fun v i wr => ∃ k : Nat, k ≤ l.length ∧ i = .int .i64 k ∧ Hid (Ext w wr) ∧ Hid (wr.ownsRow w.heap.size 9 1 v (bindsL (l.take k)).length ((bindsL (l.take k)).map encStr))) (fun _ i _ => l.length - (intOf i).toNat)
  case atStart => exact ⟨0, Nat.zero_le _, rfl, hide (Ext.refl _), hide (World.ownsRow_nil _ _ _ _)⟩
  case round =>
    obtain ⟨k, hk, rfl, HX, HO⟩ := hrel
    by_cases hlt : k < l.length
    · have hlt' : (k : Int) < (l.length : Int) := by omega
      have hk0 : (0 : Int) ≤ (k : Int) := by omega
      obtain ⟨b, o, rfl, hb, q0, q1, q2, q3, q4⟩ := (HK.out.ext HX.out).at_ hlt
      have Hst := hide (Htk.out k hlt)
      have hol : (bindsL (l.take k)).length ≤ k := by have := Hln.out k; rw [List.length_take] at this; omega
      generalize bindsL (l.take k) = L at *
      generalize l[k]'hlt = c at *
      cases hc : (c.kind == 31)
      · rw [hc] at Hst
        go_wp2
        go_roundw
        case rel => exact ⟨k + 1, hlt, by go_num, hide (HX.out.alloc _), hide (by rw [Hst.out]; simpa using own_extB HO.out ((Ext.refl _).alloc _))⟩
        case measure => simp [intOf]; omega
      · rw [hc] at Hst
        go_wp2_with (at_builtin; refine wpList_append_row _ rfl _ _ 25 rfl w.heap.size 9 i0 _ 1 16 Tryz.underlying25 hi hz0 hz1 hz2 rfl (by decide) u3 L.length (L.map encStr) rfl (own_extB HO.out (((Ext.refl _).alloc _).alloc _)) _ 1 1 [encStr c.text] rfl ?c2 ?c3 ?c4 ?c5 ?c6 ?_)
        case c2 => exact Strs.boxedU _ (at_newB _ _ _ (by simp))
        case c3 => first | rfl | (intro y hy; simp at hy; subst hy; rfl)
        case c4 => unfold maxLen; omega
        case c5 => omega
        case c6 => have := HX.out.size; simp; omega
        intro v4 w4 hown4 hg4 _
        have X4 := hide (Ext.appU ((HX.out.alloc _).alloc _) hg4 (own_extB HO.out (((Ext.refl _).alloc _).alloc _)) (Nat.le_refl _))
        have O4 := hide hown4
        clear hown4 hg4
        go_wp2
        go_roundw
        case rel => exact ⟨k + 1, hlt, by go_num, X4, hide (by rw [Hst.out]; simpa using O4.out)⟩
        case measure => simp [intOf]; omega
    · have hge : ¬ (k : Int) < (l.length : Int) := by omega
      have hkl : k = l.length := by omega
      rw [hkl, HR.out] at HO
      obtain ⟨A5, c5, rfl, p1, p2, p3, p4⟩ := Strs.of_own HO.out
      have P3 := hide p3
      have P4 := hide p4
      clear p3 p4 hkl
      go_wp2
      go_ret
      exact ⟨⟨A5, c5, rfl, p1, p2, P3.out, fun c o e => (P4.out c o e).1⟩, HX.out⟩


end Go.Proofs.YtbfggmeppakcgaaGreat

/- Contracts: the constructors of a tree, behind others. -/
namespace Go.Proofs.YtbfggmeppakcgaaGreat
open Go.RowKit

/-- A name that is used, and where. -/
structure Use where
  name : Str
  pos : Int
def useC : Coder Use := ⟨2, fun u => [encStr u.name, .int .i64 u.pos], fun _ => rfl, by omega⟩
abbrev Uses (w : World) (A : Option Addr) (l : List Use) : Prop := RowOf useC w A l
theorem use_info : (Tryz.prog.info? 72).map (fun i => (i.zero, i.size, i.bytes)) = some (some (.agg #[.string ⟨#[]⟩, .int .i64 0]), 2, 24) := by kernel_rfl
theorem Row.use2 {w : World} {b : Nat} {t : TypeId} {fr : Nat × Nat} (x : Str) (z : Int) (h : w.heap[b]? = some (.cells #[encStr x, .int .i64 z] t fr)) : Row w (some ⟨b, 0, none⟩) 2 1 [encStr x, .int .i64 z] := by
  refine ⟨rfl, fun _ => ⟨b, 0, rfl, lt_of_obj h, fun j u hu => ?_⟩⟩
  match j with
  | 0 => simp at hu; subst hu; simp [World.cell?, h]
  | 1 => simp at hu; subst hu; simp [World.cell?, h]
  | j + 2 => simp at hu
theorem Use.own {w : World} {base : Nat} {v : Value} {l : List Use} (h : w.ownsRow base 72 2 v l.length (l.flatMap useC.f)) :
    ∃ A cap, v = .slice A l.length cap ∧ l.length ≤ cap ∧ cap ≤ 9223372036854775807 ∧ Uses w A l ∧ ∀ c o, A = some ⟨c, o, none⟩ → base ≤ c ∧ c < w.heap.size := RowOf.own useC h
theorem use_flat (l : List Use) (u : Use) : (l ++ [u]).flatMap useC.f = l.flatMap useC.f ++ [encStr u.name, .int .i64 u.pos] := by
  rw [List.flatMap_append]
  rfl

/-- The constructors of a tree. -/
noncomputable def consL : Tree → List Use := Tree.fold fun t l => (if t.kind == 22 || t.kind == 14 then [⟨t.text, t.pos⟩] else []) ++ l.flatten
noncomputable def consesL (l : List Tree) : List Use := (l.map consL).flatten
theorem consL_eq (t : Tree) : consL t = (if t.kind == 22 || t.kind == 14 then [⟨t.text, t.pos⟩] else []) ++ consesL t.kids := by
  unfold consL
  rw [Tree.fold_eq]
  rfl
theorem consesL_take (l : List Tree) {k : Nat} (h : k < l.length) : consesL (l.take (k + 1)) = consesL (l.take k) ++ consL (l[k]'h) := by
  unfold consesL
  rw [List.take_succ_eq_append_getElem h, List.map_append, List.flatten_append]
  congr 1
  simp
theorem sum_map_le {α : Type} (f g : α → Nat) : ∀ l : List α, (∀ x ∈ l, f x ≤ g x) → (l.map f).sum ≤ (l.map g).sum
  | [], _ => Nat.le_refl _
  | x :: l, h => by
    have h1 := h x (List.mem_cons_self ..)
    have h2 := sum_map_le f g l (fun y hy => h y (List.mem_cons_of_mem _ hy))
    simp only [List.map_cons, List.sum_cons]
    omega
theorem consL_len (t : Tree) : (consL t).length ≤ t.size := by
  induction t using Tree.ind with
  | h t ih =>
  rw [consL_eq, Tree.size_eq, List.length_append]
  have h1 : (consesL t.kids).length ≤ (t.kids.map Tree.size).sum := by
    unfold consesL
    rw [List.length_flatten, List.map_map]
    exact sum_map_le _ _ _ ih
  split <;> simp <;> omega
theorem consesL_len (l : List Tree) (k : Nat) : (consesL (l.take k)).length ≤ sizes l := by
  have h1 : (consesL (l.take k)).length ≤ sizes (l.take k) := by
    unfold consesL sizes
    rw [List.length_flatten, List.map_map]
    exact sum_map_le _ _ _ (fun x _ => consL_len x)
  exact Nat.le_trans h1 (sizes_le l k)

theorem consesL_room (l : List Tree) {k : Nat} (h : k < l.length) : (consesL (l.take k)).length + (l[k]'h).size ≤ sizes l := by
  have h1 : (consesL (l.take k)).length ≤ sizes (l.take k) := by
    have := consesL_len (l.take k) k
    rwa [List.take_take, Nat.min_self] at this
  have h2 := sizes_take l h
  have h3 := sizes_le l (k + 1)
  omega


end Go.Proofs.YtbfggmeppakcgaaGreat

/- Contracts: the variables of a pattern, and their names. -/
namespace Go.Proofs.YtbfggmeppakcgaaGreat
open Go.RowKit

theorem node_info : (Tryz.prog.info? 28).map (fun i => (i.zero, i.size, i.bytes)) = some (some (.agg #[.int .i64 0, .int .i64 0, .int .i64 0, .string ⟨#[]⟩, .slice none 0 0]), 5, 64) := by kernel_rfl
theorem Row.node {w : World} {b : Nat} {t : TypeId} {fr : Nat × Nat} (x0 x1 x2 x3 x4 : Value) (h : w.heap[b]? = some (.cells #[x0, x1, x2, x3, x4] t fr)) : Row w (some ⟨b, 0, none⟩) 5 1 [x0, x1, x2, x3, x4] := by
  refine ⟨rfl, fun _ => ⟨b, 0, rfl, lt_of_obj h, fun j u hu => ?_⟩⟩
  match j with
  | 0 => simp at hu; subst hu; simp [World.cell?, h]
  | 1 => simp at hu; subst hu; simp [World.cell?, h]
  | 2 => simp at hu; subst hu; simp [World.cell?, h]
  | 3 => simp at hu; subst hu; simp [World.cell?, h]
  | 4 => simp at hu; subst hu; simp [World.cell?, h]
  | j + 5 => simp at hu
theorem node_flat (l : List Tree) (u : Tree) : (l ++ [u]).flatMap treeC.f = l.flatMap treeC.f ++ [.int .i64 u.kind, .int .i64 u.pos, .int .i64 u.n, encStr u.text, .slice u.A u.kids.length u.cap] := by
  rw [List.flatMap_append]
  rfl

/-- The variables of a pattern. -/
noncomputable def varsL : Tree → List Tree := Tree.fold fun t l => if t.kind == 11 then [t] else l.flatten
noncomputable def varsesL (l : List Tree) : List Tree := (l.map varsL).flatten
theorem varsL_eq (t : Tree) : varsL t = if t.kind == 11 then [t] else varsesL t.kids := by
  unfold varsL
  rw [Tree.fold_eq]
  rfl
theorem varsesL_take (l : List Tree) {k : Nat} (h : k < l.length) : varsesL (l.take (k + 1)) = varsesL (l.take k) ++ varsL (l[k]'h) := by
  unfold varsesL
  rw [List.take_succ_eq_append_getElem h, List.map_append, List.flatten_append]
  congr 1
  simp
theorem sum_map_leV {α : Type} (f g : α → Nat) : ∀ l : List α, (∀ x ∈ l, f x ≤ g x) → (l.map f).sum ≤ (l.map g).sum
  | [], _ => Nat.le_refl _
  | x :: l, h => by
    have h1 := h x (List.mem_cons_self ..)
    have h2 := sum_map_leV f g l (fun y hy => h y (List.mem_cons_of_mem _ hy))
    simp only [List.map_cons, List.sum_cons]
    omega
theorem varsL_len (t : Tree) : (varsL t).length ≤ t.size := by
  induction t using Tree.ind with
  | h t ih =>
  rw [varsL_eq, Tree.size_eq]
  have h1 : (varsesL t.kids).length ≤ (t.kids.map Tree.size).sum := by
    unfold varsesL
    rw [List.length_flatten, List.map_map]
    exact sum_map_leV _ _ _ ih
  split
  · simp
  · omega
theorem varsesL_room (l : List Tree) {k : Nat} (h : k < l.length) : (varsesL (l.take k)).length + (l[k]'h).size ≤ sizes l := by
  have h1 : (varsesL (l.take k)).length ≤ sizes (l.take k) := by
    unfold varsesL sizes
    rw [List.length_flatten, List.map_map]
    exact sum_map_leV _ _ _ (fun x _ => varsL_len x)
  have h2 := sizes_take l h
  have h3 := sizes_le l (k + 1)
  omega
theorem varsL_in {w : World} {t : Tree} (h : NodeIn w t) : ∀ u ∈ varsL t, NodeIn w u := by
  revert h
  induction t using Tree.ind with
  | h t ih =>
  intro h u hu
  rw [varsL_eq] at hu
  split at hu
  · rw [List.mem_singleton] at hu
    subst hu
    exact h
  · unfold varsesL at hu
    obtain ⟨_, hl, hu⟩ := List.mem_flatten.1 hu
    obtain ⟨k, hk, rfl⟩ := List.mem_map.1 hl
    exact ih k hk (h.nodes.kids k hk) u hu

set_option maxRecDepth 10000 in
set_option maxHeartbeats 2000000 in
theorem p_varsI (t : Tree) : ∀ (w0 w : World) (base : Nat) (v : Value) (us : List Tree), NodeIn w0 t → Below w0.heap.size w0 w → w0.heap.size ≤ base → base ≤ w.heap.size →
    w.ownsRow base 28 5 v us.length (us.flatMap treeC.f) → us.length + t.size ≤ 100000 →
    Calls Tryz.prog 76 #[v, treeV t] w fun e w' => (∃ v', e = .returned v' ∧ w'.ownsRow base 28 5 v' (us ++ varsL t).length ((us ++ varsL t).flatMap treeC.f)) ∧ Below base w w' := by
  induction t using Tree.ind with
  | h t ih =>
  intro w0 w base v us h hB hb0 hb hO hsz
  obtain ⟨i0, hi, hz0, hz1, hz2⟩ := info_parts node_info
  have IH := hide ih
  have Hk := hide h.nodes
  have hle := h.le
  have hmx := h.max
  have HBw := hide hB
  have HO := hide hO
  have HE := hide (varsL_eq t)
  have HS : Hid (t.size = sizes t.kids + 1) := hide (Tree.size_eq t)
  have HSt := hide (fun k (hk : k < t.kids.length) => varsesL_take t.kids hk)
  have HSk := hide (fun k (hk : k < t.kids.length) => varsesL_room t.kids hk)
  have HSz := hide (fun k (hk : k ∈ t.kids) => Tree.size_kid hk)
  have HB0 := hide (NBox.new w t)
  have HA : Hid (Below base w (w.alloc (.cells #[.int .i64 t.kind, .int .i64 t.pos, .int .i64 t.n, encStr t.text, .slice t.A t.kids.length t.cap] 28))) := hide ((Below.refl _ _).alloc hb _)
  have OA : Hid ((w.alloc (.cells #[.int .i64 t.kind, .int .i64 t.pos, .int .i64 t.n, encStr t.text, .slice t.A t.kids.length t.cap] 28)).ownsRow base 28 5 v us.length (us.flatMap treeC.f)) := hide (own_extB HO.out ((Ext.refl _).alloc _))
  clear ih h hB hO
  unfold treeV
  generalize hA0 : t.A = A0 at *
  have HA0 := hide hA0
  clear hA0
  cases h11 : (t.kind == 11)
  · have HE2 : Hid (varsL t = varsesL t.kids) := hide (by rw [HE.out, h11]; rfl)
    clear HE
    have HU : Hid (us ++ varsesL t.kids = us ++ varsL t) := hide (by rw [HE2.out])
    go_enter Tryz.func76, Tryz.ntmps76
    go_wp2
    go_loopw [0, 17] (fun v i wr => ∃ k : Nat, k ≤ t.kids.length ∧ i = .int .i64 k ∧ Hid (Below base w wr) ∧ Hid (wr.ownsRow base 28 5 v (us ++ varsesL (t.kids.take k)).length ((us ++ varsesL (t.kids.take k)).flatMap treeC.f))) (fun _ i _ => t.kids.length - (intOf i).toNat)
    case atStart => exact ⟨0, Nat.zero_le _, rfl, HA, hide (by simpa [varsesL] using OA.out)⟩
    case round =>
      obtain ⟨k, hk, rfl, HW, HOw⟩ := hrel
      by_cases hlt : k < t.kids.length
      · have hlt' : (k : Int) < (t.kids.length : Int) := by omega
        have hk0 : (0 : Int) ≤ (k : Int) := by omega
        have HKw : Hid (Below w0.heap.size w0 wr) := hide (HBw.out.trans (HW.out.mono hb0))
        obtain ⟨b, o, rfl, hbb, q0, q1, q2, q3, q4⟩ := (Hk.out.old HKw.out).at_ hlt
        have hck := List.getElem_mem hlt
        have hcs := HSz.out _ hck
        have hsw := HW.out.size
        have Hst := hide (HSt.out k hlt)
        have HC := hide (IH.out _ hck w0 (wr.alloc (.cells #[.int .i64 (t.kids[k]'hlt).kind, .int .i64 (t.kids[k]'hlt).pos, .int .i64 (t.kids[k]'hlt).n, encStr (t.kids[k]'hlt).text, .slice (t.kids[k]'hlt).A (t.kids[k]'hlt).kids.length (t.kids[k]'hlt).cap] 28)) base u0 (us ++ varsesL (t.kids.take k)) (Hk.out.kids _ hck)
          (HKw.out.alloc (by have := HKw.out.size; omega) _) hb0 (by simp; omega) (own_extB HOw.out ((Ext.refl _).alloc _)) (by
            have h1 := HS.out
            have h2 := HSk.out k hlt
            rw [List.length_append]
            omega))
        have HWa : Hid (Below base w (wr.alloc (.cells #[.int .i64 (t.kids[k]'hlt).kind, .int .i64 (t.kids[k]'hlt).pos, .int .i64 (t.kids[k]'hlt).n, encStr (t.kids[k]'hlt).text, .slice (t.kids[k]'hlt).A (t.kids[k]'hlt).kids.length (t.kids[k]'hlt).cap] 28))) := hide (HW.out.alloc (by omega) _)
        clear hck
        generalize t.kids[k]'hlt = c at *
        go_wp2_with fail
        refine HC.out.mono ?_
        rintro e w4 ⟨⟨v4, rfl, hO4⟩, hB4⟩
        have W4 := hide (HWa.out.trans hB4)
        have O4 := hide hO4
        clear hO4 hB4
        go_wp2
        go_roundw
        case rel => exact ⟨k + 1, hlt, by go_num, W4, hide (by rw [Hst.out, ← List.append_assoc]; exact O4.out)⟩
        case measure => simp [intOf]; omega
      · have hge : ¬ (k : Int) < (t.kids.length : Int) := by omega
        have HF : Hid (us ++ varsesL (t.kids.take k) = us ++ varsL t) := hide (by rw [List.take_of_length_le (by omega)]; exact HU.out)
        rw [HF.out] at HOw
        go_wp2
        go_ret
        exact ⟨⟨u0, rfl, by simpa using HOw.out⟩, HW.out⟩
  · have HU : Hid (us ++ [t] = us ++ varsL t) := hide (by rw [HE.out, h11]; simp)
    have hus : us.length ≤ 100000 := by omega
    clear HE
    go_enter Tryz.func76, Tryz.ntmps76
    go_wp2_with (at_builtin; refine wpList_append_row _ rfl _ _ 22 rfl base 28 i0 _ 5 64 Tryz.underlying22 hi hz0 hz1 hz2 rfl (by decide) v us.length (us.flatMap treeC.f) rfl (own_extB HO.out (((Ext.refl _).alloc _).alloc _)) _ 1 1 [.int .i64 t.kind, .int .i64 t.pos, .int .i64 t.n, encStr t.text, .slice A0 t.kids.length t.cap] rfl ?c2 ?c3 ?c4 ?c5 ?c6 ?_)
    case c2 => exact Row.node _ _ _ _ _ (at_newB _ _ _ (by simp))
    case c3 => first | exact ⟨rfl, rfl, rfl, rfl, rfl⟩ | (intro y hy; simp at hy; rcases hy with rfl | rfl | rfl | rfl | rfl <;> rfl)
    case c4 => unfold maxLen; omega
    case c5 => omega
    case c6 => (first | omega | (simp; omega))
    intro v4 w4 hown4 hg4 _
    have hB1 : Below base w w4 := (HA.out.trans ((Below.refl _ _).alloc (by simp; omega) _)).grown hg4 (by simp; omega) (fun k hk => (HO.out.lt k hk).1)
    have W1 := hide hB1
    have O1 : Hid (w4.ownsRow base 28 5 v4 (us ++ varsL t).length ((us ++ varsL t).flatMap treeC.f)) := hide (by rw [← HU.out, node_flat, List.length_append, HA0.out]; exact hown4)
    clear hB1 hown4 hg4
    go_wp2
    go_ret
    exact ⟨⟨v4, rfl, by simpa using O1.out⟩, W1.out⟩

end Go.Proofs.YtbfggmeppakcgaaGreat

/- Contract: the names of a pattern's variables. -/
namespace Go.Proofs.YtbfggmeppakcgaaGreat
open Go.RowKit

noncomputable def varsN (t : Tree) : List Str := (varsL t).map Tree.text
theorem texts_take (l : List Tree) {k : Nat} (h : k < l.length) : (l.take (k + 1)).map Tree.text = (l.take k).map Tree.text ++ [(l[k]'h).text] := by
  rw [List.take_succ_eq_append_getElem h, List.map_append]; rfl

set_option maxRecDepth 10000 in
set_option maxHeartbeats 1000000 in
theorem pp_vars (t : Tree) (w : World) (h : NodeIn w t) (hsz : t.size ≤ 100000) :
    Calls Tryz.prog 57 #[treeV t] w fun e w' => (∃ A' cap', e = .returned (.slice A' (varsN t).length cap') ∧ (varsN t).length ≤ cap' ∧ cap' ≤ 9223372036854775807 ∧ Strs w' A' (varsN t) ∧ ∀ c o, A' = some ⟨c, o, none⟩ → w.heap.size ≤ c) ∧ Ext w w' := by
  obtain ⟨i0, hi, hz0, hz1, hz2⟩ := info_parts str_infoU
  have X0 : Hid (Ext w (w.alloc (.cells #[.int .i64 t.kind, .int .i64 t.pos, .int .i64 t.n, encStr t.text, .slice t.A t.kids.length t.cap] 28))) := hide ((Ext.refl w).alloc _)
  have HC := hide (p_varsI t w (w.alloc (.cells #[.int .i64 t.kind, .int .i64 t.pos, .int .i64 t.n, encStr t.text, .slice t.A t.kids.length t.cap] 28)) (w.heap.size + 1) (.slice none 0 0) [] h (X0.out.below) (by omega) (by simp) (World.ownsRow_nil _ _ _ _) (by simpa using hsz))
  have hln := varsL_len t
  have HIn := hide (varsL_in h)
  have HR : Hid ((varsL t).map Tree.text = varsN t) := hide rfl
  generalize varsN t = R at *
  clear h
  unfold treeV at *
  generalize varsL t = l at *
  go_enter Tryz.func57, Tryz.ntmps57
  go_wp2_with fail
  refine HC.out.mono ?_
  rintro e w2 ⟨⟨v2, rfl, hO2⟩, hB2⟩
  rw [List.nil_append] at hO2
  obtain ⟨A2, c2, rfl, r1, r2, r3, -⟩ := RowOf.own treeC hO2
  have X2 : Hid (Ext w w2) := hide (X0.out.trans (Ext.of_below hB2 (by simp)))
  have HK : Hid (NodesIn w2 A2 l) := hide ⟨r3, fun k hk => (HIn.out k hk).ext X2.out⟩
  have hsz2 := X2.out.size
  clear hO2 hB2 r3
  go_wp2
  go_loopw [3, 9] (fun v i wr => ∃ k : Nat, k ≤ l.length ∧ i = .int .i64 k ∧ Hid (Ext w2 wr) ∧ Hid (wr.ownsRow w2.heap.size 9 1 v ((l.take k).map Tree.text).length (((l.take k).map Tree.text).map encStr))) (fun _ i _ => l.length - (intOf i).toNat)
  case atStart => exact ⟨0, Nat.zero_le _, rfl, hide (Ext.refl _), hide (World.ownsRow_nil _ _ _ _)⟩
  case round =>
    obtain ⟨k, hk, rfl, HX, HO⟩ := hrel
    by_cases hlt : k < l.length
    · have hlt' : (k : Int) < (l.length : Int) := by omega
      have hk0 : (0 : Int) ≤ (k : Int) := by omega
      obtain ⟨b, o, rfl, hb, q0, q1, q2, q3, q4⟩ := (HK.out.ext HX.out).at_ hlt
      have Hst := hide (texts_take l hlt)
      have hol : ((l.take k).map Tree.text).length ≤ k := by simp; omega
      generalize (l.take k).map Tree.text = L at *
      generalize l[k]'hlt = c at *
      go_wp2_with (at_builtin; refine wpList_append_row _ rfl _ _ 25 rfl w2.heap.size 9 i0 _ 1 16 Tryz.underlying25 hi hz0 hz1 hz2 rfl (by decide) u3 L.length (L.map encStr) rfl (own_extB HO.out (((Ext.refl _).alloc _).alloc _)) _ 1 1 [encStr c.text] rfl ?c2 ?c3 ?c4 ?c5 ?c6 ?_)
      case c2 => exact Strs.boxedU _ (at_newB _ _ _ (by simp))
      case c3 => first | rfl | (intro y hy; simp at hy; subst hy; rfl)
      case c4 => unfold maxLen; omega
      case c5 => omega
      case c6 => have := HX.out.size; simp; omega
      intro v4 w4 hown4 hg4 _
      have X4 := hide (Ext.appU ((HX.out.alloc _).alloc _) hg4 (own_extB HO.out (((Ext.refl _).alloc _).alloc _)) (Nat.le_refl _))
      have O4 := hide hown4
      clear hown4 hg4
      go_wp2
      go_roundw
      case rel => exact ⟨k + 1, hlt, by go_num, X4, hide (by rw [Hst.out]; simpa using O4.out)⟩
      case measure => simp [intOf]; omega
    · have hge : ¬ (k : Int) < (l.length : Int) := by omega
      have hkl : l.take k = l := List.take_of_length_le (by omega)
      rw [hkl, HR.out] at HO
      obtain ⟨A5, c5, rfl, p1, p2, p3, p4⟩ := Strs.of_own HO.out
      have P3 := hide p3
      have P4 := hide p4
      clear p3 p4 hkl
      go_wp2
      go_ret
      exact ⟨⟨A5, c5, rfl, p1, p2, P3.out, fun c o e => by have := (P4.out c o e).1; omega⟩, X2.out.trans HX.out⟩

end Go.Proofs.YtbfggmeppakcgaaGreat

/- Contracts: the functions that uses' walk is handed and makes: whether a name is bound; a use that is told. -/
namespace Go.Proofs.YtbfggmeppakcgaaGreat
open Go.RowKit

/-- A function value tells whether a name is bound, now and later. -/
def AsksB (c : Nat) (w : World) (v fv : Value) (p : Str → Bool) : Prop := ∃ f lb, fv = .func (.func f) #[] lb ∧ Opens f ∧
  ∀ w' v', Tr c w v w' v' → ∀ s : Str, s.length ≤ 9223372036854775807 → Calls Tryz.prog f (#[encStr s] ++ lb) w' fun e w'' => e = .returned (.bool (p s)) ∧ Ext w' w''
theorem AsksB.on {c : Nat} {w w' : World} {v v' fv : Value} {p : Str → Bool} (h : AsksB c w v fv p) (k : Tr c w v w' v') : AsksB c w' v' fv p := by
  obtain ⟨f, lb, h1, h2, h3⟩ := h
  exact ⟨f, lb, h1, h2, fun w2 v2 k2 => h3 w2 v2 (k.trans k2)⟩

theorem u_uses1 (s : Str) (w : World) : Calls Tryz.prog 38 #[encStr s] w fun e w' => e = .returned (.bool false) ∧ Ext w w' := by
  go_enter Tryz.func38, Tryz.ntmps38
  go_wp2
  go_ret
  exact ⟨rfl, Ext.refl _⟩
theorem none_asks (c : Nat) (w : World) (v : Value) (eg : Opens 38) : AsksB c w v (.func (.func 38) #[] #[]) (fun _ => false) :=
  ⟨38, #[], rfl, eg, fun w' _ _ s _ => u_uses1 s w'⟩

theorem u_also (A : Option Addr) (n cap ob : Nat) (w : World) :
    Calls Tryz.prog 55 #[.slice A n cap, .pointer (some ⟨ob, 0, none⟩)] w fun e w' => e = .returned (.func (.func 56) #[] #[.pointer (some ⟨w.heap.size, 0, none⟩), .pointer (some ⟨ob, 0, none⟩)]) ∧ w' = w.alloc (.cells #[.slice A n cap] 25) := by
  go_enter Tryz.func55, Tryz.ntmps55
  go_wp2
  go_ret
  exact ⟨rfl, rfl⟩

set_option maxHeartbeats 1000000 in
theorem u_in (s : Str) (A : Option Addr) (cap lbx ob : Nat) (l : List Str) (f : FuncId) (lb : Array Value) (p : Str → Bool) (w : World) (h1 : w.cell? ⟨lbx, 0, none⟩ = some (.slice A l.length cap)) (h2 : w.cell? ⟨ob, 0, none⟩ = some (.func (.func f) #[] lb))
    (h3 : Strs w A l) (hl : l.length ≤ 9223372036854775807) (eg : Opens f) (hf : ∀ w', Ext w w' → Calls Tryz.prog f (#[encStr s] ++ lb) w' fun e w'' => e = .returned (.bool (p s)) ∧ Ext w' w'') :
    Calls Tryz.prog 56 #[encStr s, .pointer (some ⟨lbx, 0, none⟩), .pointer (some ⟨ob, 0, none⟩)] w fun e w' => e = .returned (.bool (l.any (· == s) || p s)) ∧ Ext w w' := by
  have HC := hide (has_s A cap l s w h3 hl)
  have HF := hide hf
  unfold Opens at eg
  clear hf h3
  cases hb : l.any (· == s)
  · rw [hb] at HC
    go_enter Tryz.func56, Tryz.ntmps56
    go_wp2_with fail
    refine HC.out.mono ?_
    rintro e w1 ⟨rfl, rfl⟩
    go_wp2_with fail
    refine (HF.out _ (Ext.refl _)).mono ?_
    rintro e w2 ⟨rfl, hx⟩
    go_wp2
    go_ret
    exact ⟨by simp, hx⟩
  · rw [hb] at HC
    go_enter Tryz.func56, Tryz.ntmps56
    go_wp2_with fail
    refine HC.out.mono ?_
    rintro e w1 ⟨rfl, rfl⟩
    go_wp2
    go_ret
    exact ⟨by simp, Ext.refl _⟩

/-- A function that is made: a name of a list, or one that is bound around. -/
theorem also_asks {c : Nat} {w : World} {v fv : Value} {p : Str → Bool} (A : Option Addr) (cap lbx ob : Nat) (l : List Str) (eg : Opens 56) (h1 : w.heap[lbx]? = some (.cells #[.slice A l.length cap] 25 (0, 0))) (h2 : w.heap[ob]? = some (.cells #[fv] 43 (0, 0)))
    (h3 : Strs w A l) (hl : l.length ≤ 9223372036854775807) (c1 : lbx ≠ c) (c2 : ob ≠ c) (c3 : v.ownBlock ≠ some lbx) (c4 : v.ownBlock ≠ some ob) (c5 : ∀ b o, A = some ⟨b, o, none⟩ → b ≠ c ∧ v.ownBlock ≠ some b) (ho : AsksB c w v fv p) :
    AsksB c w v (.func (.func 56) #[] #[.pointer (some ⟨lbx, 0, none⟩), .pointer (some ⟨ob, 0, none⟩)]) (fun s => l.any (· == s) || p s) := by
  refine ⟨56, _, rfl, eg, fun w' v' k s hs => ?_⟩
  have g1 := (k.blk lbx (lt_of_obj h1) c1 c3).trans h1
  have g2 := (k.blk ob (lt_of_obj h2) c2 c4).trans h2
  have g3 : Strs w' A l := by
    refine ⟨h3.1, fun hn => ?_⟩
    obtain ⟨b, o, rfl, hb, hc⟩ := h3.2 hn
    obtain ⟨e1, e2⟩ := c5 b o rfl
    exact ⟨b, o, rfl, Nat.lt_of_lt_of_le hb k.size, fun j u hu => (World.cell?_of_block (a := ⟨b, o + j, none⟩) (k.blk b hb e1 e2)).trans (hc j u hu)⟩
  obtain ⟨f, lb, rfl, e2, e3⟩ := ho.on k
  exact u_in s A cap lbx ob l f lb p w' (by simp [World.cell?, g1]) (by simp [World.cell?, g2]) g3 hl e2 (fun w2 e => e3 w2 v' (Tr.of_ext e) s hs)

/-- What has been told, in block `c`. -/
structure OutAt (c base : Nat) (w : World) (v : Value) (us : List Use) : Prop where
  cell : w.heap[c]? = some (.cells #[v] 69 (0, 0))
  own : w.ownsRow base 72 2 v us.length (us.flatMap useC.f)
  lt : c < base
  le : base ≤ w.heap.size
section
variable {c base : Nat} {w w' : World} {v : Value} {us : List Use}
theorem OutAt.ext (h : OutAt c base w v us) (e : Ext w w') : OutAt c base w' v us := ⟨(e.heap (lt_of_obj h.cell)).trans h.cell, own_extB h.own e, h.lt, Nat.le_trans h.le e.size⟩
theorem OutAt.ltc (h : OutAt c base w v us) : c < w.heap.size := lt_of_obj h.cell
theorem OutAt.ne (h : OutAt c base w v us) : v.ownBlock ≠ some c := fun e => by have := (h.own.lt c e).1; have := h.lt; omega
theorem OutAt.new (h : OutAt c base w v us) {k : Nat} (hk : w.heap.size ≤ k) : k ≠ c ∧ v.ownBlock ≠ some k := ⟨by have := h.ltc; omega, fun e => by have := (h.own.lt k e).2; omega⟩
end

set_option maxRecDepth 10000 in
set_option maxHeartbeats 1000000 in
theorem u_tell (t : Tree) (w : World) (c base : Nat) (v : Value) (us : List Use) (h : OutAt c base w v us) (hl : us.length ≤ 100000) :
    Calls Tryz.prog 39 #[treeV t, .pointer (some ⟨c, 0, none⟩)] w fun e w' => e = .returned (.tuple #[]) ∧ ∃ v', OutAt c base w' v' (us ++ [Use.mk t.text t.pos]) ∧ Tr c w v w' v' := by
  obtain ⟨i0, hi, hz0, hz1, hz2⟩ := info_parts use_info
  have HO := hide h
  have hc := h.ltc
  have hcc : w.cell? ⟨c, 0, none⟩ = some v := by simp [World.cell?, h.cell]
  have hcf : w.frozen? ⟨c, 0, none⟩ = false := by simp [World.frozen?, h.cell]
  clear h
  unfold treeV
  go_enter Tryz.func39, Tryz.ntmps39
  go_wp2_with (at_builtin; refine wpList_append_row _ rfl _ _ 69 rfl base 72 i0 _ 2 24 Tryz.underlying69 hi hz0 hz1 hz2 rfl (by decide) v us.length (us.flatMap useC.f) rfl (own_extB HO.out.own (((Ext.refl _).alloc _).alloc _)) _ 1 1 [encStr t.text, .int .i64 t.pos] rfl ?c2 ?c3 ?c4 ?c5 ?c6 ?_)
  case c2 => exact Row.use2 _ _ (at_newB _ _ _ (by simp))
  case c3 => first | exact ⟨rfl, rfl⟩ | (intro y hy; simp at hy; rcases hy with rfl | rfl <;> rfl)
  case c4 => unfold maxLen; omega
  case c5 => omega
  case c6 => have := HO.out.le; (first | omega | (simp; omega))
  intro v4 w4 hown4 hg4 hat4
  obtain ⟨A4, cp4, hv4, -⟩ := Use.own (l := us ++ [Use.mk t.text t.pos]) (v := v4) (w := w4) (base := base) (by rw [use_flat, List.length_append]; exact hown4)
  have hv5 : v4 = .slice A4 (us.length + 1) cp4 := by rw [hv4]; simp
  clear hv4
  subst hv5
  have E1 : Ext w ((w.alloc (.cells #[.int .i64 t.kind, .int .i64 t.pos, .int .i64 t.n, encStr t.text, .slice t.A t.kids.length t.cap] 28)).alloc (.cells #[encStr t.text, .int .i64 t.pos] 72)) := ((Ext.refl _).alloc _).alloc _
  have T1 : Tr c w v w4 (.slice A4 (us.length + 1) cp4) := ⟨hg4.os.trans E1.below.os, hg4.tape.trans E1.below.tape, hg4.output.trans E1.below.output, Nat.le_trans E1.size hg4.size,
    fun k hk hkc hkv => (hg4.block k (Nat.lt_of_lt_of_le hk E1.size) (fun e => hkv e.symm)).trans (E1.heap hk),
    by
      rcases hat4 with h1 | h1
      · exact .inl h1
      · exact .inr (fun k hk => by rw [h1] at hk; injection hk with hk; omega)⟩
  have hc4 : w4.heap[c]? = some (.cells #[v] 69 (0, 0)) := (hg4.block c (Nat.lt_of_lt_of_le hc E1.size) (fun e => HO.out.ne e.symm)).trans ((E1.heap hc).trans HO.out.cell)
  have O4 : Hid (OutAt c base (w4.setCell ⟨c, 0, none⟩ (.slice A4 (us.length + 1) cp4)) (.slice A4 (us.length + 1) cp4) (us ++ [Use.mk t.text t.pos])) := hide ⟨by have := blk_setCell hc4 0 (.slice A4 (us.length + 1) cp4); simpa using this, by
      have h5 := ownsRow_setCell_below (a := ⟨c, 0, none⟩) hown4 HO.out.lt (.slice A4 (us.length + 1) cp4)
      rw [use_flat, List.length_append]
      exact h5, HO.out.lt, by have := HO.out.le; have := T1.size; simp [World.setCell]; omega⟩
  have T4 : Hid (Tr c w v (w4.setCell ⟨c, 0, none⟩ (.slice A4 (us.length + 1) cp4)) (.slice A4 (us.length + 1) cp4)) := hide ⟨T1.os, T1.tape, T1.output, by have := T1.size; simpa [World.setCell] using this,
    fun k hk hkc hkv => (Below.heap_setCell w4 ⟨c, 0, none⟩ (.slice A4 (us.length + 1) cp4) k hkc).trans (T1.blk k hk hkc hkv), T1.own⟩
  have hcc4 : w4.cell? ⟨c, 0, none⟩ = some v := by simp [World.cell?, hc4]
  have hcf4 : w4.frozen? ⟨c, 0, none⟩ = false := by simp [World.frozen?, hc4]
  clear T1 E1 hown4 hg4 hat4 hcc hcf
  go_wp2
  go_end0
  exact ⟨rfl, _, O4.out, T4.out⟩

end Go.Proofs.YtbfggmeppakcgaaGreat

/- The names that a tree uses: the plain law. -/
namespace Go.Proofs.YtbfggmeppakcgaaGreat
open Go.RowKit

/-- What is bound within a node. -/
noncomputable def bp (t : Tree) (p : Str → Bool) : Str → Bool :=
  if t.kind = 25 then fun s => [t.text].any (· == s) || p s
  else if t.kind = 26 then fun s => (bindsL t.kids).any (· == s) || p s
  else if t.kind = 15 then fun s => (varsN (t.kid 0)).any (· == s) || p s
  else p
/-- What a node uses itself. -/
def ownU (t : Tree) (p : Str → Bool) : List Use := if t.kind == 21 && !p t.text then [Use.mk t.text t.pos] else []
/-- The nodes in which names are looked for. -/
def inner (t : Tree) : List Tree := if t.kind = 15 then t.kids.drop 1 else t.kids
noncomputable def usesL : Tree → (Str → Bool) → List Use := Tree.fold fun t l p =>
  if t.kind = 32 then [] else ownU t p ++ ((if t.kind = 15 then l.drop 1 else l).map fun f => f (bp t p)).flatten
noncomputable def usesesL (l : List Tree) (p : Str → Bool) : List Use := (l.map fun k => usesL k p).flatten
theorem usesL_eq (t : Tree) (p : Str → Bool) : usesL t p = if t.kind = 32 then [] else ownU t p ++ usesesL (inner t) (bp t p) := by
  unfold usesL
  rw [Tree.fold_eq]
  unfold usesesL inner
  split
  · rfl
  · congr 2
    split
    · rw [← List.map_drop, List.map_map]; rfl
    · rw [List.map_map]; rfl
theorem usesesL_take (l : List Tree) (p : Str → Bool) {k : Nat} (h : k < l.length) : usesesL (l.take (k + 1)) p = usesesL (l.take k) p ++ usesL (l[k]'h) p := by
  unfold usesesL
  rw [List.take_succ_eq_append_getElem h, List.map_append, List.flatten_append]
  congr 1
  simp
theorem inner_sizes (t : Tree) : sizes (inner t) ≤ sizes t.kids := by
  unfold inner
  split
  · have : sizes t.kids = sizes (t.kids.take 1) + sizes (t.kids.drop 1) := by unfold sizes; rw [← List.sum_append, ← List.map_append, List.take_append_drop]
    omega
  · exact Nat.le_refl _
theorem inner_mem {t k : Tree} (h : k ∈ inner t) : k ∈ t.kids := by
  unfold inner at h
  split at h
  · exact List.mem_of_mem_drop h
  · exact h
theorem usesL_len (t : Tree) : ∀ p, (usesL t p).length ≤ t.size := by
  induction t using Tree.ind with
  | h t ih =>
  intro p
  rw [usesL_eq]
  have h1 : (usesesL (inner t) (bp t p)).length ≤ sizes (inner t) := by
    unfold usesesL sizes
    rw [List.length_flatten, List.map_map]
    exact sum_map_leV _ _ _ (fun x hx => ih x (inner_mem hx) _)
  have h2 := inner_sizes t
  have h3 := Tree.size_eq t
  have h4 : (ownU t p).length ≤ 1 := by unfold ownU; split <;> simp
  split
  · simp
  · rw [List.length_append]; unfold sizes at h2 h1; omega
theorem usesesL_room (l : List Tree) (p : Str → Bool) {k : Nat} (h : k < l.length) : (usesesL (l.take k) p).length + (l[k]'h).size ≤ sizes l := by
  have h1 : (usesesL (l.take k) p).length ≤ sizes (l.take k) := by
    unfold usesesL sizes
    rw [List.length_flatten, List.map_map]
    exact sum_map_leV _ _ _ (fun x _ => usesL_len x p)
  have h2 := sizes_take l h
  have h3 := sizes_le l (k + 1)
  omega

/-- An alternative that is gone into has a pattern. -/
def walkOk : Tree → Prop := Tree.fold fun t l => t.kind = 32 ∨ ((t.kind = 15 → 1 ≤ t.kids.length) ∧ ∀ q ∈ (if t.kind = 15 then l.drop 1 else l), q)
theorem walkOk_eq (t : Tree) : walkOk t ↔ t.kind = 32 ∨ ((t.kind = 15 → 1 ≤ t.kids.length) ∧ ∀ k ∈ inner t, walkOk k) := by
  unfold walkOk
  rw [Tree.fold_eq]
  unfold inner
  constructor
  · rintro (h | ⟨h1, h2⟩)
    · exact .inl h
    · refine .inr ⟨h1, fun k hk => ?_⟩
      split at hk
      · rename_i e
        rw [if_pos e] at h2
        exact h2 _ (by rw [← List.map_drop]; exact List.mem_map.2 ⟨k, hk, rfl⟩)
      · rename_i e
        rw [if_neg e] at h2
        exact h2 _ (List.mem_map.2 ⟨k, hk, rfl⟩)
  · rintro (h | ⟨h1, h2⟩)
    · exact .inl h
    · refine .inr ⟨h1, fun q hq => ?_⟩
      split at hq
      · rename_i e
        rw [if_pos e] at h2
        rw [← List.map_drop] at hq
        obtain ⟨k, hk, rfl⟩ := List.mem_map.1 hq
        exact h2 k hk
      · rename_i e
        rw [if_neg e] at h2
        obtain ⟨k, hk, rfl⟩ := List.mem_map.1 hq
        exact h2 k hk
theorem kid_mem {t : Tree} {i : Nat} (h : i < t.kids.length) : t.kid i ∈ t.kids := by rw [kid_get h]; exact List.getElem_mem h
/-- An expression may be gone into. -/
theorem exp_walk : ∀ n (t : Tree), t.size ≤ n → (expB t = true → walkOk t) ∧ (bindB t = true → walkOk t) ∧ (altB t = true → walkOk t) ∧ (sigB t = true → walkOk t) := by
  intro n
  induction n with
  | zero => intro t h; have := t.size_pos; omega
  | succ n IH =>
    intro t hsz
    have ih : ∀ k ∈ t.kids, (expB k = true → walkOk k) ∧ (bindB k = true → walkOk k) ∧ (altB k = true → walkOk k) ∧ (sigB k = true → walkOk k) := fun k hk => IH k (by have := Tree.size_kid hk; omega)
    have key : t.kind ≠ 15 → (∀ k ∈ t.kids, walkOk k) → walkOk t := fun h1 h2 => (walkOk_eq t).2 (.inr ⟨fun e => absurd e h1, fun k hk => h2 k (inner_mem hk)⟩)
    have kall : t.kids.all expB = true → ∀ k ∈ t.kids, walkOk k := fun h k hk => (ih k hk).1 (List.all_eq_true.1 h k hk)
    have kone : t.kids.length = 1 → expB (t.kid 0) = true → ∀ k ∈ t.kids, walkOk k := fun h1 h2 k hk => by
      obtain ⟨i, hi, rfl⟩ := List.getElem_of_mem hk
      have : i = 0 := by omega
      subst this
      rw [kid_get hi] at h2
      exact (ih _ hk).1 h2
    have knil : t.kids.length = 0 → ∀ k ∈ t.kids, walkOk k := fun h k hk => by rw [List.eq_nil_of_length_eq_zero h] at hk; cases hk
    refine ⟨fun h => ?_, fun h => ?_, fun h => ?_, fun h => ?_⟩
    · by_cases h0 : t.kind = 21
      · rw [exp_var t h0] at h; simp only [Bool.and_eq_true, decide_eq_true_eq] at h
        exact key (by omega) (knil h.2)
      by_cases h1 : t.kind = 22
      · rw [exp_con t h1] at h; simp only [Bool.and_eq_true, decide_eq_true_eq] at h
        exact key (by omega) (knil h.2)
      by_cases h2 : t.kind = 23
      · rw [exp_int t h2] at h; simp only [Bool.and_eq_true, decide_eq_true_eq] at h
        exact key (by omega) (knil h.2)
      by_cases h3 : t.kind = 24
      · rw [exp_app t h3] at h; simp only [Bool.and_eq_true, decide_eq_true_eq] at h
        exact key (by omega) (kall h.2)
      by_cases h4 : t.kind = 25
      · rw [exp_lam t h4] at h; simp only [Bool.and_eq_true, decide_eq_true_eq] at h
        exact key (by omega) (kone h.1.2 h.2)
      by_cases h5 : t.kind = 26
      · rw [exp_let t h5] at h; simp only [Bool.and_eq_true, decide_eq_true_eq] at h
        obtain ⟨⟨⟨_, g1⟩, g2⟩, g3⟩ := h
        refine key (by omega) (fun k hk => ?_)
        obtain ⟨i, hi, rfl⟩ := List.getElem_of_mem hk
        by_cases hl : i = t.kids.length - 1
        · subst hl
          rw [kid_get hi] at g3
          exact (ih _ hk).1 g3
        · have g4 := List.all_eq_true.1 g2 (t.kids[i]'hi) (by rw [List.mem_take_iff_getElem]; exact ⟨i, by omega, rfl⟩)
          unfold withinB at g4
          rw [Bool.or_eq_true] at g4
          rcases g4 with g4 | g4
          · exact (ih _ hk).2.1 g4
          · exact (ih _ hk).2.2.2 g4
      by_cases h6 : t.kind = 27
      · rw [exp_case t h6] at h; simp only [Bool.and_eq_true, decide_eq_true_eq] at h
        obtain ⟨⟨⟨_, g1⟩, g2⟩, g3⟩ := h
        refine key (by omega) (fun k hk => ?_)
        obtain ⟨i, hi, rfl⟩ := List.getElem_of_mem hk
        by_cases hl : i = 0
        · subst hl
          rw [kid_get hi] at g2
          exact (ih _ hk).1 g2
        · have g4 := List.all_eq_true.1 g3 (t.kids[i]'hi) (by rw [List.mem_drop_iff_getElem]; exact ⟨i - 1, by omega, by congr 1; omega⟩)
          exact (ih _ hk).2.2.1 g4
      by_cases h7 : t.kind = 28
      · rw [exp_if t h7] at h; simp only [Bool.and_eq_true, decide_eq_true_eq] at h
        exact key (by omega) (kall h.2)
      rw [exp_else t h0 h1 h2 h3 h4 h5 h6 h7] at h
      cases h
    · rw [bind_eq] at h; simp only [Bool.and_eq_true, decide_eq_true_eq] at h
      exact key (by omega) (kone h.1.2 h.2)
    · rw [alt_eq] at h; simp only [Bool.and_eq_true, decide_eq_true_eq] at h
      obtain ⟨⟨⟨⟨g0, _⟩, g1⟩, _⟩, g3⟩ := h
      refine (walkOk_eq t).2 (.inr ⟨fun _ => by omega, fun k hk => ?_⟩)
      unfold inner at hk
      rw [if_pos g0] at hk
      rw [List.mem_drop_iff_getElem] at hk
      obtain ⟨i, hi, rfl⟩ := hk
      have : i = 0 := by omega
      subst this
      have hi1 : 1 < t.kids.length := by omega
      rw [kid_get hi1] at g3
      exact (ih _ (List.getElem_mem hi1)).1 g3
    · unfold sigB at h; simp only [Bool.and_eq_true, decide_eq_true_eq] at h
      exact (walkOk_eq t).2 (.inl h.1.1.1)
theorem expB_walk {t : Tree} (h : expB t = true) : walkOk t := (exp_walk t.size t (Nat.le_refl _)).1 h

end Go.Proofs.YtbfggmeppakcgaaGreat
