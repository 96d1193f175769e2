/- Contract: the walk over a tree's names. -/
import Derived.Test.YtbfggmeppakcgaaGreatJA6
import Derived.Shelf.Abstract
import Derived.Laws.EntriesVeiled
/- Contract: the walk over a tree's names. -/
namespace Go.Proofs.YtbfggmeppakcgaaGreat
open Go.RowKit Go.Shelf

theorem uwalk11_opens : Opens 56 := enters_of Tryz.func56 (by kernel_rfl) rfl
theorem uuses1_opens : Opens 38 := enters_of Tryz.func38 (by kernel_rfl) rfl
/-- The walk's contract at a tree. -/
def WalksT (t : Tree) : Prop := ∀ (w0 w : World) (c base : Nat) (v fv : Value) (us : List Use) (p : Str → Bool), NodeIn w0 t → Below w0.heap.size w0 w → w0.heap.size ≤ c → OutAt c base w v us → AsksB c w v fv p → walkOk t → us.length + t.size ≤ 100000 →
  Calls Tryz.prog 37 #[treeV t, fv, .func (.func 39) #[] #[.pointer (some ⟨c, 0, none⟩)]] w fun e w' => e = .returned (.tuple #[]) ∧ ∃ v', OutAt c base w' v' (us ++ usesL t p) ∧ Tr c w v w' v'

end Go.Proofs.YtbfggmeppakcgaaGreat

/- Contract: the walk over a tree's names, by the kinds of its root. (A program of ours has printed the walks.) -/
namespace Go.Proofs.YtbfggmeppakcgaaGreat
open Go.RowKit Go.Shelf

set_option maxRecDepth 10000 in
set_option maxHeartbeats 4000000 in
theorem u_walk_else (t : Tree) (ih : ∀ k ∈ t.kids, WalksT k) (h21 : (t.kind == 21) = false) (h25 : (t.kind == 25) = false) (h26 : (t.kind == 26) = false) (h15 : (t.kind == 15) = false) (h32 : (t.kind == 32) = false) : WalksT t := by
  intro w0 w c base v fv us p h hB hw0 hO hA hok hsz
  obtain ⟨f, lb, rfl, eg, hA2⟩ := id hA
  have IH := hide ih
  have HNt := hide (h.old hB)
  have HKn := hide h.nodes
  have hle := h.le
  have hmx := h.max
  have htx := h.txt
  have HUe := hide (usesL_eq t p)
  have HOk0 := hide ((walkOk_eq t).1 hok)
  have HSz := hide (Tree.size_eq t)
  have HBx := hide (NBox.new w t)
  have X1 : Hid (Ext w ((w.alloc (.cells #[.int .i64 t.kind, .int .i64 t.pos, .int .i64 t.n, encStr t.text, .slice t.A t.kids.length t.cap] 28)).alloc (.cells #[.func (.func f) #[] lb] 43))) := hide (((Ext.refl _).alloc _).alloc _)
  have HBy : Hid (NBox ((w.alloc (.cells #[.int .i64 t.kind, .int .i64 t.pos, .int .i64 t.n, encStr t.text, .slice t.A t.kids.length t.cap] 28)).alloc (.cells #[.func (.func f) #[] lb] 43)) w.heap.size t) := hide (HBx.out.ext ((Ext.refl _).alloc _))
  have HCl : Hid (((w.alloc (.cells #[.int .i64 t.kind, .int .i64 t.pos, .int .i64 t.n, encStr t.text, .slice t.A t.kids.length t.cap] 28)).alloc (.cells #[.func (.func f) #[] lb] 43)).heap[w.heap.size + 1]? = some (.cells #[.func (.func f) #[] lb] 43 (0, 0))) := hide (at_newB _ _ _ (by simp))
  have hsz1 : ((w.alloc (.cells #[.int .i64 t.kind, .int .i64 t.pos, .int .i64 t.n, encStr t.text, .slice t.A t.kids.length t.cap] 28)).alloc (.cells #[.func (.func f) #[] lb] 43)).heap.size = w.heap.size + 2 := by simp
  have HO := hide hO
  have HA := hide hA
  have HA2 := hide hA2
  have HBw := hide hB
  have kne : ∀ n : Int, (t.kind == n) = false → t.kind ≠ n := fun n hn e => by rw [e] at hn; simp at hn
  have keq : ∀ n : Int, (t.kind == n) = true → t.kind = n := fun n hn => by simpa using hn
  clear ih h hB hO hA hA2 hok
  have HOk : Hid (∀ k ∈ t.kids, walkOk k) := hide (by
    rcases HOk0.out with h | ⟨_, h⟩
    · exact absurd h (kne 32 h32)
    · have e : inner t = t.kids := by unfold inner; rw [if_neg (kne 15 h15)]
      rw [e] at h
      exact h)
  have HU : Hid (us ++ usesesL t.kids p = us ++ usesL t p) := hide (by
    rw [HUe.out, if_neg (kne 32 h32)]
    unfold ownU bp inner
    rw [if_neg (kne 25 h25), if_neg (kne 26 h26), if_neg (kne 15 h15), if_neg (kne 15 h15), h21]
    rfl)
  have Hlen : Hid (t.kids.length = t.kids.length) := hide rfl
  have HSum : Hid (us.length + sizes t.kids ≤ 100000) := hide (by have := HSz.out; unfold sizes; omega)
  clear kne keq HUe HOk0
  unfold treeV
  generalize hA0 : t.A = A0 at *
  have HA0 := hide hA0
  clear hA0
  go_enter Tryz.func37, Tryz.ntmps37
  go_wp2
  generalize ((w.alloc (.cells #[.int .i64 t.kind, .int .i64 t.pos, .int .i64 t.n, encStr t.text, .slice A0 t.kids.length t.cap] 28)).alloc (.cells #[.func (.func f) #[] lb] 43)) = w1 at *
  have OS : Hid (OutAt c base w1 v us) := hide (HO.out.ext X1.out)
  have HAsk : Hid (AsksB c w1 v (.func (.func f) #[] lb) p) := hide (HA.out.on (Tr.of_ext X1.out))
  have HBS : Hid (Below w0.heap.size w0 w1) := hide (HBw.out.trans (X1.out.below.mono HBw.out.size))
  have HT0 : Hid (Tr c w v w1 v) := hide (Tr.of_ext X1.out)
  go_loopw [57] (fun i wr => ∃ (k : Nat) (v' : Value), k ≤ t.kids.length ∧ i = .int .i64 k ∧ Hid (OutAt c base wr v' (us ++ usesesL (t.kids.take k) p)) ∧ Hid (Tr c w1 v wr v')) (fun i _ => t.kids.length - (intOf i).toNat)
  case atStart => exact ⟨0, v, Nat.zero_le _, rfl, hide (by simpa [usesesL] using OS.out), hide (Tr.refl _ _ _)⟩
  case round =>
    obtain ⟨k, v', hk, rfl, HOw, HTr⟩ := hrel
    by_cases hlt : k < t.kids.length
    · have hlt' : (k : Int) < ((t.kids.length : Nat) : Int) := by omega
      have hk0 : (0 : Int) ≤ (k : Int) := by omega
      have hlk : k < t.kids.length := by have := Hlen.out; omega
      have HKw : Hid (Below w0.heap.size w0 wr) := hide (HBS.out.trans (HTr.out.below HBS.out.size hw0 (fun j hj => by have := (OS.out.own.lt j hj).1; have := OS.out.lt; omega)))
      obtain ⟨b, o, rfl, hbb, q0, q1, q2, q3, q4⟩ := (HKn.out.old HKw.out).at_ hlk
      have hck : t.kids[k]'hlk ∈ t.kids := List.getElem_mem hlk
      have Hst := hide (usesesL_take t.kids p hlk)
      have hroom := usesesL_room t.kids p hlk
      have HC := hide (IH.out _ hck w0 (wr.alloc (.cells #[.int .i64 (t.kids[k]'hlk).kind, .int .i64 (t.kids[k]'hlk).pos, .int .i64 (t.kids[k]'hlk).n, encStr (t.kids[k]'hlk).text, .slice (t.kids[k]'hlk).A (t.kids[k]'hlk).kids.length (t.kids[k]'hlk).cap] 28)) c base v' (.func (.func f) #[] lb) (us ++ usesesL (t.kids.take k) p) p (HKn.out.kids _ (List.getElem_mem hlk)) (HKw.out.alloc HKw.out.size _) hw0 (HOw.out.ext ((Ext.refl _).alloc _)) (HAsk.out.on (HTr.out.trans (Tr.of_ext ((Ext.refl _).alloc _)))) (HOk.out _ (List.getElem_mem hlk)) (by have := HSum.out; simp only [List.length_append] at *; omega))
      have HT2 : Hid (Tr c w1 v (wr.alloc (.cells #[.int .i64 (t.kids[k]'hlk).kind, .int .i64 (t.kids[k]'hlk).pos, .int .i64 (t.kids[k]'hlk).n, encStr (t.kids[k]'hlk).text, .slice (t.kids[k]'hlk).A (t.kids[k]'hlk).kids.length (t.kids[k]'hlk).cap] 28)) v') := hide (HTr.out.trans (Tr.of_ext ((Ext.refl _).alloc _)))
      clear hck hroom
      generalize t.kids[k]'hlk = cc at *
      go_wp2_with fail
      refine HC.out.mono ?_
      rintro e w9 ⟨rfl, v9, hO9, hT9⟩
      have T9 := hide (HT2.out.trans hT9)
      have O9 := hide hO9
      clear hO9 hT9
      go_wp2
      go_roundw
      case rel => exact ⟨k + 1, v9, hlt, by go_num, hide (by rw [Hst.out, ← List.append_assoc]; exact O9.out), T9⟩
      case measure => simp [intOf]; omega
    · have hge : ¬ (k : Int) < ((t.kids.length : Nat) : Int) := by omega
      have HF : Hid (us ++ usesesL (t.kids.take k) p = us ++ usesL t p) := hide (by rw [List.take_of_length_le (by have := Hlen.out; omega)]; exact HU.out)
      rw [HF.out] at HOw
      go_wp2
      go_end0
      exact ⟨rfl, v', HOw.out, HT0.out.trans HTr.out⟩

end Go.Proofs.YtbfggmeppakcgaaGreat

/- Contract: the walk over a tree's names: variables. (A program of ours has printed the walk.) -/
namespace Go.Proofs.YtbfggmeppakcgaaGreat
open Go.RowKit Go.Shelf

set_option maxRecDepth 10000 in
set_option maxHeartbeats 4000000 in
theorem u_walk_var (t : Tree) (ih : ∀ k ∈ t.kids, WalksT k) (h21 : (t.kind == 21) = true) (h25 : (t.kind == 25) = false) (h26 : (t.kind == 26) = false) (h15 : (t.kind == 15) = false) (h32 : (t.kind == 32) = false) : WalksT t := by
  intro w0 w c base v fv us p h hB hw0 hO hA hok hsz
  obtain ⟨f, lb, rfl, eg, hA2⟩ := id hA
  have IH := hide ih
  have HNt := hide (h.old hB)
  have HKn := hide h.nodes
  have hle := h.le
  have hmx := h.max
  have htx := h.txt
  have HUe := hide (usesL_eq t p)
  have HOk0 := hide ((walkOk_eq t).1 hok)
  have HSz := hide (Tree.size_eq t)
  have HBx := hide (NBox.new w t)
  have X1 : Hid (Ext w ((w.alloc (.cells #[.int .i64 t.kind, .int .i64 t.pos, .int .i64 t.n, encStr t.text, .slice t.A t.kids.length t.cap] 28)).alloc (.cells #[.func (.func f) #[] lb] 43))) := hide (((Ext.refl _).alloc _).alloc _)
  have HBy : Hid (NBox ((w.alloc (.cells #[.int .i64 t.kind, .int .i64 t.pos, .int .i64 t.n, encStr t.text, .slice t.A t.kids.length t.cap] 28)).alloc (.cells #[.func (.func f) #[] lb] 43)) w.heap.size t) := hide (HBx.out.ext ((Ext.refl _).alloc _))
  have HCl : Hid (((w.alloc (.cells #[.int .i64 t.kind, .int .i64 t.pos, .int .i64 t.n, encStr t.text, .slice t.A t.kids.length t.cap] 28)).alloc (.cells #[.func (.func f) #[] lb] 43)).heap[w.heap.size + 1]? = some (.cells #[.func (.func f) #[] lb] 43 (0, 0))) := hide (at_newB _ _ _ (by simp))
  have hsz1 : ((w.alloc (.cells #[.int .i64 t.kind, .int .i64 t.pos, .int .i64 t.n, encStr t.text, .slice t.A t.kids.length t.cap] 28)).alloc (.cells #[.func (.func f) #[] lb] 43)).heap.size = w.heap.size + 2 := by simp
  have HO := hide hO
  have HA := hide hA
  have HA2 := hide hA2
  have HBw := hide hB
  have kne : ∀ n : Int, (t.kind == n) = false → t.kind ≠ n := fun n hn e => by rw [e] at hn; simp at hn
  have keq : ∀ n : Int, (t.kind == n) = true → t.kind = n := fun n hn => by simpa using hn
  clear ih h hB hO hA hA2 hok
  have HOk : Hid (∀ k ∈ t.kids, walkOk k) := hide (by
    rcases HOk0.out with h | ⟨_, h⟩
    · exact absurd h (kne 32 h32)
    · have e : inner t = t.kids := by unfold inner; rw [if_neg (kne 15 h15)]
      rw [e] at h
      exact h)
  have hbp : bp t p = p := by unfold bp; rw [if_neg (kne 25 h25), if_neg (kne 26 h26), if_neg (kne 15 h15)]
  have hin : inner t = t.kids := by unfold inner; rw [if_neg (kne 15 h15)]
  have HUb : Hid (usesL t p = ownU t p ++ usesesL t.kids p) := hide (by rw [HUe.out, if_neg (kne 32 h32), hbp, hin])
  have Hown : Hid (ownU t p = if !p t.text then [Use.mk t.text t.pos] else []) := hide (by unfold ownU; rw [h21]; simp)
  have Hlen : Hid (t.kids.length = t.kids.length) := hide rfl
  have HSum0 : Hid (us.length + sizes t.kids + 1 ≤ 100000) := hide (by have := HSz.out; unfold sizes; omega)
  have hus : us.length ≤ 100000 := by omega
  clear hbp hin
  clear kne keq HUe HOk0
  unfold treeV
  generalize hA0 : t.A = A0 at *
  have HA0 := hide hA0
  clear hA0
  have HP := hide (HA2.out _ v (Tr.of_ext X1.out) t.text htx)
  unfold Opens at eg
  cases hp : p t.text
  · rw [hp] at HP Hown
    have HU : Hid ((us ++ [Use.mk t.text t.pos]) ++ usesesL t.kids p = us ++ usesL t p) := hide (by rw [HUb.out, Hown.out]; simp)
    have HSum : Hid ((us ++ [Use.mk t.text t.pos]).length + sizes t.kids ≤ 100000) := hide (by have := HSum0.out; simp; omega)
    have HT := hide (fun w' (e : Ext w w') => hide (u_tell t w' c base v us (HO.out.ext e) hus))
    unfold treeV at HT
    rw [HA0.out] at HT
    go_enter Tryz.func37, Tryz.ntmps37
    go_wp2_with fail
    refine HP.out.mono ?_
    rintro e w2 ⟨rfl, hx2⟩
    generalize ((w.alloc (.cells #[.int .i64 t.kind, .int .i64 t.pos, .int .i64 t.n, encStr t.text, .slice A0 t.kids.length t.cap] 28)).alloc (.cells #[.func (.func f) #[] lb] 43)) = w1 at *
    have X2 := hide (X1.out.trans hx2)
    have HB2 := hide (HBy.out.ext hx2)
    have c0 := HB2.out.c0
    have c1 := HB2.out.c1
    have c2 := HB2.out.c2
    have c3 := HB2.out.c3
    have c4 := HB2.out.c4
    rw [HA0.out] at c4
    clear hx2
    go_wp2_with fail
    refine (HT.out _ X2.out).out.mono ?_
    rintro e w3 ⟨rfl, v3, hO3, hT3⟩
    have OS := hide hO3
    have HT0 : Hid (Tr c w v w3 v3) := hide ((Tr.of_ext X2.out).trans hT3)
    have HAsk : Hid (AsksB c w3 v3 (.func (.func f) #[] lb) p) := hide (HA.out.on HT0.out)
    have HBS : Hid (Below w0.heap.size w0 w3) := hide (HBw.out.trans (HT0.out.below HBw.out.size hw0 (fun j hj => by have := (HO.out.own.lt j hj).1; have := HO.out.lt; omega)))
    clear hO3 hT3
    go_wp2
    go_loopw [57] (fun i wr => ∃ (k : Nat) (v' : Value), k ≤ t.kids.length ∧ i = .int .i64 k ∧ Hid (OutAt c base wr v' ((us ++ [Use.mk t.text t.pos]) ++ usesesL (t.kids.take k) p)) ∧ Hid (Tr c w3 v3 wr v')) (fun i _ => t.kids.length - (intOf i).toNat)
    case atStart => exact ⟨0, v3, Nat.zero_le _, rfl, hide (by simpa [usesesL] using OS.out), hide (Tr.refl _ _ _)⟩
    case round =>
      obtain ⟨k, v', hk, rfl, HOw, HTr⟩ := hrel
      by_cases hlt : k < t.kids.length
      · have hlt' : (k : Int) < ((t.kids.length : Nat) : Int) := by omega
        have hk0 : (0 : Int) ≤ (k : Int) := by omega
        have hlk : k < t.kids.length := by have := Hlen.out; omega
        have HKw : Hid (Below w0.heap.size w0 wr) := hide (HBS.out.trans (HTr.out.below HBS.out.size hw0 (fun j hj => by have := (OS.out.own.lt j hj).1; have := OS.out.lt; omega)))
        obtain ⟨b, o, rfl, hbb, q0, q1, q2, q3, q4⟩ := (HKn.out.old HKw.out).at_ hlk
        have hck : t.kids[k]'hlk ∈ t.kids := List.getElem_mem hlk
        have Hst := hide (usesesL_take t.kids p hlk)
        have hroom := usesesL_room t.kids p hlk
        have HC := hide (IH.out _ hck w0 (wr.alloc (.cells #[.int .i64 (t.kids[k]'hlk).kind, .int .i64 (t.kids[k]'hlk).pos, .int .i64 (t.kids[k]'hlk).n, encStr (t.kids[k]'hlk).text, .slice (t.kids[k]'hlk).A (t.kids[k]'hlk).kids.length (t.kids[k]'hlk).cap] 28)) c base v' (.func (.func f) #[] lb) ((us ++ [Use.mk t.text t.pos]) ++ usesesL (t.kids.take k) p) p (HKn.out.kids _ (List.getElem_mem hlk)) (HKw.out.alloc HKw.out.size _) hw0 (HOw.out.ext ((Ext.refl _).alloc _)) (HAsk.out.on (HTr.out.trans (Tr.of_ext ((Ext.refl _).alloc _)))) (HOk.out _ (List.getElem_mem hlk)) (by have := HSum.out; simp only [List.length_append, List.length_cons, List.length_nil] at *; omega))
        have HT2 : Hid (Tr c w3 v3 (wr.alloc (.cells #[.int .i64 (t.kids[k]'hlk).kind, .int .i64 (t.kids[k]'hlk).pos, .int .i64 (t.kids[k]'hlk).n, encStr (t.kids[k]'hlk).text, .slice (t.kids[k]'hlk).A (t.kids[k]'hlk).kids.length (t.kids[k]'hlk).cap] 28)) v') := hide (HTr.out.trans (Tr.of_ext ((Ext.refl _).alloc _)))
        clear hck hroom
        generalize t.kids[k]'hlk = cc at *
        go_wp2_with fail
        refine HC.out.mono ?_
        rintro e w9 ⟨rfl, v9, hO9, hT9⟩
        have T9 := hide (HT2.out.trans hT9)
        have O9 := hide hO9
        clear hO9 hT9
        go_wp2
        go_roundw
        case rel => exact ⟨k + 1, v9, hlt, by go_num, hide (by rw [Hst.out, ← List.append_assoc]; exact O9.out), T9⟩
        case measure => simp [intOf]; omega
      · have hge : ¬ (k : Int) < ((t.kids.length : Nat) : Int) := by omega
        have HF : Hid ((us ++ [Use.mk t.text t.pos]) ++ usesesL (t.kids.take k) p = us ++ usesL t p) := hide (by rw [List.take_of_length_le (by have := Hlen.out; omega)]; exact HU.out)
        rw [HF.out] at HOw
        go_wp2
        go_end0
        exact ⟨rfl, v', HOw.out, HT0.out.trans HTr.out⟩
  · rw [hp] at HP Hown
    have HU : Hid (us ++ usesesL t.kids p = us ++ usesL t p) := hide (by rw [HUb.out, Hown.out]; simp)
    have HSum : Hid (us.length + sizes t.kids ≤ 100000) := hide (by have := HSum0.out; omega)
    go_enter Tryz.func37, Tryz.ntmps37
    go_wp2_with fail
    refine HP.out.mono ?_
    rintro e w2 ⟨rfl, hx2⟩
    generalize ((w.alloc (.cells #[.int .i64 t.kind, .int .i64 t.pos, .int .i64 t.n, encStr t.text, .slice A0 t.kids.length t.cap] 28)).alloc (.cells #[.func (.func f) #[] lb] 43)) = w1 at *
    have X2 := hide (X1.out.trans hx2)
    have OS : Hid (OutAt c base w2 v us) := hide (HO.out.ext X2.out)
    have HAsk : Hid (AsksB c w2 v (.func (.func f) #[] lb) p) := hide (HA.out.on (Tr.of_ext X2.out))
    have HBS : Hid (Below w0.heap.size w0 w2) := hide (HBw.out.trans (X2.out.below.mono HBw.out.size))
    have HT0 : Hid (Tr c w v w2 v) := hide (Tr.of_ext X2.out)
    clear hx2
    go_wp2
    go_loopw [57] (fun i wr => ∃ (k : Nat) (v' : Value), k ≤ t.kids.length ∧ i = .int .i64 k ∧ Hid (OutAt c base wr v' (us ++ usesesL (t.kids.take k) p)) ∧ Hid (Tr c w2 v wr v')) (fun i _ => t.kids.length - (intOf i).toNat)
    case atStart => exact ⟨0, v, Nat.zero_le _, rfl, hide (by simpa [usesesL] using OS.out), hide (Tr.refl _ _ _)⟩
    case round =>
      obtain ⟨k, v', hk, rfl, HOw, HTr⟩ := hrel
      by_cases hlt : k < t.kids.length
      · have hlt' : (k : Int) < ((t.kids.length : Nat) : Int) := by omega
        have hk0 : (0 : Int) ≤ (k : Int) := by omega
        have hlk : k < t.kids.length := by have := Hlen.out; omega
        have HKw : Hid (Below w0.heap.size w0 wr) := hide (HBS.out.trans (HTr.out.below HBS.out.size hw0 (fun j hj => by have := (OS.out.own.lt j hj).1; have := OS.out.lt; omega)))
        obtain ⟨b, o, rfl, hbb, q0, q1, q2, q3, q4⟩ := (HKn.out.old HKw.out).at_ hlk
        have hck : t.kids[k]'hlk ∈ t.kids := List.getElem_mem hlk
        have Hst := hide (usesesL_take t.kids p hlk)
        have hroom := usesesL_room t.kids p hlk
        have HC := hide (IH.out _ hck w0 (wr.alloc (.cells #[.int .i64 (t.kids[k]'hlk).kind, .int .i64 (t.kids[k]'hlk).pos, .int .i64 (t.kids[k]'hlk).n, encStr (t.kids[k]'hlk).text, .slice (t.kids[k]'hlk).A (t.kids[k]'hlk).kids.length (t.kids[k]'hlk).cap] 28)) c base v' (.func (.func f) #[] lb) (us ++ usesesL (t.kids.take k) p) p (HKn.out.kids _ (List.getElem_mem hlk)) (HKw.out.alloc HKw.out.size _) hw0 (HOw.out.ext ((Ext.refl _).alloc _)) (HAsk.out.on (HTr.out.trans (Tr.of_ext ((Ext.refl _).alloc _)))) (HOk.out _ (List.getElem_mem hlk)) (by have := HSum.out; simp only [List.length_append] at *; omega))
        have HT2 : Hid (Tr c w2 v (wr.alloc (.cells #[.int .i64 (t.kids[k]'hlk).kind, .int .i64 (t.kids[k]'hlk).pos, .int .i64 (t.kids[k]'hlk).n, encStr (t.kids[k]'hlk).text, .slice (t.kids[k]'hlk).A (t.kids[k]'hlk).kids.length (t.kids[k]'hlk).cap] 28)) v') := hide (HTr.out.trans (Tr.of_ext ((Ext.refl _).alloc _)))
        clear hck hroom
        generalize t.kids[k]'hlk = cc at *
        go_wp2_with fail
        refine HC.out.mono ?_
        rintro e w9 ⟨rfl, v9, hO9, hT9⟩
        have T9 := hide (HT2.out.trans hT9)
        have O9 := hide hO9
        clear hO9 hT9
        go_wp2
        go_roundw
        case rel => exact ⟨k + 1, v9, hlt, by go_num, hide (by rw [Hst.out, ← List.append_assoc]; exact O9.out), T9⟩
        case measure => simp [intOf]; omega
      · have hge : ¬ (k : Int) < ((t.kids.length : Nat) : Int) := by omega
        have HF : Hid (us ++ usesesL (t.kids.take k) p = us ++ usesL t p) := hide (by rw [List.take_of_length_le (by have := Hlen.out; omega)]; exact HU.out)
        rw [HF.out] at HOw
        go_wp2
        go_end0
        exact ⟨rfl, v', HOw.out, HT0.out.trans HTr.out⟩

end Go.Proofs.YtbfggmeppakcgaaGreat

/- Contract: the walk over a tree's names: lambdas. (A program of ours has printed the walk.) -/
namespace Go.Proofs.YtbfggmeppakcgaaGreat
open Go.RowKit Go.Shelf

set_option maxRecDepth 10000 in
set_option maxHeartbeats 4000000 in
theorem u_walk_lam (t : Tree) (ih : ∀ k ∈ t.kids, WalksT k) (h21 : (t.kind == 21) = false) (h25 : (t.kind == 25) = true) (_h26 : (t.kind == 26) = false) (h15 : (t.kind == 15) = false) (h32 : (t.kind == 32) = false) : WalksT t := by
  intro w0 w c base v fv us p h hB hw0 hO hA hok hsz
  obtain ⟨f, lb, rfl, eg, hA2⟩ := id hA
  have IH := hide ih
  have HNt := hide (h.old hB)
  have HKn := hide h.nodes
  have hle := h.le
  have hmx := h.max
  have htx := h.txt
  have HUe := hide (usesL_eq t p)
  have HOk0 := hide ((walkOk_eq t).1 hok)
  have HSz := hide (Tree.size_eq t)
  have HBx := hide (NBox.new w t)
  have X1 : Hid (Ext w ((w.alloc (.cells #[.int .i64 t.kind, .int .i64 t.pos, .int .i64 t.n, encStr t.text, .slice t.A t.kids.length t.cap] 28)).alloc (.cells #[.func (.func f) #[] lb] 43))) := hide (((Ext.refl _).alloc _).alloc _)
  have HBy : Hid (NBox ((w.alloc (.cells #[.int .i64 t.kind, .int .i64 t.pos, .int .i64 t.n, encStr t.text, .slice t.A t.kids.length t.cap] 28)).alloc (.cells #[.func (.func f) #[] lb] 43)) w.heap.size t) := hide (HBx.out.ext ((Ext.refl _).alloc _))
  have HCl : Hid (((w.alloc (.cells #[.int .i64 t.kind, .int .i64 t.pos, .int .i64 t.n, encStr t.text, .slice t.A t.kids.length t.cap] 28)).alloc (.cells #[.func (.func f) #[] lb] 43)).heap[w.heap.size + 1]? = some (.cells #[.func (.func f) #[] lb] 43 (0, 0))) := hide (at_newB _ _ _ (by simp))
  have hsz1 : ((w.alloc (.cells #[.int .i64 t.kind, .int .i64 t.pos, .int .i64 t.n, encStr t.text, .slice t.A t.kids.length t.cap] 28)).alloc (.cells #[.func (.func f) #[] lb] 43)).heap.size = w.heap.size + 2 := by simp
  have HO := hide hO
  have HA := hide hA
  have HA2 := hide hA2
  have HBw := hide hB
  have kne : ∀ n : Int, (t.kind == n) = false → t.kind ≠ n := fun n hn e => by rw [e] at hn; simp at hn
  have keq : ∀ n : Int, (t.kind == n) = true → t.kind = n := fun n hn => by simpa using hn
  clear ih h hB hO hA hA2 hok
  have HOk : Hid (∀ k ∈ t.kids, walkOk k) := hide (by
    rcases HOk0.out with h | ⟨_, h⟩
    · exact absurd h (kne 32 h32)
    · have e : inner t = t.kids := by unfold inner; rw [if_neg (kne 15 h15)]
      rw [e] at h
      exact h)
  have hbp : bp t p = fun s => [t.text].any (· == s) || p s := by unfold bp; rw [if_pos (keq 25 h25)]
  have hin : inner t = t.kids := by unfold inner; rw [if_neg (kne 15 h15)]
  have HU : Hid (us ++ usesesL t.kids (fun s => [t.text].any (· == s) || p s) = us ++ usesL t p) := hide (by
    rw [HUe.out, if_neg (kne 32 h32), hbp, hin]
    unfold ownU
    rw [h21]
    rfl)
  have Hlen : Hid (t.kids.length = t.kids.length) := hide rfl
  have HSum : Hid (us.length + sizes t.kids ≤ 100000) := hide (by have := HSz.out; unfold sizes; omega)
  clear hbp hin
  clear kne keq HUe HOk0
  unfold treeV
  generalize hA0 : t.A = A0 at *
  have HA0 := hide hA0
  clear hA0
  go_enter Tryz.func37, Tryz.ntmps37
  go_wp2_with fail
  refine (u_also _ _ _ _ _).mono ?_
  rintro e w3 ⟨rfl, rfl⟩
  generalize ((w.alloc (.cells #[.int .i64 t.kind, .int .i64 t.pos, .int .i64 t.n, encStr t.text, .slice A0 t.kids.length t.cap] 28)).alloc (.cells #[.func (.func f) #[] lb] 43)) = w1 at *
  have X2 : Hid (Ext w ((w1.alloc (.cells #[encStr t.text] 9)).alloc (.cells #[.slice (some ⟨w.heap.size + 2, 0, none⟩) 1 1] 25))) := hide (X1.out.trans (((Ext.refl _).alloc _).alloc _))
  have g1 := X1.out.size
  have HAsk0 : Hid (AsksB c ((w1.alloc (.cells #[encStr t.text] 9)).alloc (.cells #[.slice (some ⟨w.heap.size + 2, 0, none⟩) 1 1] 25)) v (.func (.func 56) #[] #[.pointer (some ⟨w.heap.size + 3, 0, none⟩), .pointer (some ⟨w.heap.size + 1, 0, none⟩)]) (fun s => [t.text].any (· == s) || p s)) := hide (by
    refine also_asks (some ⟨w.heap.size + 2, 0, none⟩) 1 (w.heap.size + 3) (w.heap.size + 1) [t.text] uwalk11_opens (at_newB _ _ _ (by simp; omega)) ?_ ?_ (by simp) ?_ ?_ ?_ ?_ ?_ (HA.out.on (Tr.of_ext X2.out))
    · exact (((Ext.refl w1).alloc _).alloc _).heap (lt_of_obj HCl.out) |>.trans HCl.out
    · exact (show Strs (w1.alloc (.cells #[encStr t.text] 9)) (some ⟨w.heap.size + 2, 0, none⟩) [t.text] from Strs.boxedU _ (at_newB _ _ _ (by omega))).ext ((Ext.refl _).alloc _)
    · exact (HO.out.new (by omega)).1
    · exact (HO.out.new (by omega)).1
    · exact (HO.out.new (by omega)).2
    · exact (HO.out.new (by omega)).2
    · intro b o e
      injection e with e
      injection e with e1 _
      subst e1
      exact HO.out.new (by omega))
  generalize hw2 : ((w1.alloc (.cells #[encStr t.text] 9)).alloc (.cells #[.slice (some ⟨w.heap.size + 2, 0, none⟩) 1 1] 25)) = w2 at *
  clear hw2
  have OS : Hid (OutAt c base w2 v us) := hide (HO.out.ext X2.out)
  have HBS : Hid (Below w0.heap.size w0 w2) := hide (HBw.out.trans (X2.out.below.mono HBw.out.size))
  have HT0 : Hid (Tr c w v w2 v) := hide (Tr.of_ext X2.out)
  have HAsk := HAsk0
  go_wp2
  go_loopw [57] (fun i wr => ∃ (k : Nat) (v' : Value), k ≤ t.kids.length ∧ i = .int .i64 k ∧ Hid (OutAt c base wr v' (us ++ usesesL (t.kids.take k) (fun s => [t.text].any (· == s) || p s))) ∧ Hid (Tr c w2 v wr v')) (fun i _ => t.kids.length - (intOf i).toNat)
  case atStart => exact ⟨0, v, Nat.zero_le _, rfl, hide (by simpa [usesesL] using OS.out), hide (Tr.refl _ _ _)⟩
  case round =>
    obtain ⟨k, v', hk, rfl, HOw, HTr⟩ := hrel
    by_cases hlt : k < t.kids.length
    · have hlt' : (k : Int) < ((t.kids.length : Nat) : Int) := by omega
      have hk0 : (0 : Int) ≤ (k : Int) := by omega
      have hlk : k < t.kids.length := by have := Hlen.out; omega
      have HKw : Hid (Below w0.heap.size w0 wr) := hide (HBS.out.trans (HTr.out.below HBS.out.size hw0 (fun j hj => by have := (OS.out.own.lt j hj).1; have := OS.out.lt; omega)))
      obtain ⟨b, o, rfl, hbb, q0, q1, q2, q3, q4⟩ := (HKn.out.old HKw.out).at_ hlk
      have hck : t.kids[k]'hlk ∈ t.kids := List.getElem_mem hlk
      have Hst := hide (usesesL_take t.kids (fun s => [t.text].any (· == s) || p s) hlk)
      have hroom := usesesL_room t.kids (fun s => [t.text].any (· == s) || p s) hlk
      have HC := hide (IH.out _ hck w0 (wr.alloc (.cells #[.int .i64 (t.kids[k]'hlk).kind, .int .i64 (t.kids[k]'hlk).pos, .int .i64 (t.kids[k]'hlk).n, encStr (t.kids[k]'hlk).text, .slice (t.kids[k]'hlk).A (t.kids[k]'hlk).kids.length (t.kids[k]'hlk).cap] 28)) c base v' (.func (.func 56) #[] #[.pointer (some ⟨w.heap.size + 3, 0, none⟩), .pointer (some ⟨w.heap.size + 1, 0, none⟩)]) (us ++ usesesL (t.kids.take k) (fun s => [t.text].any (· == s) || p s)) (fun s => [t.text].any (· == s) || p s) (HKn.out.kids _ (List.getElem_mem hlk)) (HKw.out.alloc HKw.out.size _) hw0 (HOw.out.ext ((Ext.refl _).alloc _)) (HAsk.out.on (HTr.out.trans (Tr.of_ext ((Ext.refl _).alloc _)))) (HOk.out _ (List.getElem_mem hlk)) (by have := HSum.out; simp only [List.length_append] at *; omega))
      have HT2 : Hid (Tr c w2 v (wr.alloc (.cells #[.int .i64 (t.kids[k]'hlk).kind, .int .i64 (t.kids[k]'hlk).pos, .int .i64 (t.kids[k]'hlk).n, encStr (t.kids[k]'hlk).text, .slice (t.kids[k]'hlk).A (t.kids[k]'hlk).kids.length (t.kids[k]'hlk).cap] 28)) v') := hide (HTr.out.trans (Tr.of_ext ((Ext.refl _).alloc _)))
      clear hck hroom
      generalize t.kids[k]'hlk = cc at *
      go_wp2_with fail
      refine HC.out.mono ?_
      rintro e w9 ⟨rfl, v9, hO9, hT9⟩
      have T9 := hide (HT2.out.trans hT9)
      have O9 := hide hO9
      clear hO9 hT9
      go_wp2
      go_roundw
      case rel => exact ⟨k + 1, v9, hlt, by go_num, hide (by rw [Hst.out, ← List.append_assoc]; exact O9.out), T9⟩
      case measure => simp [intOf]; omega
    · have hge : ¬ (k : Int) < ((t.kids.length : Nat) : Int) := by omega
      have HF : Hid (us ++ usesesL (t.kids.take k) (fun s => [t.text].any (· == s) || p s) = us ++ usesL t p) := hide (by rw [List.take_of_length_le (by have := Hlen.out; omega)]; exact HU.out)
      rw [HF.out] at HOw
      go_wp2
      go_end0
      exact ⟨rfl, v', HOw.out, HT0.out.trans HTr.out⟩

end Go.Proofs.YtbfggmeppakcgaaGreat

/- Contract: the walk over a tree's names: lets. (A program of ours has printed the walk.) -/
namespace Go.Proofs.YtbfggmeppakcgaaGreat
open Go.RowKit Go.Shelf

set_option maxRecDepth 10000 in
set_option maxHeartbeats 4000000 in
theorem u_walk_let (t : Tree) (ih : ∀ k ∈ t.kids, WalksT k) (h21 : (t.kind == 21) = false) (h25 : (t.kind == 25) = false) (h26 : (t.kind == 26) = true) (h15 : (t.kind == 15) = false) (h32 : (t.kind == 32) = false) : WalksT t := by
  intro w0 w c base v fv us p h hB hw0 hO hA hok hsz
  obtain ⟨f, lb, rfl, eg, hA2⟩ := id hA
  have IH := hide ih
  have HNt := hide (h.old hB)
  have HKn := hide h.nodes
  have hle := h.le
  have hmx := h.max
  have htx := h.txt
  have HUe := hide (usesL_eq t p)
  have HOk0 := hide ((walkOk_eq t).1 hok)
  have HSz := hide (Tree.size_eq t)
  have HBx := hide (NBox.new w t)
  have X1 : Hid (Ext w ((w.alloc (.cells #[.int .i64 t.kind, .int .i64 t.pos, .int .i64 t.n, encStr t.text, .slice t.A t.kids.length t.cap] 28)).alloc (.cells #[.func (.func f) #[] lb] 43))) := hide (((Ext.refl _).alloc _).alloc _)
  have HBy : Hid (NBox ((w.alloc (.cells #[.int .i64 t.kind, .int .i64 t.pos, .int .i64 t.n, encStr t.text, .slice t.A t.kids.length t.cap] 28)).alloc (.cells #[.func (.func f) #[] lb] 43)) w.heap.size t) := hide (HBx.out.ext ((Ext.refl _).alloc _))
  have HCl : Hid (((w.alloc (.cells #[.int .i64 t.kind, .int .i64 t.pos, .int .i64 t.n, encStr t.text, .slice t.A t.kids.length t.cap] 28)).alloc (.cells #[.func (.func f) #[] lb] 43)).heap[w.heap.size + 1]? = some (.cells #[.func (.func f) #[] lb] 43 (0, 0))) := hide (at_newB _ _ _ (by simp))
  have hsz1 : ((w.alloc (.cells #[.int .i64 t.kind, .int .i64 t.pos, .int .i64 t.n, encStr t.text, .slice t.A t.kids.length t.cap] 28)).alloc (.cells #[.func (.func f) #[] lb] 43)).heap.size = w.heap.size + 2 := by simp
  have HO := hide hO
  have HA := hide hA
  have HA2 := hide hA2
  have HBw := hide hB
  have kne : ∀ n : Int, (t.kind == n) = false → t.kind ≠ n := fun n hn e => by rw [e] at hn; simp at hn
  have keq : ∀ n : Int, (t.kind == n) = true → t.kind = n := fun n hn => by simpa using hn
  clear ih h hB hO hA hA2 hok
  have HOk : Hid (∀ k ∈ t.kids, walkOk k) := hide (by
    rcases HOk0.out with h | ⟨_, h⟩
    · exact absurd h (kne 32 h32)
    · have e : inner t = t.kids := by unfold inner; rw [if_neg (kne 15 h15)]
      rw [e] at h
      exact h)
  have hbp : bp t p = fun s => (bindsL t.kids).any (· == s) || p s := by unfold bp; rw [if_neg (kne 25 h25), if_pos (keq 26 h26)]
  have hin : inner t = t.kids := by unfold inner; rw [if_neg (kne 15 h15)]
  have HU : Hid (us ++ usesesL t.kids (fun s => (bindsL t.kids).any (· == s) || p s) = us ++ usesL t p) := hide (by
    rw [HUe.out, if_neg (kne 32 h32), hbp, hin]
    unfold ownU
    rw [h21]
    rfl)
  have Hlen : Hid (t.kids.length = t.kids.length) := hide rfl
  have HSum : Hid (us.length + sizes t.kids ≤ 100000) := hide (by have := HSz.out; unfold sizes; omega)
  have hkl := Tree.kids_len t
  have Hbl := hide (bindsL_len t.kids)
  have HBd := hide (fun w' (e : Ext w w') => hide (u_binds t.A t.cap t.kids w' (HNt.out.nodes.ext e) (by omega)))
  clear hbp hin
  clear kne keq HUe HOk0
  unfold treeV
  generalize hA0 : t.A = A0 at *
  have HA0 := hide hA0
  clear hA0
  go_enter Tryz.func37, Tryz.ntmps37
  go_wp2_with fail
  refine (HBd.out _ X1.out).out.mono ?_
  rintro e w2 ⟨⟨A5, c5, rfl, r1, r2, hR3, hR4⟩, hx2⟩
  generalize ((w.alloc (.cells #[.int .i64 t.kind, .int .i64 t.pos, .int .i64 t.n, encStr t.text, .slice A0 t.kids.length t.cap] 28)).alloc (.cells #[.func (.func f) #[] lb] 43)) = w1 at *
  have X2 := hide (X1.out.trans hx2)
  have HCl2 := hide ((hx2.heap (lt_of_obj HCl.out)).trans HCl.out)
  have g1 := X1.out.size
  have g2 := X2.out.size
  have R3 := hide hR3
  have R4 := hide hR4
  have hs2 : w.heap.size + 1 < w2.heap.size := by have := hx2.size; omega
  clear hx2 hR3 hR4
  go_wp2_with fail
  refine (u_also _ _ _ _ _).mono ?_
  rintro e w3 ⟨rfl, rfl⟩
  have X3 : Hid (Ext w (w2.alloc (.cells #[.slice A5 (bindsL t.kids).length c5] 25))) := hide (X2.out.alloc _)
  have HAsk : Hid (AsksB c (w2.alloc (.cells #[.slice A5 (bindsL t.kids).length c5] 25)) v (.func (.func 56) #[] #[.pointer (some ⟨w2.heap.size, 0, none⟩), .pointer (some ⟨w.heap.size + 1, 0, none⟩)]) (fun s => (bindsL t.kids).any (· == s) || p s)) := hide (by
    refine also_asks A5 c5 w2.heap.size (w.heap.size + 1) (bindsL t.kids) uwalk11_opens (at_newB _ _ _ rfl) ?_ ?_ ?_ ?_ ?_ ?_ ?_ ?_ (HA.out.on (Tr.of_ext X3.out))
    · exact (((Ext.refl w2).alloc _).heap hs2).trans HCl2.out
    · exact R3.out.ext ((Ext.refl _).alloc _)
    · omega
    · exact (HO.out.new (by omega)).1
    · exact (HO.out.new (by omega)).1
    · exact (HO.out.new (by omega)).2
    · exact (HO.out.new (by omega)).2
    · intro b o e
      have := R4.out b o e
      exact HO.out.new (by omega))
  have OS : Hid (OutAt c base (w2.alloc (.cells #[.slice A5 (bindsL t.kids).length c5] 25)) v us) := hide (HO.out.ext X3.out)
  have HBS : Hid (Below w0.heap.size w0 (w2.alloc (.cells #[.slice A5 (bindsL t.kids).length c5] 25))) := hide (HBw.out.trans (X3.out.below.mono HBw.out.size))
  have HT0 : Hid (Tr c w v (w2.alloc (.cells #[.slice A5 (bindsL t.kids).length c5] 25)) v) := hide (Tr.of_ext X3.out)
  clear R3 R4 HCl2
  generalize bindsL t.kids = LB at *
  generalize (w2.alloc (.cells #[.slice A5 LB.length c5] 25)) = w3 at *
  go_wp2
  go_loopw [57] (fun i wr => ∃ (k : Nat) (v' : Value), k ≤ t.kids.length ∧ i = .int .i64 k ∧ Hid (OutAt c base wr v' (us ++ usesesL (t.kids.take k) (fun s => LB.any (· == s) || p s))) ∧ Hid (Tr c w3 v wr v')) (fun i _ => t.kids.length - (intOf i).toNat)
  case atStart => exact ⟨0, v, Nat.zero_le _, rfl, hide (by simpa [usesesL] using OS.out), hide (Tr.refl _ _ _)⟩
  case round =>
    obtain ⟨k, v', hk, rfl, HOw, HTr⟩ := hrel
    by_cases hlt : k < t.kids.length
    · have hlt' : (k : Int) < ((t.kids.length : Nat) : Int) := by omega
      have hk0 : (0 : Int) ≤ (k : Int) := by omega
      have hlk : k < t.kids.length := by have := Hlen.out; omega
      have HKw : Hid (Below w0.heap.size w0 wr) := hide (HBS.out.trans (HTr.out.below HBS.out.size hw0 (fun j hj => by have := (OS.out.own.lt j hj).1; have := OS.out.lt; omega)))
      obtain ⟨b, o, rfl, hbb, q0, q1, q2, q3, q4⟩ := (HKn.out.old HKw.out).at_ hlk
      have hck : t.kids[k]'hlk ∈ t.kids := List.getElem_mem hlk
      have Hst := hide (usesesL_take t.kids (fun s => LB.any (· == s) || p s) hlk)
      have hroom := usesesL_room t.kids (fun s => LB.any (· == s) || p s) hlk
      have HC := hide (IH.out _ hck w0 (wr.alloc (.cells #[.int .i64 (t.kids[k]'hlk).kind, .int .i64 (t.kids[k]'hlk).pos, .int .i64 (t.kids[k]'hlk).n, encStr (t.kids[k]'hlk).text, .slice (t.kids[k]'hlk).A (t.kids[k]'hlk).kids.length (t.kids[k]'hlk).cap] 28)) c base v' (.func (.func 56) #[] #[.pointer (some ⟨w2.heap.size, 0, none⟩), .pointer (some ⟨w.heap.size + 1, 0, none⟩)]) (us ++ usesesL (t.kids.take k) (fun s => LB.any (· == s) || p s)) (fun s => LB.any (· == s) || p s) (HKn.out.kids _ (List.getElem_mem hlk)) (HKw.out.alloc HKw.out.size _) hw0 (HOw.out.ext ((Ext.refl _).alloc _)) (HAsk.out.on (HTr.out.trans (Tr.of_ext ((Ext.refl _).alloc _)))) (HOk.out _ (List.getElem_mem hlk)) (by have := HSum.out; simp only [List.length_append] at *; omega))
      have HT2 : Hid (Tr c w3 v (wr.alloc (.cells #[.int .i64 (t.kids[k]'hlk).kind, .int .i64 (t.kids[k]'hlk).pos, .int .i64 (t.kids[k]'hlk).n, encStr (t.kids[k]'hlk).text, .slice (t.kids[k]'hlk).A (t.kids[k]'hlk).kids.length (t.kids[k]'hlk).cap] 28)) v') := hide (HTr.out.trans (Tr.of_ext ((Ext.refl _).alloc _)))
      clear hck hroom
      generalize t.kids[k]'hlk = cc at *
      go_wp2_with fail
      refine HC.out.mono ?_
      rintro e w9 ⟨rfl, v9, hO9, hT9⟩
      have T9 := hide (HT2.out.trans hT9)
      have O9 := hide hO9
      clear hO9 hT9
      go_wp2
      go_roundw
      case rel => exact ⟨k + 1, v9, hlt, by go_num, hide (by rw [Hst.out, ← List.append_assoc]; exact O9.out), T9⟩
      case measure => simp [intOf]; omega
    · have hge : ¬ (k : Int) < ((t.kids.length : Nat) : Int) := by omega
      have HF : Hid (us ++ usesesL (t.kids.take k) (fun s => LB.any (· == s) || p s) = us ++ usesL t p) := hide (by rw [List.take_of_length_le (by have := Hlen.out; omega)]; exact HU.out)
      rw [HF.out] at HOw
      go_wp2
      go_end0
      exact ⟨rfl, v', HOw.out, HT0.out.trans HTr.out⟩

end Go.Proofs.YtbfggmeppakcgaaGreat
