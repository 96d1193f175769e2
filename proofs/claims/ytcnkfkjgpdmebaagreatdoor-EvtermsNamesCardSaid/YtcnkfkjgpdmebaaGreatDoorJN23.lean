/- Substitutions in memory; contracts: a variable's place, and what stands there. -/
import Derived.Test.YtcnkfkjgpdmebaaGreatDoorJN22
import Derived.Shelf.Abstract
import Derived.WalkSpells
import Derived.Deep.LoopGhost
import Derived.Deep.QuietTactic
import Derived.BigQuiet
import Derived.Deep.RegionHeld3
/- Substitutions in memory; contracts: a variable's place, and what stands there. -/
namespace Go.Proofs.YtcnkfkjgpdmebaaGreatDoor
open Go.RowKit Go.Shelf

structure PrsIn (w : World) (A : Option Addr) (s : List Pr) : Prop where
  row : RowOf prC w A s
  ty : ∀ p ∈ s, TyIn w p.ty
section
variable {w w' : World} {A : Option Addr} {s : List Pr}
theorem PrsIn.ext (h : PrsIn w A s) (e : Ext w w') : PrsIn w' A s := ⟨RowOf.ext prC h.row e, fun p hp => (h.ty p hp).ext e⟩
theorem prs_at (h : RowOf prC w A s) {i : Nat} (hi : i < s.length) :
    ∃ b o, A = some ⟨b, o, none⟩ ∧ b < w.heap.size ∧ w.cell? ⟨b, o + i * 4, none⟩ = some (.int .i64 (s[i]'hi).v) ∧ w.cell? ⟨b, o + i * 4 + 1, none⟩ = some (.string ⟨(s[i]'hi).ty.con.toArray⟩) ∧
      w.cell? ⟨b, o + i * 4 + 2, none⟩ = some (.int .i64 (s[i]'hi).ty.var) ∧ w.cell? ⟨b, o + i * 4 + 3, none⟩ = some (.slice (s[i]'hi).ty.A (s[i]'hi).ty.args.length (s[i]'hi).ty.cap) := by
  obtain ⟨b, o, e, hb, hc⟩ := RowOf.at_ prC h hi
  refine ⟨b, o, e, hb, ?_, ?_, ?_, ?_⟩
  · have := hc 0 (by decide); simpa [prC, Pr.cells] using this
  · have := hc 1 (by decide); simpa [prC, Pr.cells] using this
  · have := hc 2 (by decide); simpa [prC, Pr.cells] using this
  · have := hc 3 (by decide); simpa [prC, Pr.cells] using this
end
@[go_sem] def prV (p : Pr) : Value := .agg #[.int .i64 p.v, encStr p.ty.con, .int .i64 p.ty.var, .slice p.ty.A p.ty.args.length p.ty.cap]
/-- A substitution that is read. -/
structure SubIn (w : World) (p : Nat) (A : Option Addr) (cap : Nat) (s : List Pr) : Prop where
  blk : w.heap[p]? = some (.cells #[.slice A s.length cap] 194 (0, 0))
  le : s.length ≤ cap
  max : cap ≤ 9223372036854775807
  prs : PrsIn w A s
  few : s.length ≤ 100000
  rise : RiseP s
theorem SubIn.ext {w w' : World} {p : Nat} {A : Option Addr} {cap : Nat} {s : List Pr} (h : SubIn w p A cap s) (e : Ext w w') : SubIn w' p A cap s := ⟨(e.heap (lt_of_obj h.blk)).trans h.blk, h.le, h.max, h.prs.ext e, h.few, h.rise⟩
theorem SubIn.cell {w : World} {p : Nat} {A : Option Addr} {cap : Nat} {s : List Pr} (h : SubIn w p A cap s) : w.cell? ⟨p, 0, none⟩ = some (.slice A s.length cap) := by simp [World.cell?, h.blk]
def cmpI (a x : Int) : Int := if a < x then -1 else if x < a then 1 else 0

set_option maxRecDepth 10000 in
set_option maxHeartbeats 1000000 in
theorem s_find1 (p : Pr) (x : Int) (w : World) : Calls Tryz.prog 212 #[prV p, .int .i64 x] w fun e w' => e = .returned (.int .i64 (cmpI p.v x)) ∧ Ext w w' := by
  have X0 : Hid (Ext w (w.alloc (.cells #[.int .i64 p.v, encStr p.ty.con, .int .i64 p.ty.var, .slice p.ty.A p.ty.args.length p.ty.cap] 196))) := hide ((Ext.refl w).alloc _)
  obtain ⟨R, hR⟩ : ∃ R, R = cmpI p.v x := ⟨_, rfl⟩
  rw [← hR]
  have HR := hide hR
  clear hR
  unfold prV
  by_cases h1 : p.v < x
  · have hr : R = -1 := by rw [HR.out]; unfold cmpI; rw [if_pos h1]
    clear HR
    subst hr
    go_enter Tryz.func212, Tryz.ntmps212
    go_wp2
    go_ret
    exact ⟨rfl, X0.out⟩
  by_cases h2 : x < p.v
  · have hr : R = 1 := by rw [HR.out]; unfold cmpI; rw [if_neg h1, if_pos h2]
    clear HR
    subst hr
    go_enter Tryz.func212, Tryz.ntmps212
    go_wp2
    go_ret
    exact ⟨rfl, X0.out⟩
  · have hr : R = 0 := by rw [HR.out]; unfold cmpI; rw [if_neg h1, if_neg h2]
    clear HR
    subst hr
    go_enter Tryz.func212, Tryz.ntmps212
    go_wp2
    go_ret
    exact ⟨rfl, X0.out⟩

set_option maxRecDepth 10000 in
set_option maxHeartbeats 4000000 in
theorem s_bsf (A : Option Addr) (cap : Nat) (s : List Pr) (x : Int) (w : World) (h : RowOf prC w A s) (hr : RiseP s) (hl : s.length ≤ 100000) :
    Calls Tryz.prog 211 #[.slice A s.length cap, .int .i64 x, .func (.func 212) #[] #[]] w fun e w' => (∃ i : Nat, e = .returned (.tuple #[.int .i64 i, .bool (hasAt s x i)]) ∧ LbP s x i) ∧ Ext w w' := by
  have HL := hide h
  have HR := hide hr
  have HF := hide (fun (p : Pr) w' => hide (s_find1 p x w'))
  unfold prV at HF
  clear h hr
  go_enter Tryz.func211, Tryz.ntmps211
  go_wp2
  go_loopg [9, 10] s.length (fun kx s9 s10 wr => ∃ lo hi : Nat, s9 = .int .i64 lo ∧ s10 = .int .i64 hi ∧ lo ≤ hi ∧ hi ≤ s.length ∧ hi - lo ≤ kx ∧ Hid (Ext w wr) ∧ Hid ((∀ t (ht : t < s.length), t < lo → (s[t]'ht).v < x) ∧ (∀ t (ht : t < s.length), hi ≤ t → x ≤ (s[t]'ht).v)))
  case atStart => exact ⟨0, s.length, rfl, rfl, Nat.zero_le _, Nat.le_refl _, by omega, hide (Ext.refl _), hide ⟨fun t _ ht => absurd ht (Nat.not_lt_zero _), fun t h1 h2 => by omega⟩⟩
  case round =>
    obtain ⟨lo, hi, rfl, rfl, hlh, hin, hg, HX, I⟩ := hrel
    by_cases hlt : lo < hi
    · have hml : (lo + hi) / 2 < s.length := by omega
      obtain ⟨b, o, rfl, hb, q0, q1, q2, q3⟩ := prs_at (HL.out.ext (C := prC) HX.out) hml
      have HC := hide (HF.out (s[(lo + hi) / 2]'hml) wr)
      have HM : Hid (∃ p, p = s[(lo + hi) / 2]'hml) := hide ⟨_, rfl⟩
      have Hlt := hide (fun t (ht : t < s.length) (h : t ≤ (lo + hi) / 2) => (by
        rcases Nat.lt_or_ge t ((lo + hi) / 2) with h1 | h1
        · exact Int.le_of_lt (rise_lt HR.out h1 hml)
        · obtain rfl : t = (lo + hi) / 2 := by omega
          exact Int.le_refl _ : (s[t]'ht).v ≤ (s[(lo + hi) / 2]'hml).v))
      have Hge := hide (fun t (ht : t < s.length) (h : (lo + hi) / 2 ≤ t) => (by
        rcases Nat.lt_or_ge ((lo + hi) / 2) t with h1 | h1
        · exact Int.le_of_lt (rise_lt HR.out h1 ht)
        · obtain rfl : t = (lo + hi) / 2 := by omega
          exact Int.le_refl _ : (s[(lo + hi) / 2]'hml).v ≤ (s[t]'ht).v))
      generalize s[(lo + hi) / 2]'hml = p at *
      by_cases hyx : p.v < x
      · have hc : cmpI p.v x = -1 := by unfold cmpI; rw [if_pos hyx]
        rw [hc] at HC
        have I2 := hide (And.intro (fun t (ht : t < s.length) (h : t < (lo + hi) / 2 + 1) => (Int.lt_of_le_of_lt (Hlt.out t ht (by omega)) hyx : (s[t]'ht).v < x)) I.out.2)
        clear hc hyx Hlt Hge HM
        go_wp2_with fail
        refine HC.out.out.mono ?_
        rintro e w3 ⟨rfl, hx⟩
        have X3 := hide (HX.out.trans hx)
        clear hx
        go_wp2
        go_roundg (hi - ((lo + hi) / 2 + 1))
        case measure => omega
        case rel => exact ⟨(lo + hi) / 2 + 1, hi, by rw [show ((lo : Int) + (hi : Int)) / 2 + 1 = (((lo + hi) / 2 + 1 : Nat) : Int) by omega], rfl, by omega, hin, Nat.le_refl _, X3, I2⟩
      · have hc : ¬ cmpI p.v x < 0 := by unfold cmpI; rw [if_neg hyx]; split <;> omega
        have I2 := hide (And.intro I.out.1 (fun t (ht : t < s.length) (h : (lo + hi) / 2 ≤ t) => (Int.le_trans (Int.not_lt.1 hyx) (Hge.out t ht h) : x ≤ (s[t]'ht).v)))
        clear hyx Hlt Hge HM
        generalize cmpI p.v x = c at *
        go_wp2_with fail
        refine HC.out.out.mono ?_
        rintro e w3 ⟨rfl, hx⟩
        have X3 := hide (HX.out.trans hx)
        clear hx
        go_wp2
        go_roundg ((lo + hi) / 2 - lo)
        case measure => omega
        case rel => exact ⟨lo, (lo + hi) / 2, rfl, by rw [show ((lo : Int) + (hi : Int)) / 2 = (((lo + hi) / 2 : Nat) : Int) by omega], by omega, by omega, Nat.le_refl _, X3, I2⟩
    · obtain rfl : hi = lo := by omega
      have HLb : Hid (LbP s x hi) := hide ⟨hin, I.out.1, I.out.2⟩
      clear I
      by_cases hn : hi < s.length
      · obtain ⟨b, o, rfl, hb, q0, q1, q2, q3⟩ := prs_at (HL.out.ext (C := prC) HX.out) hn
        have HC := hide (HF.out (s[hi]'hn) wr)
        have HH : Hid (hasAt s x hi = ((s[hi]'hn).v == x)) := hide (hasAt_lt hn)
        have hge := HLb.out.hi hi hn (Nat.le_refl _)
        generalize s[hi]'hn = p at *
        have hn' : (hi : Int) < (s.length : Int) := by omega
        by_cases hyx : p.v = x
        · have hc : cmpI p.v x = 0 := by unfold cmpI; rw [if_neg (by omega), if_neg (by omega)]
          have HB := hide (show hasAt s x hi = true by rw [HH.out]; simpa using hyx)
          rw [hc] at HC
          clear hc hyx HH hge
          go_wp2_with fail
          refine HC.out.out.mono ?_
          rintro e w3 ⟨rfl, hx⟩
          go_wp2
          go_ret2
          exact ⟨⟨hi, by rw [HB.out]; rfl, HLb.out⟩, HX.out.trans hx⟩
        · have hc : cmpI p.v x = 1 := by unfold cmpI; rw [if_neg (by omega), if_pos (by omega)]
          have HB := hide (show hasAt s x hi = false by rw [HH.out]; simpa using hyx)
          rw [hc] at HC
          clear hc hyx HH hge
          go_wp2_with fail
          refine HC.out.out.mono ?_
          rintro e w3 ⟨rfl, hx⟩
          go_wp2
          go_ret2
          exact ⟨⟨hi, by rw [HB.out]; rfl, HLb.out⟩, HX.out.trans hx⟩
      · have hn' : ¬ (hi : Int) < (s.length : Int) := by omega
        have hB := hasAt_end (s := s) (v := x) hn
        have HB := hide hB
        clear hB
        go_wp2
        go_ret2
        exact ⟨⟨hi, by rw [HB.out]; rfl, HLb.out⟩, HX.out⟩

set_option maxRecDepth 10000 in
set_option maxHeartbeats 1000000 in
theorem s_find (p : Nat) (A : Option Addr) (cap : Nat) (s : List Pr) (x : Int) (w : World) (h : SubIn w p A cap s) :
    Calls Tryz.prog 179 #[.pointer (some ⟨p, 0, none⟩), .int .i64 x] w fun e w' => (∃ i : Nat, e = .returned (.tuple #[.int .i64 i, .bool (hasAt s x i)]) ∧ LbP s x i) ∧ Ext w w' := by
  have HB := hide (s_bsf A cap s x w h.prs.row h.rise h.few)
  have c0 := h.cell
  have hb := lt_of_obj h.blk
  clear h
  go_enter Tryz.func179, Tryz.ntmps179
  go_wp2_with fail
  refine HB.out.mono ?_
  rintro e w2 ⟨⟨i, rfl, hi⟩, hx⟩
  have Hi := hide hi
  clear hi
  go_wp2
  go_ret2
  exact ⟨⟨i, rfl, Hi.out⟩, hx⟩

set_option maxRecDepth 10000 in
set_option maxHeartbeats 2000000 in
theorem s_get (p : Nat) (A : Option Addr) (cap : Nat) (s : List Pr) (x : Int) (w : World) (h : SubIn w p A cap s) :
    Calls Tryz.prog 182 #[.pointer (some ⟨p, 0, none⟩), .int .i64 x] w fun e w' => e = .returned (.tuple #[tyV ((putAt (vsP s) (tsP s) x).getD Ty.zero), .bool (putAt (vsP s) (tsP s) x).isSome]) ∧ Ext w w' := by
  obtain ⟨W, hW⟩ : ∃ W, W = w.alloc (.cells #[.string ⟨#[]⟩, .int .i64 0, .slice none 0 0] 53) := ⟨_, rfl⟩
  have HW := hide hW.symm
  have X0 : Hid (Ext w W) := hide (by rw [hW]; exact (Ext.refl _).alloc _)
  have B1 : Hid (W.heap[w.heap.size]? = some (.cells #[.string ⟨#[]⟩, .int .i64 0, .slice none 0 0] 53 (0, 0))) := hide (by rw [hW]; exact at_newB _ _ _ rfl)
  have HS := hide (h.ext X0.out)
  have HF := hide (s_find p A cap s x W HS.out)
  have HP := hide (fun i (hi : LbP s x i) => putAt_lb h.rise hi)
  clear hW h
  generalize hR : putAt (vsP s) (tsP s) x = R at *
  have HR := hide hR
  clear hR
  unfold tyV
  go_enter Tryz.func182, Tryz.ntmps182
  go_upto_region 1 with fail
  rw [HW.out]
  clear HW
  go_wp2_with fail
  refine HF.out.mono ?_
  rintro e w2 ⟨⟨i, rfl, hi⟩, hx2⟩
  have X2 := hide hx2
  have Hp := hide (HP.out i hi)
  have hil := hi.le
  clear hx2 HF HP hi
  have B2 := hide ((X2.out.heap (lt_of_obj B1.out)).trans B1.out)
  have f0 := free_block B2.out 0
  have f1 := free_block B2.out 1
  have f2 := free_block B2.out 2
  have k0 := bytes_block B2.out 0
  have k1 := bytes_block B2.out 1
  have k2 := bytes_block B2.out 2
  simp only [List.getElem?_toArray, List.getElem?_cons_zero, List.getElem?_cons_succ] at k0 k1 k2
  cases hh : hasAt s x i
  · have hp0 : R = none := by rw [Hp.out, hh]; rfl
    clear Hp hh HR
    subst hp0
    go_wp2
    refine bodyPost_ret (v := .tuple #[.agg #[.string ⟨#[]⟩, .int .i64 0, .slice none 0 0], .bool false]) ?_ rfl ⟨rfl, ?_⟩
    · simp [results, Tryz.f182, go_sem, k0, k1, k2]
    · exact (((X0.out.trans X2.out).setCell (by simp) _).setCell (by simp) _).setCell (by simp) _
  · obtain ⟨hlt, -⟩ := hasAt_true hh
    have hp0 : R = some (s[i]'hlt).ty := by rw [Hp.out, hh, List.getElem?_eq_getElem hlt]; rfl
    clear HR Hp hh
    have c0 := (HS.out.ext X2.out).cell
    have hb := lt_of_obj (HS.out.ext X2.out).blk
    obtain ⟨b, o, rfl, hbb, q0, q1, q2, q3⟩ := prs_at (HS.out.ext X2.out).prs.row hlt
    have hi0 : (0 : Int) ≤ (i : Int) := by omega
    have hi1 : (i : Int) < (s.length : Int) := by omega
    generalize s[i]'hlt = u at *
    subst hp0
    go_wp2
    refine bodyPost_ret (v := .tuple #[.agg #[encStr u.ty.con, .int .i64 u.ty.var, .slice u.ty.A u.ty.args.length u.ty.cap], .bool true]) ?_ rfl ⟨rfl, ?_⟩
    · simp [results, Tryz.f182, go_sem, k0, k1, k2]
    · exact (((X0.out.trans X2.out).setCell (by simp) _).setCell (by simp) _).setCell (by simp) _

end Go.Proofs.YtcnkfkjgpdmebaaGreatDoor

/- A region that draws its order, of which the last operation alone turns what the others read. No program in sight. -/
namespace Go.Proofs.YtcnkfkjgpdmebaaGreatDoor
open Go.RowKit

section
variable {P : Program} {md : Region.Mode} {ops : Array Oper} {Q : Exit → Act → World → Prop} {S : World → Prop} {last : Nat}
/-- Whatever order is picked from here on, and S holds behind every operation but the one numbered `last`. -/
def anyBut (P : Program) (md : Region.Mode) (ops : Array Oper) (Q : Exit → Act → World → Prop) (S : World → Prop) (last : Nat) : Nat → Array Bool → Act → World → Prop
  | 0, listed, a, w => Region.ready md ops listed = [] ∧ Q .normal a w
  | fuel + 1, listed, a, w =>
    (Region.ready md ops listed = [] → Q .normal a w) ∧
    ∀ i ∈ Region.ready md ops listed, wpOp P ops Q i (fun a' w' => (i ≠ last → S w') ∧ anyBut P md ops Q S last fuel (listed.setIfInBounds i true) a' w') a w
theorem any_of_but : ∀ (fuel : Nat) (listed : Array Bool) (a : Act) (w : World), anyBut P md ops Q S last fuel listed a w → wpAny P md ops Q fuel listed a w
  | 0, _, _, _, h => h
  | fuel + 1, _, _, _, h => ⟨h.1, fun i hi => wpOp_mono (fun _ _ h' => any_of_but fuel _ _ _ h'.2) (h.2 i hi)⟩
/-- The last one waits for number `i`. -/
def waitsFor (md : Region.Mode) (ops : Array Oper) (last i : Nat) : Bool := match ops[last]? with | some o => o.after.any fun e => Region.binds md e && e.on == i | none => true
theorem waitsFor_spec {i : Nat} {o : Oper} (h : waitsFor md ops last i = true) (ho : ops[last]? = some o) : ∃ e ∈ o.after, Region.binds md e = true ∧ e.on = i := by
  unfold waitsFor at h
  rw [ho] at h
  obtain ⟨k, hk, h2⟩ := Array.any_eq_true.1 h
  simp only [Bool.and_eq_true, beq_iff_eq] at h2
  exact ⟨_, Array.getElem_mem hk, h2⟩
theorem but_first {i : Nat} {oi : Oper} {v : Value} (hi : ops[i]? = some oi) (hsel : ∀ (j : Nat) (o : Oper) cs b, ops[j]? = some o → o.op ≠ .select cs b)
    (hQ : ∀ c a w, Q (.panic c) (a.put oi.dst v) w → Q (.panic c) a w) (hl : waitsFor md ops last i = true) :
    ∀ (fuel : Nat) (listed : Array Bool) (a : Act) (w : World),
      (∀ j oj, ops[j]? = some oj → j ≠ i → listed.getD j true = false → (∀ e ∈ oj.after, Region.binds md e = true → e.on ≠ i) → oi.apart ops oj = true) →
      i ∈ Region.ready md ops listed → YieldsIf P ops S oi v a → S w →
      anyBut P md ops Q S last fuel (listed.setIfInBounds i true) (a.put oi.dst v) w → anyBut P md ops Q S last (fuel + 1) listed a w := by
  intro fuel
  induction fuel with
  | zero =>
    intro listed a w _ hr hy hS H
    refine ⟨fun h => (by rw [h] at hr; cases hr), fun j hj => ?_⟩
    by_cases hji : j = i
    · subst hji; exact hy.wpOp hi hS ⟨fun _ => hS, H⟩
    · have := ready_mono hj hji
      rw [H.1] at this
      cases this
  | succ fuel ih =>
    intro listed a w hfree hr hy hS H
    refine ⟨fun h => (by rw [h] at hr; cases hr), fun j hj => ?_⟩
    by_cases hji : j = i
    · subst hji; exact hy.wpOp hi hS ⟨fun _ => hS, H⟩
    · have h1 := H.2 j (ready_mono hj hji)
      obtain ⟨hjun, oj, hoj, hall⟩ := mem_ready.1 hj
      have hnot : ∀ e ∈ oj.after, Region.binds md e = true → e.on ≠ i := fun e he hb heq => by
        have h1 := hall e he hb
        have h0 := (mem_ready.1 hr).1
        rw [heq] at h1
        rcases Nat.lt_or_ge i listed.size with h' | h'
        · simp [h'] at h0 h1; rw [h0] at h1; cases h1
        · simp [Array.getElem?_eq_none h'] at h1
      have hjl : j ≠ last := fun e => by
        subst e
        obtain ⟨e, he, hb, ho⟩ := waitsFor_spec hl hoj
        exact hnot e he hb ho
      have h2 := wpOp_putIf hoj (hfree j oj hoj hji hjun hnot) (fun cs b => hsel i oi cs b hi) (fun cs b => hsel j oj cs b hoj) hQ hy h1
      have hfree' : ∀ k ok, ops[k]? = some ok → k ≠ i → (listed.setIfInBounds j true).getD k true = false →
          (∀ e ∈ ok.after, Region.binds md e = true → e.on ≠ i) → oi.apart ops ok = true := fun k ok hk hki hun hno => by
        refine hfree k ok hk hki ?_ hno
        by_cases hjk : j = k
        · subst hjk; exact hjun
        · rw [getD_set_ne true hjk] at hun; exact hun
      refine wpOp_mono (fun a' w' h3 => ⟨h3.2.1, ih (listed.setIfInBounds j true) a' w' hfree' (ready_mono hr (Ne.symm hji)) h3.1 (h3.2.1 hjl) ?_⟩) h2
      rw [Array.setIfInBounds_comm _ _ hji]
      exact h3.2.2
theorem but_take {i : Nat} {oi : Oper} {v : Value} {fuel : Nat} {listed : Array Bool} {a : Act} {w : World} (hi : ops[i]? = some oi)
    (hs : Region.noSelect ops = true) (hf : Region.free md ops listed i = true) (hr : (Region.ready md ops listed).contains i = true) (hl : waitsFor md ops last i = true)
    (hQ : ∀ c a w, Q (.panic c) (a.put oi.dst v) w → Q (.panic c) a w) (hy : YieldsIf P ops S oi v a) (hS : S w)
    (h : anyBut P md ops Q S last fuel (listed.setIfInBounds i true) (a.put oi.dst v) w) : anyBut P md ops Q S last (fuel + 1) listed a w :=
  but_first hi (Region.noSelect_spec hs) hQ hl fuel listed a w (Region.free_spec hi hf) (by simpa using hr) hy hS h
theorem drop_get {i : Nat} {o : Oper} {rest : List Oper} (h : ops.toList.drop i = o :: rest) : ops[i]? = some o := by
  have h1 := congrArg (fun l => l[0]?) h
  simpa using h1
/-- The same, the operation written out. -/
theorem but_takeL {i : Nat} {oi : Oper} {rest : List Oper} {v : Value} {fuel : Nat} {listed : Array Bool} {a : Act} {w : World} (hi : ops.toList.drop i = oi :: rest)
    (hs : Region.noSelect ops = true) (hf : Region.free md ops listed i = true) (hr : (Region.ready md ops listed).contains i = true) (hl : waitsFor md ops last i = true)
    (hQ : ∀ c a w, Q (.panic c) (a.put oi.dst v) w → Q (.panic c) a w) (hy : YieldsIf P ops S oi v a) (hS : S w)
    (h : anyBut P md ops Q S last fuel (listed.setIfInBounds i true) (a.put oi.dst v) w) : anyBut P md ops Q S last (fuel + 1) listed a w :=
  but_take (drop_get hi) hs hf hr hl hQ hy hS h
theorem but_step {i : Nat} {o : Oper} {fuel : Nat} {listed : Array Bool} {a : Act} {w : World} (hr : Region.ready md ops listed = [i]) (ho : ops[i]? = some o)
    (h : ∀ K' : Act → World → Prop, Shut (∀ a w, (i ≠ last → S w) → anyBut P md ops Q S last fuel (listed.setIfInBounds i true) a w → K' a w) → if Region.wanted o (yielded ops a.tmps) = true then Oper.wp P o a w K' Q else K' (a.put o.dst undef) w) :
    anyBut P md ops Q S last (fuel + 1) listed a w := by
  refine ⟨fun h0 => (by rw [hr] at h0; cases h0), fun j hj => ?_⟩
  rw [hr] at hj
  have : j = i := by simpa using hj
  subst this
  exact wpOp_step ho (fun K' hK => h K' (fun a w hS hW => hK a w ⟨hS, hW⟩))
theorem but_done {listed : Array Bool} {a : Act} {w : World} (hr : Region.ready md ops listed = []) (h : Q .normal a w) : ∀ fuel, anyBut P md ops Q S last fuel listed a w
  | 0 => ⟨hr, h⟩
  | _ + 1 => ⟨fun _ => h, by rw [hr]; simp⟩
theorem but_start {id : Nat} {a : Act} {w : World} (last : Nat) (S : World → Prop) (hm : P.follows .mixedOrders = true)
    (h : anyBut P .any ops Q S last ops.size (Array.replicate ops.size false) a w.drew) : (Code.region id ops true).wp P Q a w :=
  wp_region_any hm (any_of_but _ _ _ _ h)
/-- The same, the list of what is done written out. -/
theorem but_startN {id : Nat} {a : Act} {w : World} (last n : Nat) (bs : Array Bool) (S : World → Prop) (hm : P.follows .mixedOrders = true) (hn : ops.size = n) (hb : Array.replicate n false = bs)
    (h : anyBut P .any ops Q S last n bs a w.drew) : (Code.region id ops true).wp P Q a w :=
  but_start last S hm (by rw [hn, hb]; exact h)
end

end Go.Proofs.YtcnkfkjgpdmebaaGreatDoor

/- Substitutions that are made: contracts of New and Set. -/
namespace Go.Proofs.YtcnkfkjgpdmebaaGreatDoor
open Go.RowKit

/-- A substitution of the call's own: its box p, its row in v. -/
structure SubOwn (w : World) (B p : Nat) (v : Value) (s : List Pr) : Prop where
  blk : w.heap[p]? = some (.cells #[v] 194 (0, 0))
  hB : B ≤ p
  own : w.ownsRow B 196 4 v s.length (s.flatMap prC.f)
  ne : v.ownBlock ≠ some p
  tys : ∀ x ∈ s, TyIn w x.ty ∧ awayB p x.ty = true ∧ ∀ c, v.ownBlock = some c → awayB c x.ty = true
  few : s.length ≤ 100000
  rise : RiseP s
/-- What it becomes: nothing else turns. -/
structure Ap2 (p : Nat) (w : World) (v : Value) (w' : World) (v' : Value) : Prop where
  os : w'.os = w.os
  tape : w'.tape = w.tape
  output : w'.output = w.output
  size : w.heap.size ≤ w'.heap.size
  block : ∀ j, j < w.heap.size → j ≠ p → v.ownBlock ≠ some j → w'.heap[j]? = w.heap[j]?
  own : v'.ownBlock = v.ownBlock ∨ ∀ k, v'.ownBlock = some k → w.heap.size ≤ k
section
variable {a b c w w' : World} {u v x : Value} {B p : Nat} {s : List Pr}
theorem Ap2.refl (p : Nat) (a : World) (u : Value) : Ap2 p a u a u := ⟨rfl, rfl, rfl, Nat.le_refl _, fun _ _ _ _ => rfl, .inl rfl⟩
theorem Ap2.of_ext (p : Nat) (e : Ext a b) (u : Value) : Ap2 p a u b u := by
  have h := e.below
  exact ⟨h.os, h.tape, h.output, e.size, fun j hj _ _ => e.heap hj, .inl rfl⟩
theorem Ap2.of_ap (p : Nat) (h : Ap a u b v) : Ap2 p a u b v := ⟨h.grown.os, h.grown.tape, h.grown.output, h.grown.size, fun j hj _ hn => h.grown.block j hj (fun e => hn e.symm), h.own⟩
theorem Ap2.trans (h : Ap2 p a u b v) (k : Ap2 p b v c x) : Ap2 p a u c x := by
  refine ⟨k.os.trans h.os, k.tape.trans h.tape, k.output.trans h.output, Nat.le_trans h.size k.size, fun j hj hp hn => ?_, ?_⟩
  · refine (k.block j (Nat.lt_of_lt_of_le hj h.size) hp (fun e => ?_)).trans (h.block j hj hp hn)
    rcases h.own with h2 | h2
    · rw [h2] at e; exact hn e
    · have := h2 j e; omega
  · rcases k.own with h2 | h2
    · rw [h2]; exact h.own
    · exact .inr (fun j hj => Nat.le_trans h.size (h2 j hj))
theorem Ap2.below (h : Ap2 p a u b v) (hB : B ≤ a.heap.size) (hp : B ≤ p) (hu : ∀ k, u.ownBlock = some k → B ≤ k) : Below B a b :=
  ⟨h.os, h.tape, h.output, h.size, fun j hj => h.block j (by omega) (by omega) (fun e => by have := hu j e; omega)⟩
theorem SubOwn.lt (h : SubOwn w B p v s) : p < w.heap.size := lt_of_obj h.blk
theorem SubOwn.ge (h : SubOwn w B p v s) : ∀ k, v.ownBlock = some k → B ≤ k := fun k hk => (h.own.lt k hk).1
theorem SubOwn.sub (h : SubOwn w B p v s) : ∃ A cap, v = .slice A s.length cap ∧ SubIn w p A cap s := by
  obtain ⟨A, cap, rfl, h1, h2, h3, -⟩ := RowOf.own prC h.own
  exact ⟨A, cap, rfl, h.blk, h1, h2, ⟨h3, fun x hx => (h.tys x hx).1⟩, h.few, h.rise⟩
theorem SubOwn.ext (h : SubOwn w B p v s) (e : Ext w w') : SubOwn w' B p v s :=
  ⟨(e.heap h.lt).trans h.blk, h.hB, own_extB h.own e, h.ne, fun x hx => ⟨(h.tys x hx).1.ext e, (h.tys x hx).2⟩, h.few, h.rise⟩
/-- Another block has been written. -/
theorem SubOwn.grown (h : SubOwn w B p v s) {row : Nat} (hg : w.grownBy w' (some row)) (hp : p ≠ row) (hv : v.ownBlock ≠ some row) (ha : ∀ x ∈ s, awayB row x.ty = true) : SubOwn w' B p v s :=
  ⟨(hg.block p h.lt (fun e => hp (by injection e))).trans h.blk, h.hB, h.own.kept hg (.inr hv), h.ne, fun x hx => ⟨(h.tys x hx).1.grown hg (fun c e => by injection e with e; subst e; exact ha x hx), (h.tys x hx).2⟩, h.few, h.rise⟩
end

set_option maxRecDepth 10000 in
set_option maxHeartbeats 1000000 in
theorem s_new (w : World) : Calls Tryz.prog 81 #[.slice none 0 0] w fun e w' => e = .returned (.pointer (some ⟨w.heap.size, 0, none⟩)) ∧ SubOwn w' w.heap.size w.heap.size (.slice none 0 0) [] ∧ Ext w w' := by
  obtain ⟨W, hW⟩ : ∃ W, W = w.alloc (.cells #[.slice none 0 0] 194) := ⟨_, rfl⟩
  have X0 : Hid (Ext w W) := hide (by rw [hW]; exact (Ext.refl _).alloc _)
  have B1 : Hid (W.heap[w.heap.size]? = some (.cells #[.slice none 0 0] 194 (0, 0))) := hide (by rw [hW]; exact at_newB _ _ _ rfl)
  have HW := hide hW.symm
  clear hW
  go_enter Tryz.func81, Tryz.ntmps81
  go_upto_region 2 with fail
  rw [HW.out]
  go_wp2
  go_loopw [10] (fun i wr => i = .int .i64 0 ∧ wr = W) (fun _ _ => 0)
  case atStart => exact ⟨rfl, rfl⟩
  case round =>
    obtain ⟨rfl, rfl⟩ := hrel
    go_wp2
    go_ret
    exact ⟨rfl, ⟨B1.out, Nat.le_refl _, World.ownsRow_nil _ _ _ _, (fun h => by cases h), (fun x hx => by cases hx), Nat.zero_le _, List.Pairwise.nil⟩, X0.out⟩

set_option maxRecDepth 10000 in
set_option maxHeartbeats 4000000 in
theorem s_set (B p : Nat) (v : Value) (s : List Pr) (x : Int) (t : Ty) (w : World) (h : SubOwn w B p v s) (ht : TyIn w t) (hsz : t.size ≤ 100000) (hl : legalT t = true) (hf : s.length < 100000) (hno : ∀ i, LbP s x i → hasAt s x i = false) :
    Calls Tryz.prog 132 #[.pointer (some ⟨p, 0, none⟩), .int .i64 x, tyV t] w fun e w' => e = .returned (.int .i64 0) ∧ ∃ i v' t', LbP s x i ∧ t'.pure = t.pure ∧ SubOwn w' B p v' (insP s i x t') ∧ Ap2 p w v w' v' ∧ ∀ c, c < w.heap.size → awayB c t' = true := by
  obtain ⟨W, hW⟩ : ∃ W, W = w.alloc (.cells #[encStr t.con, .int .i64 t.var, .slice t.A t.args.length t.cap] 53) := ⟨_, rfl⟩
  have X0 : Hid (Ext w W) := hide (by rw [hW]; exact (Ext.refl _).alloc _)
  have B1 : Hid (TBox W w.heap.size t) := hide (by rw [hW]; exact TBox.new w t)
  have HW := hide hW.symm
  clear hW
  have HL := hide (t_legal t W (ht.ext X0.out) (by omega))
  rw [hl] at HL
  obtain ⟨A, cap, hv, hsub⟩ := h.sub
  have HF := hide (fun w' (e : Ext W w') => hide (s_find p A cap s x w' (hsub.ext (X0.out.trans e))))
  have HC := hide (fun w' (e : Ext W w') => hide (s_copied t w' (ht.ext (X0.out.trans e)) hsz))
  have hBs : B ≤ w.heap.size := by have := h.lt; have := h.hB; omega
  have HI := hide (fun (w' : World) (hB : B ≤ w'.heap.size) (i vb : Nat) (y : Pr) (hO : w'.ownsRow B 196 4 v s.length (s.flatMap prC.f)) (hi : i ≤ s.length) (hx : w'.heap[vb]? = some (.cells (prC.f y).toArray 196 (0, 0))) (hne : v.ownBlock ≠ some vb) => s_insert B v s i vb y w' hO hi hx hne hB (by omega))
  have Hno := hide hno
  have H := hide h
  have Hv := hide hv
  have hpl := h.lt
  have HS := hide (fun w' (e : Ext W w') => And.intro (hsub.ext (X0.out.trans e)).cell (And.intro (B1.out.ext e).c0 (And.intro (B1.out.ext e).c1 (B1.out.ext e).c2)))
  have hWl := B1.out.lt
  clear h ht hl hsub hno
  subst hv
  unfold tyV at *
  obtain ⟨c0, c1, c2, c3⟩ := HS.out W (Ext.refl _)
  go_enter Tryz.func132, Tryz.ntmps132
  go_upto_region 1 with fail
  rw [HW.out]
  go_wp2_with fail
  refine HL.out.mono ?_
  rintro e w2 ⟨rfl, hx2⟩
  have X2 := hide hx2
  clear hx2 HL c0 c1 c2 c3
  go_wp2_with fail
  refine (HF.out _ X2.out).out.mono ?_
  rintro e w3 ⟨⟨i, rfl, hi⟩, hx3⟩
  have X3 := hide (X2.out.trans hx3)
  have hh := Hno.out i hi
  have Hi := hide hi
  have Hh := hide hh
  have hil := hi.le
  rw [hh]
  clear hx3 HF hi hh Hno X2
  go_wp2
  have hS0 := HS.out _ X3.out.drew
  refine but_startN 14 15 #[false, false, false, false, false, false, false, false, false, false, false, false, false, false, false] (fun w' => w'.cell? ⟨p, 0, none⟩ = some (.slice A s.length cap) ∧ w'.cell? ⟨w.heap.size, 0, none⟩ = some (encStr t.con) ∧ w'.cell? ⟨w.heap.size, 1, none⟩ = some (.int .i64 t.var) ∧ w'.cell? ⟨w.heap.size, 2, none⟩ = some (.slice t.A t.args.length t.cap)) (by kernel_rfl) (by kernel_rfl) (by kernel_rfl) ?_
  (refine but_takeL (i := 0) (v := ?_) rfl (by kernel_rfl) (by kernel_rfl) (by kernel_rfl) (by kernel_rfl) (fun _ _ _ h => h) (Or.inl ⟨by kernel_rfl, ?_⟩) (by assumption) ?_; rotate_left 1; (focus (intro w hSw; (try dsimp only at hSw); (try obtain ⟨g1, g2, g3⟩ := hSw); (try obtain ⟨g1, g2⟩ := hSw); go_simp; try with_reducible rfl)); simp only [Act.put, List.setIfInBounds_toArray, List.set_cons_zero, List.set_cons_succ])
  (refine but_takeL (i := 1) (v := ?_) rfl (by kernel_rfl) (by kernel_rfl) (by kernel_rfl) (by kernel_rfl) (fun _ _ _ h => h) (Or.inl ⟨by kernel_rfl, ?_⟩) (by assumption) ?_; rotate_left 1; (focus (intro w hSw; (try dsimp only at hSw); (try obtain ⟨g1, g2, g3⟩ := hSw); (try obtain ⟨g1, g2⟩ := hSw); go_simp; try with_reducible rfl)); simp only [Act.put, List.setIfInBounds_toArray, List.set_cons_zero, List.set_cons_succ])
  (refine but_takeL (i := 2) (v := ?_) rfl (by kernel_rfl) (by kernel_rfl) (by kernel_rfl) (by kernel_rfl) (fun _ _ _ h => h) (Or.inl ⟨by kernel_rfl, ?_⟩) (by assumption) ?_; rotate_left 1; (focus (intro w hSw; (try dsimp only at hSw); (try obtain ⟨g1, g2, g3⟩ := hSw); (try obtain ⟨g1, g2⟩ := hSw); go_simp; try with_reducible rfl)); simp only [Act.put, List.setIfInBounds_toArray, List.set_cons_zero, List.set_cons_succ])
  (refine but_takeL (i := 3) (v := ?_) rfl (by kernel_rfl) (by kernel_rfl) (by kernel_rfl) (by kernel_rfl) (fun _ _ _ h => h) (Or.inl ⟨by kernel_rfl, ?_⟩) (by assumption) ?_; rotate_left 1; (focus (intro w hSw; (try dsimp only at hSw); (try obtain ⟨g1, g2, g3⟩ := hSw); (try obtain ⟨g1, g2⟩ := hSw); go_simp; try with_reducible rfl)); simp only [Act.put, List.setIfInBounds_toArray, List.set_cons_zero, List.set_cons_succ])
  (refine but_takeL (i := 4) (v := ?_) rfl (by kernel_rfl) (by kernel_rfl) (by kernel_rfl) (by kernel_rfl) (fun _ _ _ h => h) (Or.inl ⟨by kernel_rfl, ?_⟩) (by assumption) ?_; rotate_left 1; (focus (intro w hSw; (try dsimp only at hSw); (try obtain ⟨g1, g2, g3⟩ := hSw); (try obtain ⟨g1, g2⟩ := hSw); go_simp; try with_reducible rfl)); simp only [Act.put, List.setIfInBounds_toArray, List.set_cons_zero, List.set_cons_succ])
  (refine but_takeL (i := 5) (v := ?_) rfl (by kernel_rfl) (by kernel_rfl) (by kernel_rfl) (by kernel_rfl) (fun _ _ _ h => h) (Or.inl ⟨by kernel_rfl, ?_⟩) (by assumption) ?_; rotate_left 1; (focus (intro w hSw; (try dsimp only at hSw); (try obtain ⟨g1, g2, g3⟩ := hSw); (try obtain ⟨g1, g2⟩ := hSw); go_simp; try with_reducible rfl)); simp only [Act.put, List.setIfInBounds_toArray, List.set_cons_zero, List.set_cons_succ])
  (refine but_takeL (i := 6) (v := ?_) rfl (by kernel_rfl) (by kernel_rfl) (by kernel_rfl) (by kernel_rfl) (fun _ _ _ h => h) (Or.inl ⟨by kernel_rfl, ?_⟩) (by assumption) ?_; rotate_left 1; (focus (intro w hSw; (try dsimp only at hSw); (try obtain ⟨g1, g2, g3⟩ := hSw); (try obtain ⟨g1, g2⟩ := hSw); go_simp; try with_reducible rfl)); simp only [Act.put, List.setIfInBounds_toArray, List.set_cons_zero, List.set_cons_succ])
  (refine but_takeL (i := 7) (v := ?_) rfl (by kernel_rfl) (by kernel_rfl) (by kernel_rfl) (by kernel_rfl) (fun _ _ _ h => h) (Or.inl ⟨by kernel_rfl, ?_⟩) (by assumption) ?_; rotate_left 1; (focus (intro w hSw; (try dsimp only at hSw); (try obtain ⟨g1, g2, g3⟩ := hSw); (try obtain ⟨g1, g2⟩ := hSw); go_simp; try with_reducible rfl)); simp only [Act.put, List.setIfInBounds_toArray, List.set_cons_zero, List.set_cons_succ])
  refine but_step (i := 8) (by kernel_rfl) rfl (fun KK hK => ?_)
  go_simp
  refine Calls.mono (HC.out _ X3.out.drew).out ?_
  rintro e w4 ⟨⟨t', rfl, ht'⟩, hx4⟩
  have X4 := hide (X3.out.drew.trans hx4)
  have hS4 := HS.out _ X4.out
  have Ht := hide ht'
  refine hK.out _ _ (fun _ => hS4) ?_
  clear hK KK hS0 hx4 ht'
  simp only [List.setIfInBounds_toArray, List.set_cons_zero, List.set_cons_succ]
  (refine but_takeL (i := 9) (v := ?_) rfl (by kernel_rfl) (by kernel_rfl) (by kernel_rfl) (by kernel_rfl) (fun _ _ _ h => h) (Or.inl ⟨by kernel_rfl, ?_⟩) (by assumption) ?_; rotate_left 1; (focus (intro w hSw; (try dsimp only at hSw); (try obtain ⟨g1, g2, g3⟩ := hSw); (try obtain ⟨g1, g2⟩ := hSw); go_simp; try with_reducible rfl)); simp only [Act.put, List.setIfInBounds_toArray, List.set_cons_zero, List.set_cons_succ])
  refine but_step (i := 10) (by kernel_rfl) rfl (fun KK hK => ?_)
  go_simp
  obtain ⟨W5, hW5⟩ : ∃ W5, W5 = w4.alloc (.cells #[.int .i64 x, .string ⟨t'.con.toArray⟩, .int .i64 t'.var, .slice t'.A t'.args.length t'.cap] 196) := ⟨_, rfl⟩
  rw [← hW5]
  have X5 : Hid (Ext W W5) := hide (by rw [hW5]; exact X4.out.alloc _)
  have X45 : Hid (Ext w4 W5) := hide (by rw [hW5]; exact (Ext.refl _).alloc _)
  have hx5 : W5.heap[w4.heap.size]? = some (.cells (prC.f ⟨x, t'⟩).toArray 196 (0, 0)) := by rw [hW5]; exact at_newB _ _ _ rfl
  have hS5 := HS.out _ X5.out
  refine hK.out _ _ (fun _ => hS5) ?_
  clear hK KK hS4 hW5
  simp only [List.setIfInBounds_toArray, List.set_cons_zero, List.set_cons_succ]
  have hs4 := X4.out.size
  have hs0 := X0.out.size
  have hs5 := X5.out.size
  have hne5 : (Value.slice A s.length cap).ownBlock ≠ some w4.heap.size := fun e => by have := (H.out.own.lt _ e).2; omega
  have HIn := hide (HI.out W5 (by omega) i w4.heap.size ⟨x, t'⟩ (own_extB H.out.own (X0.out.trans X5.out)) hil hx5 hne5)
  clear hx5 hne5
  refine but_step (i := 11) (by kernel_rfl) rfl (fun KK hK => ?_)
  go_simp
  refine Calls.mono HIn.out ?_
  rintro e w6 ⟨v', rfl, hO6, hA6⟩
  have HA6 := hide hA6
  have hpb : some p ≠ (Value.slice A s.length cap).ownBlock := fun e => H.out.ne e.symm
  have hbb : some w.heap.size ≠ (Value.slice A s.length cap).ownBlock := fun e => by have := (H.out.own.lt _ e.symm).2; omega
  have hp6 : w6.heap[p]? = some (.cells #[.slice A s.length cap] 194 (0, 0)) := (hA6.grown.block p (by omega) hpb).trans (((X0.out.trans X5.out).heap hpl).trans H.out.blk)
  have hS6 : w6.cell? ⟨p, 0, none⟩ = some (.slice A s.length cap) ∧ w6.cell? ⟨w.heap.size, 0, none⟩ = some (encStr t.con) ∧ w6.cell? ⟨w.heap.size, 1, none⟩ = some (.int .i64 t.var) ∧ w6.cell? ⟨w.heap.size, 2, none⟩ = some (.slice t.A t.args.length t.cap) := by
    have e0 := hA6.grown.block w.heap.size (by omega) hbb
    exact ⟨by simp [World.cell?, hp6], (World.cell?_of_block e0).trans hS5.2.1, (World.cell?_of_block e0).trans hS5.2.2.1, (World.cell?_of_block e0).trans hS5.2.2.2⟩
  refine hK.out _ _ (fun _ => hS6) ?_
  clear hK KK hA6
  simp only [List.setIfInBounds_toArray, List.set_cons_zero, List.set_cons_succ]
  have hO6' : w6.ownsRow B 196 4 v' (insP s i x t').length ((insP s i x t').flatMap prC.f) := by rw [insP_len hil]; exact hO6
  have HO6 := hide hO6'
  obtain ⟨A6, c6, hv6, -, -, -, -⟩ := RowOf.own prC hO6'
  subst hv6
  have HP6 := hide hp6
  have c0 := hS6.1
  have f0 := free_block hp6 0
  have hpl6 := lt_of_obj hp6
  obtain ⟨W7, hW7⟩ : ∃ W7, W7 = w6.setCell ⟨p, 0, none⟩ (.slice A6 (insP s i x t').length c6) := ⟨_, rfl⟩
  have HOwn : Hid (SubOwn W7 B p (.slice A6 (insP s i x t').length c6) (insP s i x t')) := hide (by
    have hg7 : w6.grownBy W7 (some p) := by rw [hW7]; exact grown_cell _ _ _ _
    have hne6 : (Value.slice A6 (insP s i x t').length c6).ownBlock ≠ some p := by
      rcases HA6.out.own with h1 | h1
      · rw [h1]; exact H.out.ne
      · intro e; have := h1 p e; omega
    have hty : ∀ y ∈ insP s i x t', TyIn W5 y.ty ∧ awayB p y.ty = true ∧ ∀ c, (Value.slice A s.length cap).ownBlock = some c → awayB c y.ty = true := by
      intro y hy
      rcases insP_mem.1 hy with rfl | hy
      · exact ⟨Ht.out.ty.ext X45.out, Ht.out.away p (by have := X3.out.size; show p < w3.heap.size; omega), fun c hc => Ht.out.away c (by have := X3.out.size; have := (H.out.own.lt _ hc).2; show c < w3.heap.size; omega)⟩
      · obtain ⟨h1, h2, h3⟩ := H.out.tys y hy
        exact ⟨h1.ext (X0.out.trans X5.out), h2, h3⟩
    refine ⟨?_, H.out.hB, HO6.out.kept hg7 (.inr hne6), hne6, fun y hy => ?_, by rw [insP_len hil]; omega, insP_rise H.out.rise Hi.out (Hh.out)⟩
    · rw [hW7]; exact blk_setCell HP6.out 0 _
    · obtain ⟨h1, h2, h3⟩ := hty y hy
      refine ⟨(h1.grown HA6.out.grown h3).grown hg7 (fun c e => by injection e with e; subst e; exact h2), h2, fun c hc => ?_⟩
      rcases HA6.out.own with h4 | h4
      · exact h3 c (h4 ▸ hc)
      · exact away_new h1 (h4 c hc))
  have HAp : Hid (Ap2 p w (.slice A s.length cap) W7 (.slice A6 (insP s i x t').length c6)) := hide (by
    refine ((Ap2.of_ext p (X0.out.trans X5.out) _).trans (Ap2.of_ap p HA6.out)).trans ?_
    rw [hW7]
    exact ⟨rfl, rfl, rfl, by simp [World.setCell], fun j hj hp _ => Below.heap_setCell w6 ⟨p, 0, none⟩ _ j hp, .inl rfl⟩)
  clear hO6 hO6' hp6
  generalize (insP s i x t').length = M at *
  refine but_step (i := 12) (by kernel_rfl) rfl (fun KK hK => ?_)
  go_simp
  refine hK.out _ _ (fun _ => hS6) ?_
  clear hK KK
  simp only [List.setIfInBounds_toArray, List.set_cons_zero, List.set_cons_succ]
  refine but_step (i := 13) (by kernel_rfl) rfl (fun KK hK => ?_)
  go_simp
  refine hK.out _ _ (fun _ => hS6) ?_
  clear hK KK
  simp only [List.setIfInBounds_toArray, List.set_cons_zero, List.set_cons_succ]
  refine but_step (i := 14) (by kernel_rfl) rfl (fun KK hK => ?_)
  go_simp
  rw [← hW7]
  refine hK.out _ _ (fun h => absurd rfl h) ?_
  clear hK KK
  try simp only [Act.put]
  refine but_done (by kernel_rfl) ?_ _
  go_wp2
  go_ret
  exact ⟨rfl, i, _, t', Hi.out, Ht.out.is, HOwn.out, HAp.out, fun c hc => Ht.out.away c (by have := X3.out.size; show c < w3.heap.size; omega)⟩

end Go.Proofs.YtcnkfkjgpdmebaaGreatDoor
