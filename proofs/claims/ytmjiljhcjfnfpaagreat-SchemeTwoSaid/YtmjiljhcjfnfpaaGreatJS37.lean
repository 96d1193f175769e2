/- Contract of the reference of chapter 21: are two types alike, but for the names of own variables? (A program of ours has printed this.) -/
import Derived.Test.YtmjiljhcjfnfpaaGreatJS36
import Derived.Deep.RegionHeld3
import Derived.BigQuiet
/- Contract of the reference of chapter 21: are two types alike, but for the names of own variables? (A program of ours has printed this.) -/
namespace Go.Proofs.YtmjiljhcjfnfpaaGreat
open Go.RowKit

def rowP (s : List Pr) : List (Int × Int) := s.map fun p => (p.v, p.ty.var)
/-- Which is which, in memory. -/
def PrA (w : World) (A : Option Addr) (l c : Nat) (row : List (Int × Int)) (N : Nat) : Prop := ∃ s : List Pr, l = s.length ∧ PrsIn w A s ∧ s.length ≤ c ∧ c ≤ 9223372036854775807 ∧ rowP s = row ∧ s.length ≤ N
theorem PrA.ext {w w' : World} {A : Option Addr} {l c N : Nat} {row : List (Int × Int)} (h : PrA w A l c row N) (e : Ext w w') : PrA w' A l c row N := by
  obtain ⟨s, h1, h2, h3⟩ := h
  exact ⟨s, h1, h2.ext e, h3⟩
theorem PrA.mono {w : World} {A : Option Addr} {l c N K : Nat} {row : List (Int × Int)} (h : PrA w A l c row N) (hk : N ≤ K) : PrA w A l c row K := by
  obtain ⟨s, h1, h2, h3, h4, h5, h6⟩ := h
  exact ⟨s, h1, h2, h3, h4, h5, by omega⟩
theorem PrA.none (w : World) : PrA w Option.none 0 0 [] 0 :=
  ⟨[], rfl, ⟨RowOf.nil prC _ _, fun p hp => by cases hp⟩, Nat.le_refl _, by omega, rfl, Nat.le_refl _⟩
structure AlkR (w' : World) (O : Option (List (Int × Int))) (N : Nat) (A : Option Addr) (l c : Nat) (ok : Bool) : Prop where
  no : O = none → ok = false
  yes : ∀ r, O = some r → ok = true ∧ PrA w' A l c r N
theorem AlkR.bad {w' : World} {N : Nat} {A : Option Addr} {l c : Nat} : AlkR w' none N A l c false := ⟨fun _ => rfl, fun r h => (by cases h)⟩
def AlkCo (n : Int) (t : Ty) : Prop := ∀ (u : Ty) (A : Option Addr) (l c N : Nat) (row : List (Int × Int)) (w : World), TyIn w t → TyIn w u → PrA w A l c row N → N + t.size ≤ 100000 →
  Calls Tryz.prog 26 #[tyV t, tyV u, .int .i64 n, .slice A l c] w fun e w' => (∃ A' l' c' ok, e = .returned (.tuple #[.slice A' l' c', .bool ok]) ∧ AlkR w' (alkT n t u row) (N + t.size) A' l' c' ok) ∧ Ext w w'
theorem find_at {s : List Pr} {x y : Int} {k : Nat} (hk : k < s.length) (hl : ∀ j (h : j < s.length), j < k → ((s[j]'h).v == x || (s[j]'h).ty.var == y) = false) (h : ((s[k]'hk).v == x || (s[k]'hk).ty.var == y) = true) : (rowP s).find? (fun p => p.1 == x || p.2 == y) = some ((s[k]'hk).v, (s[k]'hk).ty.var) := by
  rw [List.find?_eq_some_iff_getElem]
  refine ⟨h, k, by unfold rowP; simpa using hk, by unfold rowP; simp, fun j hj => ?_⟩
  have := hl j (by omega) hj
  unfold rowP
  simpa using this
theorem find_no {s : List Pr} {x y : Int} (hl : ∀ j (h : j < s.length), ((s[j]'h).v == x || (s[j]'h).ty.var == y) = false) : (rowP s).find? (fun p => p.1 == x || p.2 == y) = none := by
  rw [List.find?_eq_none]
  intro p hp
  unfold rowP at hp
  obtain ⟨q, hq, rfl⟩ := List.mem_map.1 hp
  obtain ⟨j, hj, rfl⟩ := List.mem_iff_getElem.1 hq
  rw [hl j hj]
  simp

/-- Two variables of which one is no own one. -/
theorem alk_free {w' : World} {n x y : Int} {row : List (Int × Int)} {A : Option Addr} {l c N : Nat} (h : ownB n x = false ∨ ownB n y = false) (hp : PrA w' A l c row N) : AlkR w' (alk1 n row x y) N A l c (x == y && !ownB n x) := by
  unfold alk1
  rw [if_pos h]
  by_cases e : x = y ∧ ownB n x = false
  · rw [if_pos e]
    refine ⟨fun h => (by cases h), fun r hr => ?_⟩
    injection hr with hr
    subst hr
    exact ⟨by rw [e.2, e.1]; simp, hp⟩
  · rw [if_neg e]
    refine ⟨fun _ => ?_, fun r hr => by cases hr⟩
    rw [← Bool.not_eq_true]
    intro h2
    rw [Bool.and_eq_true] at h2
    exact e ⟨by simpa using h2.1, by simpa using h2.2⟩
theorem alk_own {n x y : Int} {s : List Pr} (h1 : ownB n x = true) (h2 : ownB n y = true) : alk1 n (rowP s) x y = match (rowP s).find? (fun p => p.1 == x || p.2 == y) with
    | some p => if p.1 = x ∧ p.2 = y then some (rowP s) else none
    | none => some (rowP s ++ [(x, y)]) := by
  unfold alk1
  rw [if_neg (by rw [h1, h2]; simp)]
  generalize List.find? _ (rowP s) = F
  cases F <;> rfl
theorem alk_hit {w' : World} {n x y : Int} {s : List Pr} {A : Option Addr} {c N : Nat} {k : Nat} (h1 : ownB n x = true) (h2 : ownB n y = true) (hk : k < s.length) (hl : ∀ j (h : j < s.length), j < k → ((s[j]'h).v == x || (s[j]'h).ty.var == y) = false) (h : ((s[k]'hk).v == x || (s[k]'hk).ty.var == y) = true) (hp : PrA w' A s.length c (rowP s) N) :
    AlkR w' (alk1 n (rowP s) x y) N A s.length c ((s[k]'hk).v == x && (s[k]'hk).ty.var == y) := by
  rw [alk_own h1 h2, find_at hk hl h]
  by_cases e : (s[k]'hk).v = x ∧ (s[k]'hk).ty.var = y
  · have e2 : (((s[k]'hk).v == x) && ((s[k]'hk).ty.var == y)) = true := by rw [Bool.and_eq_true, beq_iff_eq, beq_iff_eq]; exact e
    rw [e2]
    refine ⟨fun h => ?_, fun r hr => ?_⟩
    · have := (if_pos e).symm.trans h; cases this
    · have := (if_pos e).symm.trans hr
      injection this with this
      subst this
      exact ⟨rfl, hp⟩
  · have e2 : (((s[k]'hk).v == x) && ((s[k]'hk).ty.var == y)) = false := by rw [← Bool.not_eq_true, Bool.and_eq_true, beq_iff_eq, beq_iff_eq]; exact e
    rw [e2]
    refine ⟨fun _ => rfl, fun r hr => ?_⟩
    have := (if_neg e).symm.trans hr
    cases this
theorem alk_new {w' : World} {n x : Int} {u : Ty} {s : List Pr} {A : Option Addr} {c N : Nat} (h1 : ownB n x = true) (h2 : ownB n u.var = true) (hl : ∀ j (h : j < s.length), ((s[j]'h).v == x || (s[j]'h).ty.var == u.var) = false) (hp : PrsIn w' A (s ++ [Pr.mk x u])) (hc : (s ++ [Pr.mk x u]).length ≤ c) (hm : c ≤ 9223372036854775807) (hN : (s ++ [Pr.mk x u]).length ≤ N) :
    AlkR w' (alk1 n (rowP s) x u.var) N A (s ++ [Pr.mk x u]).length c true := by
  rw [alk_own h1 h2, find_no hl]
  refine ⟨fun h => (by cases h), fun r hr => ?_⟩
  injection hr with hr
  subst hr
  exact ⟨rfl, _, rfl, hp, hc, hm, by unfold rowP; simp, hN⟩

set_option maxRecDepth 10000 in
set_option maxHeartbeats 8000000 in
theorem alk_var (n : Int) (t : Ty) (hc : t.con = []) : AlkCo n t := by
  intro u A l c N row w ht hu hm hn
  obtain ⟨s, rfl, hS, hle, hmx, rfl, hN⟩ := hm
  obtain ⟨W, hW⟩ : ∃ W, W = (w.alloc (.cells #[encStr t.con, .int .i64 t.var, .slice t.A t.args.length t.cap] 25)).alloc (.cells #[encStr u.con, .int .i64 u.var, .slice u.A u.args.length u.cap] 25) := ⟨_, rfl⟩
  have HW := hide hW.symm
  have X0 : Hid (Ext w W) := hide (by rw [hW]; exact ((Ext.refl _).alloc _).alloc _)
  have B1 : Hid (TBox W w.heap.size t) := hide (by rw [hW]; exact (TBox.new w t).ext ((Ext.refl _).alloc _))
  have B2 : Hid (TBox W (w.heap.size + 1) u) := hide (by rw [hW]; exact at_newB _ _ _ (by simp))
  have hWs : W.heap.size = w.heap.size + 2 := by rw [hW]; simp
  have HO := hide (alkT_eq n t u (rowP s))
  have hps : 1 ≤ t.size := by rw [Ty.size_eq]; omega
  obtain ⟨O, hO⟩ : ∃ O, O = alkT n t u (rowP s) := ⟨_, rfl⟩
  rw [← hO] at HO ⊢
  have hcB : (t.con == ([] : Str)) = true := by simpa using hc
  have HS := hide hS
  have Hu := hide hu
  have HPA : Hid (∀ w', Ext w w' → PrA w' A s.length c (rowP s) (N + t.size)) := hide (fun w' e => ⟨s, rfl, hS.ext e, hle, hmx, rfl, by omega⟩)
  have hlt' := ht.le
  have hmt := ht.max
  have hlu := hu.le
  have hmu := hu.max
  have c0 := B1.out.c0
  have c1 := B1.out.c1
  have c2 := B1.out.c2
  have d0 := B2.out.c0
  have d1 := B2.out.c1
  have d2 := B2.out.c2
  have l1 := B1.out.lt
  have l2 := B2.out.lt
  clear hW ht hu hO hS
  unfold tyV at *
  by_cases hcon : t.con = u.con
  case neg =>
    have hF : O = none := by rw [HO.out, if_neg (fun h => hcon h.1)]
    have g1 : (t.con != u.con) = true := by simpa using hcon
    have g2 : (t.con == u.con) = false := by simpa using hcon
    clear HO hcon hc
    subst hF
    go_enter Tryz.func26, Tryz.ntmps26
    go_upto_region 1 with fail
    rw [HW.out]
    clear HW
    go_wp2
    go_ret2
    first | exact ⟨⟨_, _, _, _, rfl, AlkR.bad⟩, X0.out⟩ | exact ⟨⟨_, _, _, .inl ⟨rfl, AlkR.bad⟩⟩, X0.out⟩ | exact ⟨⟨_, _, _, .inr ⟨rfl, AlkR.bad⟩⟩, X0.out⟩
  have g1 : (t.con != u.con) = false := by simpa using hcon
  have g2 : (t.con == u.con) = true := by simpa using hcon
  by_cases hlen : t.args.length = u.args.length
  case neg =>
    have hF : O = none := by rw [HO.out, if_neg (fun h => hlen h.2)]
    have g3 : ((t.args.length : Int) != (u.args.length : Int)) = true := by simp; omega
    have g4 : (t.args.length != u.args.length) = true := by simpa using hlen
    have g5 : (t.args.length == u.args.length) = false := by simpa using hlen
    clear HO hlen hcon hc
    subst hF
    go_enter Tryz.func26, Tryz.ntmps26
    go_upto_region 1 with fail
    rw [HW.out]
    clear HW
    go_wp2
    go_ret2
    first | exact ⟨⟨_, _, _, _, rfl, AlkR.bad⟩, X0.out⟩ | exact ⟨⟨_, _, _, .inl ⟨rfl, AlkR.bad⟩⟩, X0.out⟩ | exact ⟨⟨_, _, _, .inr ⟨rfl, AlkR.bad⟩⟩, X0.out⟩
  rw [if_pos ⟨hcon, hlen⟩, if_pos hc] at HO
  have g3 : ((t.args.length : Int) != (u.args.length : Int)) = false := by rw [hlen]; simp
  have g4 : (t.args.length != u.args.length) = false := by simpa using hlen
  have g5 : (t.args.length == u.args.length) = true := by simpa using hlen
  clear hlen hcon hc
  have HFr : Hid (ownB n t.var = false ∨ ownB n u.var = false → AlkR W O (N + t.size) A s.length c (t.var == u.var && !ownB n t.var)) := hide (fun h => by rw [HO.out]; exact alk_free h (HPA.out W X0.out))
  have HFrX := HFr
  by_cases hx0 : 0 ≤ t.var
  case neg =>
    have ho : ownB n t.var = false := by rw [← Bool.not_eq_true, ownB_iff]; omega
    have b1 : decide (t.var ≥ 0) = false := decide_eq_false hx0
    have b2 : decide (0 ≤ t.var) = false := decide_eq_false hx0
    have HF := hide (HFr.out (by exact .inl ho))
    rw [ho] at HF
    go_enter Tryz.func26, Tryz.ntmps26
    go_upto_region 1 with fail
    rw [HW.out]
    clear HW
    cases hxy : (t.var == u.var)
    · have hxy2 : ¬ t.var = u.var := by simpa using hxy
      rw [hxy] at HF
      go_wp2
      go_ret2
      first | exact ⟨⟨_, _, _, _, rfl, HF.out⟩, X0.out⟩ | exact ⟨⟨_, _, _, .inl ⟨rfl, HF.out⟩⟩, X0.out⟩ | exact ⟨⟨_, _, _, .inr ⟨rfl, HF.out⟩⟩, X0.out⟩
    · have hxy2 : t.var = u.var := by simpa using hxy
      rw [hxy] at HF
      go_wp2
      go_ret2
      first | exact ⟨⟨_, _, _, _, rfl, HF.out⟩, X0.out⟩ | exact ⟨⟨_, _, _, .inl ⟨rfl, HF.out⟩⟩, X0.out⟩ | exact ⟨⟨_, _, _, .inr ⟨rfl, HF.out⟩⟩, X0.out⟩
  have b1 : decide (t.var ≥ 0) = true := decide_eq_true hx0
  have b2 : decide (0 ≤ t.var) = true := decide_eq_true hx0
  by_cases hx1 : t.var < n
  case neg =>
    have ho : ownB n t.var = false := by rw [← Bool.not_eq_true, ownB_iff]; omega
    have b3 : decide (t.var < n) = false := decide_eq_false hx1
    have HF := hide (HFr.out (by exact .inl ho))
    rw [ho] at HF
    go_enter Tryz.func26, Tryz.ntmps26
    go_upto_region 1 with fail
    rw [HW.out]
    clear HW
    cases hxy : (t.var == u.var)
    · have hxy2 : ¬ t.var = u.var := by simpa using hxy
      rw [hxy] at HF
      go_wp2
      go_ret2
      first | exact ⟨⟨_, _, _, _, rfl, HF.out⟩, X0.out⟩ | exact ⟨⟨_, _, _, .inl ⟨rfl, HF.out⟩⟩, X0.out⟩ | exact ⟨⟨_, _, _, .inr ⟨rfl, HF.out⟩⟩, X0.out⟩
    · have hxy2 : t.var = u.var := by simpa using hxy
      rw [hxy] at HF
      go_wp2
      go_ret2
      first | exact ⟨⟨_, _, _, _, rfl, HF.out⟩, X0.out⟩ | exact ⟨⟨_, _, _, .inl ⟨rfl, HF.out⟩⟩, X0.out⟩ | exact ⟨⟨_, _, _, .inr ⟨rfl, HF.out⟩⟩, X0.out⟩
  have b3 : decide (t.var < n) = true := decide_eq_true hx1
  have ho : ownB n t.var = true := by rw [ownB_iff]; omega
  by_cases hy0 : u.var < 0
  case pos =>
    have ho2 : ownB n u.var = false := by rw [← Bool.not_eq_true, ownB_iff]; omega
    have b4 : decide (u.var < 0) = true := decide_eq_true hy0
    have HF := hide (HFr.out (by exact .inr ho2))
    rw [ho] at HF
    go_enter Tryz.func26, Tryz.ntmps26
    go_upto_region 1 with fail
    rw [HW.out]
    clear HW
    cases hxy : (t.var == u.var)
    · have hxy2 : ¬ t.var = u.var := by simpa using hxy
      rw [hxy] at HF
      go_wp2
      go_ret2
      first | exact ⟨⟨_, _, _, _, rfl, HF.out⟩, X0.out⟩ | exact ⟨⟨_, _, _, .inl ⟨rfl, HF.out⟩⟩, X0.out⟩ | exact ⟨⟨_, _, _, .inr ⟨rfl, HF.out⟩⟩, X0.out⟩
    · have hxy2 : t.var = u.var := by simpa using hxy
      exfalso
      omega
  have b4 : decide (u.var < 0) = false := decide_eq_false hy0
  by_cases hy1 : u.var ≥ n
  case pos =>
    have ho2 : ownB n u.var = false := by rw [← Bool.not_eq_true, ownB_iff]; omega
    have b5 : decide (u.var ≥ n) = true := decide_eq_true hy1
    have b6 : decide (n ≤ u.var) = true := decide_eq_true hy1
    have HF := hide (HFr.out (by exact .inr ho2))
    rw [ho] at HF
    go_enter Tryz.func26, Tryz.ntmps26
    go_upto_region 1 with fail
    rw [HW.out]
    clear HW
    cases hxy : (t.var == u.var)
    · have hxy2 : ¬ t.var = u.var := by simpa using hxy
      rw [hxy] at HF
      go_wp2
      go_ret2
      first | exact ⟨⟨_, _, _, _, rfl, HF.out⟩, X0.out⟩ | exact ⟨⟨_, _, _, .inl ⟨rfl, HF.out⟩⟩, X0.out⟩ | exact ⟨⟨_, _, _, .inr ⟨rfl, HF.out⟩⟩, X0.out⟩
    · have hxy2 : t.var = u.var := by simpa using hxy
      exfalso
      omega
  have b5 : decide (u.var ≥ n) = false := decide_eq_false hy1
  have b6 : decide (n ≤ u.var) = false := decide_eq_false hy1
  have ho2 : ownB n u.var = true := by rw [ownB_iff]; omega
  have HOw := hide (And.intro ho ho2)
  have HSt := hide (fun w' (e : Ext W w') => And.intro (B1.out.ext e).c1 (And.intro (B2.out.ext e).c0 (And.intro (B2.out.ext e).c1 (B2.out.ext e).c2)))
  clear HFr HFrX ho ho2
  go_enter Tryz.func26, Tryz.ntmps26
  go_upto_region 1 with fail
  rw [HW.out]
  clear HW
  go_wp2
  clear b1 b2 b3 b4 b5 b6 hx0 hx1 hy0 hy1 c0 c1 c2 d0 d1 d2 l1 l2 g1 g2 g3 g4 g5 hcB
  go_loopw [11] (fun i wr => ∃ k : Nat, k ≤ s.length ∧ i = .int .i64 k ∧ Hid (∀ j (h : j < s.length), j < k → ((s[j]'h).v == t.var || (s[j]'h).ty.var == u.var) = false) ∧ Hid (Ext W wr)) (fun i _ => s.length - (intOf i).toNat)
  case atStart => exact ⟨0, Nat.zero_le _, rfl, hide (fun j _ hj => absurd hj (by omega)), hide (Ext.refl _)⟩
  case round =>
    obtain ⟨k, hk, rfl, HJ, HX⟩ := hrel
    by_cases hlt : k < s.length
    · have hlt1 : (k : Int) < (s.length : Int) := by omega
      have hk0 : (0 : Int) ≤ (k : Int) := by omega
      obtain ⟨b, o, rfl, hb, q0, q1, q2, q3⟩ := prs_at (HS.out.ext (X0.out.trans HX.out)).row hlt
      obtain ⟨c1, d0, d1, d2⟩ := HSt.out _ HX.out
      have l1 := (B1.out.ext HX.out).lt
      have l2 := (B2.out.ext HX.out).lt
      have HHit := hide (fun w' (e : Ext W w') (h : ((s[k]'hlt).v == t.var || (s[k]'hlt).ty.var == u.var) = true) => alk_hit (n := n) HOw.out.1 HOw.out.2 hlt HJ.out h (HPA.out w' (X0.out.trans e)))
      rw [← HO.out] at HHit
      have HJ2 : Hid (((s[k]'hlt).v == t.var || (s[k]'hlt).ty.var == u.var) = false → ∀ j (h : j < s.length), j < k + 1 → ((s[j]'h).v == t.var || (s[j]'h).ty.var == u.var) = false) := hide (fun h0 j hj hjk => by
        by_cases e : j = k
        · subst e; exact h0
        · exact HJ.out j hj (by omega))
      generalize s[k]'hlt = y at *
      clear d0 d2 q1 q3
      go_upto_region 10 with fail
      cases e1 : (y.v == t.var) <;> cases e2 : (y.ty.var == u.var)
      · have f1 : ¬ y.v = t.var := by simpa using e1
        have f2 : ¬ y.ty.var = u.var := by simpa using e2
        have HJ3 := hide (HJ2.out (by rw [e1, e2]; rfl))
        clear HHit HJ2 HJ
        go_quiet (fail)
        have HX := hide (HX.out.drewN nq)
        go_wp2
        go_roundw
        case rel => exact ⟨k + 1, hlt, by go_num, HJ3, HX⟩
        case measure => simp [intOf]; omega
      · have f1 : ¬ y.v = t.var := by simpa using e1
        have f2 : y.ty.var = u.var := by simpa using e2
        have HH := hide (fun w' (e : Ext W w') => HHit.out w' e (by rw [e1, e2]; rfl))
        rw [e1, e2] at HH
        clear HHit HJ2 HJ
        go_quiet (fail)
        have HX2 := hide (HX.out.drewN nq)
        have E2 := (Ext.refl wr).drewN nq
        obtain ⟨c1, -, d1, -⟩ := HSt.out _ HX2.out
        have l1 := (B1.out.ext HX2.out).lt
        have l2 := (B2.out.ext HX2.out).lt
        have q0 := E2.cell q0
        have q2 := E2.cell q2
        have hb : b < (wr.drewN nq).heap.size := by have := E2.size; omega
        clear E2
        generalize wr.drewN nq = W3 at *
        go_upto_region 11 with fail
        go_quiet (fail)
        have HX3 := hide (HX2.out.drewN nq)
        have HF := hide (HH.out _ HX3.out)
        clear HH
        go_wp2
        go_ret2
        first | exact ⟨⟨_, _, _, _, rfl, HF.out⟩, X0.out.trans HX3.out⟩ | exact ⟨⟨_, _, _, .inl ⟨rfl, HF.out⟩⟩, X0.out.trans HX3.out⟩ | exact ⟨⟨_, _, _, .inr ⟨rfl, HF.out⟩⟩, X0.out.trans HX3.out⟩
      · have f1 : y.v = t.var := by simpa using e1
        have f2 : ¬ y.ty.var = u.var := by simpa using e2
        have HH := hide (fun w' (e : Ext W w') => HHit.out w' e (by rw [e1, e2]; rfl))
        rw [e1, e2] at HH
        clear HHit HJ2 HJ
        go_quiet (fail)
        have HX2 := hide (HX.out.drewN nq)
        have E2 := (Ext.refl wr).drewN nq
        obtain ⟨c1, -, d1, -⟩ := HSt.out _ HX2.out
        have l1 := (B1.out.ext HX2.out).lt
        have l2 := (B2.out.ext HX2.out).lt
        have q0 := E2.cell q0
        have q2 := E2.cell q2
        have hb : b < (wr.drewN nq).heap.size := by have := E2.size; omega
        clear E2
        generalize wr.drewN nq = W3 at *
        go_upto_region 11 with fail
        go_quiet (fail)
        have HX3 := hide (HX2.out.drewN nq)
        have HF := hide (HH.out _ HX3.out)
        clear HH
        go_wp2
        go_ret2
        first | exact ⟨⟨_, _, _, _, rfl, HF.out⟩, X0.out.trans HX3.out⟩ | exact ⟨⟨_, _, _, .inl ⟨rfl, HF.out⟩⟩, X0.out.trans HX3.out⟩ | exact ⟨⟨_, _, _, .inr ⟨rfl, HF.out⟩⟩, X0.out.trans HX3.out⟩
      · have f1 : y.v = t.var := by simpa using e1
        have f2 : y.ty.var = u.var := by simpa using e2
        have HH := hide (fun w' (e : Ext W w') => HHit.out w' e (by rw [e1, e2]; rfl))
        rw [e1, e2] at HH
        clear HHit HJ2 HJ
        go_quiet (fail)
        have HX2 := hide (HX.out.drewN nq)
        have E2 := (Ext.refl wr).drewN nq
        obtain ⟨c1, -, d1, -⟩ := HSt.out _ HX2.out
        have l1 := (B1.out.ext HX2.out).lt
        have l2 := (B2.out.ext HX2.out).lt
        have q0 := E2.cell q0
        have q2 := E2.cell q2
        have hb : b < (wr.drewN nq).heap.size := by have := E2.size; omega
        clear E2
        generalize wr.drewN nq = W3 at *
        go_upto_region 11 with fail
        go_quiet (fail)
        have HX3 := hide (HX2.out.drewN nq)
        have HF := hide (HH.out _ HX3.out)
        clear HH
        go_wp2
        go_ret2
        first | exact ⟨⟨_, _, _, _, rfl, HF.out⟩, X0.out.trans HX3.out⟩ | exact ⟨⟨_, _, _, .inl ⟨rfl, HF.out⟩⟩, X0.out.trans HX3.out⟩ | exact ⟨⟨_, _, _, .inr ⟨rfl, HF.out⟩⟩, X0.out.trans HX3.out⟩
    · have hge : ¬ (k : Int) < (s.length : Int) := by omega
      have hks : k = s.length := by omega
      obtain ⟨i0, hi, hz0, hz1, hz2⟩ := info_parts pair_info
      obtain ⟨c1, d0, d1, d2⟩ := HSt.out _ HX.out
      have l1 := (B1.out.ext HX.out).lt
      have l2 := (B2.out.ext HX.out).lt
      have HSr : Hid (Row wr A 4 s.length (s.flatMap prC.f)) := hide (HS.out.ext (X0.out.trans HX.out)).row
      have HFl : Hid (s.flatMap prC.f ++ [.int .i64 t.var, encStr u.con, .int .i64 u.var, .slice u.A u.args.length u.cap] = (s ++ [Pr.mk t.var u]).flatMap prC.f) := hide (by
        rw [List.flatMap_append, List.flatMap_cons, List.flatMap_nil, List.append_nil]
        rfl)
      have HNew := hide (fun w' A' c' (h1 : PrsIn w' A' (s ++ [Pr.mk t.var u])) (h2 : (s ++ [Pr.mk t.var u]).length ≤ c') (h3 : c' ≤ 9223372036854775807) => alk_new (w' := w') (n := n) (N := N + t.size) HOw.out.1 HOw.out.2 (fun j h => HJ.out j h (by omega)) h1 h2 h3 (by simp; omega))
      rw [← HO.out] at HNew
      have HTy : Hid (∀ w', Ext w w' → ∀ p ∈ s ++ [Pr.mk t.var u], TyIn w' p.ty) := hide (fun w' e p hp => by
        rcases List.mem_append.1 hp with hp | hp
        · exact (HS.out.ty p hp).ext e
        · rw [List.mem_singleton] at hp
          subst hp
          exact Hu.out.ext e)
      have XR := hide (X0.out.trans HX.out)
      have HSv := hide (fun w' (e : Ext wr w') => HSt.out w' (HX.out.trans e))
      clear HJ hks HSt
      go_upto_region 12 with fail
      go_region_held3 (fun w' => w'.cell? ⟨w.heap.size, 1, none⟩ = some (.int .i64 t.var) ∧ w'.cell? ⟨w.heap.size + 1, 0, none⟩ = some (encStr u.con) ∧ w'.cell? ⟨w.heap.size + 1, 1, none⟩ = some (.int .i64 u.var) ∧ w'.cell? ⟨w.heap.size + 1, 2, none⟩ = some (.slice u.A u.args.length u.cap)) (first | assumption | go_keep) (first
        | (refine step_append_rowB _ rfl (.const (.slice none 0 0)) (.tmp 110) 50 rfl wr.heap.size 83 i0 _ 4 56 Tryz.underlying50 hi hz0 hz1 hz2 rfl (by decide) (.slice none 0 0) 0 [] rfl (World.ownsRow_nil _ _ _ _) A s.length c (s.flatMap prC.f) rfl (Row.ext HSr.out (w := wr) (by repeat (first | exact Ext.refl _ | exact Ext.pre (by simp) | exact Ext.alloc (by assumption) _ | refine Ext.alloc ?_ _ |  refine Ext.more ?_ _ _ | refine Ext.drew ?_ | refine Ext.drewN ?_ _))) (one_prs _) (by unfold maxLen; omega) (by omega) (Ext.size (w := wr) (by repeat (first | exact Ext.refl _ | exact Ext.pre (by simp) | exact Ext.alloc (by assumption) _ | refine Ext.alloc ?_ _ |  refine Ext.more ?_ _ _ | refine Ext.drew ?_ | refine Ext.drewN ?_ _))) ?_
           intro v1 w2 hown1 hg1 hat1
           have X1 : Hid (Ext wr w2) := hide (Ext.app (w := wr) (by repeat (first | exact Ext.refl _ | exact Ext.pre (by simp) | exact Ext.alloc (by assumption) _ | refine Ext.alloc ?_ _ |  refine Ext.more ?_ _ _ | refine Ext.drew ?_ | refine Ext.drewN ?_ _)) hg1 (World.ownsRow_nil _ wr.heap.size 83 4) (Nat.le_refl _))
           have Hg1 := hide hg1
           rw [Nat.zero_add, List.nil_append] at hown1
           have O1 := hide hown1
           have s1 := HSv.out _ X1.out
           clear hown1 hg1 hat1)
        | (refine step_append_rowB _ rfl (.tmp 111) (.tmp 116) 50 rfl wr.heap.size 83 i0 _ 4 56 Tryz.underlying50 hi hz0 hz1 hz2 rfl (by decide) v1 s.length (s.flatMap prC.f) rfl (by first | exact O1.out.alloc _ | exact O1.out) (some ⟨_, 0, none⟩) 1 1 [.int .i64 t.var, encStr u.con, .int .i64 u.var, .slice u.A u.args.length u.cap] rfl
             (by first | exact RowOf.block prC [Pr.mk t.var u] (heap_alloc_new _ _) | exact RowOf.block prC [Pr.mk t.var u] ((Hg1.out.block _ (by simp) (by simp [Value.ownBlock])).trans (at_newB _ _ _ (by simp))))
             (by intro z hz; simp at hz; rcases hz with rfl | rfl | rfl | rfl <;> rfl) (by unfold maxLen; omega) (by omega) (Ext.size (w := wr) (by first | exact X1.out.alloc _ | exact X1.out)) ?_
           intro v2 w3 hown2 hg2 hat2
           have X3 : Hid (Ext wr w3) := hide (Ext.app (w := wr) (by first | exact X1.out.alloc _ | exact X1.out) hg2 (by first | exact O1.out.alloc _ | exact O1.out) (Nat.le_refl _))
           have O2 := hide hown2
           have s2 := HSv.out _ X3.out
           clear hown2 hg2 hat2))
      all_goals
        have h3 := O2.out
        rw [show s.length + 1 = (s ++ [Pr.mk t.var u] : List Pr).length by simp, show s.flatMap prC.f ++ [.int .i64 t.var, encStr u.con, .int .i64 u.var, .slice u.A u.args.length u.cap] = (s ++ [Pr.mk t.var u]).flatMap prC.f from HFl.out] at h3
        obtain ⟨A', cap', rfl, hc1, hc2, hs, -⟩ := RowOf.own prC (l := s ++ [Pr.mk t.var u]) h3
        have HF := hide (HNew.out w3 A' cap' ⟨hs, fun p hp => HTy.out w3 (XR.out.trans X3.out) p hp⟩ hc1 hc2)
        have XX := hide (XR.out.trans X3.out)
        clear h3 hs O2 s2 HNew
        generalize (s ++ [Pr.mk t.var u] : List Pr).length = LL at *
        go_wp2
        go_ret2
        first | exact ⟨⟨_, _, _, _, rfl, HF.out⟩, XX.out⟩ | exact ⟨⟨_, _, _, .inl ⟨rfl, HF.out⟩⟩, XX.out⟩ | exact ⟨⟨_, _, _, .inr ⟨rfl, HF.out⟩⟩, XX.out⟩

end Go.Proofs.YtmjiljhcjfnfpaaGreat

/- Contract of the reference of chapter 21: are two types alike, but for the names of own variables? Any two. -/
namespace Go.Proofs.YtmjiljhcjfnfpaaGreat
open Go.RowKit

set_option maxRecDepth 10000 in
set_option maxHeartbeats 8000000 in
theorem alk_con (n : Int) (p : Ty) (hc : p.con ≠ []) (ih : ∀ k ∈ p.args, AlkCo n k) : AlkCo n p := by
  intro t A0 l0 c0' N0 row w hp ht hm hn
  obtain ⟨W, hW⟩ : ∃ W, W = (w.alloc (.cells #[encStr p.con, .int .i64 p.var, .slice p.A p.args.length p.cap] 25)).alloc (.cells #[encStr t.con, .int .i64 t.var, .slice t.A t.args.length t.cap] 25) := ⟨_, rfl⟩
  have HW := hide hW.symm
  have X0 : Hid (Ext w W) := hide (by rw [hW]; exact ((Ext.refl _).alloc _).alloc _)
  have B1 : Hid (TBox W w.heap.size p) := hide (by rw [hW]; exact (TBox.new w p).ext ((Ext.refl _).alloc _))
  have B2 : Hid (TBox W (w.heap.size + 1) t) := hide (by rw [hW]; exact at_newB _ _ _ (by simp))
  have HO := hide (alkT_eq n p t row)
  obtain ⟨O, hO⟩ : ∃ O, O = alkT n p t row := ⟨_, rfl⟩
  rw [← hO] at HO ⊢
  have hcB : (p.con == ([] : Str)) = false := by simpa using hc
  have Hp := hide hp.all
  have Ht := hide ht.all
  have hlp := hp.le
  have hmp := hp.max
  have hlt' := ht.le
  have hmt := ht.max
  have HM := hide (hm.ext X0.out)
  have HI := hide (fun k (hk : k < p.args.length) => ih _ (List.getElem_mem hk))
  have HSz : Hid (p.size = tsum p.args + 1) := hide (Ty.size_eq p)
  have c0 := B1.out.c0
  have c1 := B1.out.c1
  have c2 := B1.out.c2
  have d0 := B2.out.c0
  have d1 := B2.out.c1
  have d2 := B2.out.c2
  have l1 := B1.out.lt
  have l2 := B2.out.lt
  clear hW hp ht hm hO ih
  unfold tyV at *
  by_cases hcon : p.con = t.con
  case neg =>
    have hF : O = none := by rw [HO.out, if_neg (fun h => hcon h.1)]
    have g1 : (p.con != t.con) = true := by simpa using hcon
    have g2 : (p.con == t.con) = false := by simpa using hcon
    clear HO hcon hc
    subst hF
    go_enter Tryz.func26, Tryz.ntmps26
    go_upto_region 1 with fail
    rw [HW.out]
    clear HW
    go_wp2
    go_ret2
    first | exact ⟨⟨_, _, _, _, rfl, AlkR.bad⟩, X0.out⟩ | exact ⟨⟨_, _, _, .inl ⟨rfl, AlkR.bad⟩⟩, X0.out⟩
  have g1 : (p.con != t.con) = false := by simpa using hcon
  have g2 : (p.con == t.con) = true := by simpa using hcon
  by_cases hlen : p.args.length = t.args.length
  case neg =>
    have hF : O = none := by rw [HO.out, if_neg (fun h => hlen h.2)]
    have g3 : ((p.args.length : Int) != (t.args.length : Int)) = true := by simp; omega
    have g4 : (p.args.length != t.args.length) = true := by simpa using hlen
    have g5 : (p.args.length == t.args.length) = false := by simpa using hlen
    clear HO hlen hcon hc
    subst hF
    go_enter Tryz.func26, Tryz.ntmps26
    go_upto_region 1 with fail
    rw [HW.out]
    clear HW
    go_wp2
    go_ret2
    first | exact ⟨⟨_, _, _, _, rfl, AlkR.bad⟩, X0.out⟩ | exact ⟨⟨_, _, _, .inl ⟨rfl, AlkR.bad⟩⟩, X0.out⟩
  rw [if_pos ⟨hcon, hlen⟩, if_neg hc] at HO
  have g3 : ((p.args.length : Int) != (t.args.length : Int)) = false := by rw [hlen]; simp
  have g4 : (p.args.length != t.args.length) = false := by simpa using hlen
  have g5 : (p.args.length == t.args.length) = true := by simpa using hlen
  have HLn := hide hlen
  clear hlen hcon hc
  go_enter Tryz.func26, Tryz.ntmps26
  go_upto_region 1 with fail
  rw [HW.out]
  clear HW
  go_wp2
  clear c0 c1 c2 d0 d1 d2 l1 l2 g1 g2 g3 g4 g5 hcB
  go_loopw [3, 12] (fun s0 i wr => ∃ (k : Nat) (A : Option Addr) (l c N : Nat) (r : List (Int × Int)), k ≤ p.args.length ∧ s0 = .slice A l c ∧ i = .int .i64 k ∧ Hid (O = alkFs ((p.args.drop k).map (alkT n)) (t.args.drop k) r) ∧ Hid (PrA wr A l c r N) ∧ N + tsum (p.args.drop k) ≤ N0 + tsum p.args ∧ Hid (Ext W wr)) (fun _ i _ => p.args.length - (intOf i).toNat)
  case atStart => exact ⟨0, A0, l0, c0', N0, row, Nat.zero_le _, rfl, rfl, hide (by rw [List.drop_zero, List.drop_zero]; exact HO.out), HM, by rw [List.drop_zero]; exact Nat.le_refl _, hide (Ext.refl W)⟩
  case round =>
    obtain ⟨k, A, l, c, N, r, hk, rfl, rfl, HOk', HB, hN, HX⟩ := hrel
    by_cases hlt : k < p.args.length
    · have hltb : k < t.args.length := by rw [← HLn.out]; exact hlt
      have hlt1 : (k : Int) < (p.args.length : Int) := by omega
      have hlt2 : (k : Int) < (t.args.length : Int) := by omega
      have hk0 : (0 : Int) ≤ (k : Int) := by omega
      obtain ⟨bp, op, hA, hbp, q0, q1, q2⟩ := (Hp.out.ext (X0.out.trans HX.out)).at_ hlt
      obtain ⟨bt, ot, hBt, hbt, r0, r1, r2⟩ := (Ht.out.ext (X0.out.trans HX.out)).at_ hltb
      have hd : tsum (p.args.drop k) = (p.args[k]'hlt).size + tsum (p.args.drop (k + 1)) := by rw [List.drop_eq_getElem_cons hlt, tsum_cons]
      have hN2 : N + ((p.args[k]'hlt).size + tsum (p.args.drop (k + 1))) ≤ N0 + tsum p.args := by rw [← hd]; exact hN
      have hs := HSz.out
      have HC := hide (fun w' (e : Ext wr w') => hide (HI.out k hlt (t.args[k]'hltb) A l c N r w' ((Hp.out.args _ (List.getElem_mem hlt)).ext (X0.out.trans (HX.out.trans e))) ((Ht.out.args _ (List.getElem_mem hltb)).ext (X0.out.trans (HX.out.trans e))) (HB.out.ext e) (by omega)))
      have HO1 : Hid (O = (alkT n (p.args[k]'hlt) (t.args[k]'hltb) r).bind fun r => alkFs ((p.args.drop (k + 1)).map (alkT n)) (t.args.drop (k + 1)) r) := hide (by
        rw [HOk'.out, List.drop_eq_getElem_cons hlt, List.drop_eq_getElem_cons hltb]
        rfl)
      have c2 := (B1.out.ext HX.out).c2
      have l1 := (B1.out.ext HX.out).lt
      have d2 := (B2.out.ext HX.out).c2
      have l2 := (B2.out.ext HX.out).lt
      generalize alkT n (p.args[k]'hlt) (t.args[k]'hltb) r = O1 at *
      generalize p.args[k]'hlt = x at *
      generalize t.args[k]'hltb = y at *
      rw [hA] at c2
      rw [hBt] at d2
      clear hA hBt hd hN hs
      have HSS := hide (fun w' (e : Ext wr w') => And.intro (e.cell c2) (And.intro (e.cell d2) (And.intro (e.cell q0) (And.intro (e.cell q1) (And.intro (e.cell q2) (And.intro (e.cell r0) (And.intro (e.cell r1) (e.cell r2))))))))
      unfold tyV at HC
      go_upto_region 16 with fail
      go_region_held3 (fun w' => w'.cell? ⟨w.heap.size, 2, none⟩ = some (.slice (some ⟨bp, op, none⟩) p.args.length p.cap) ∧ w'.cell? ⟨w.heap.size + 1, 2, none⟩ = some (.slice (some ⟨bt, ot, none⟩) t.args.length t.cap) ∧ w'.cell? ⟨bp, op + k * 3, none⟩ = some (encStr x.con) ∧ w'.cell? ⟨bp, op + k * 3 + 1, none⟩ = some (.int .i64 x.var) ∧ w'.cell? ⟨bp, op + k * 3 + 2, none⟩ = some (.slice x.A x.args.length x.cap) ∧ w'.cell? ⟨bt, ot + k * 3, none⟩ = some (encStr y.con) ∧ w'.cell? ⟨bt, ot + k * 3 + 1, none⟩ = some (.int .i64 y.var) ∧ w'.cell? ⟨bt, ot + k * 3 + 2, none⟩ = some (.slice y.A y.args.length y.cap)) (first | with_reducible assumption | go_keep) (first
        | (go_at_call 26
           refine Calls.mono (HC.out _ (by repeat (first | exact Ext.refl _ | exact Ext.pre (by simp) | exact Ext.alloc (by assumption) _ | refine Ext.alloc ?_ _ |  refine Ext.more ?_ _ _ | refine Ext.drew ?_ | refine Ext.drewN ?_ _))).out ?_
           rintro e z ⟨⟨A', l', c', ok, rfl, hok⟩, hxy⟩
           have kS := HSS.out z (by refine Ext.trans ?_ hxy; exact (by repeat (first | exact Ext.refl _ | exact Ext.pre (by simp) | exact Ext.alloc (by assumption) _ | refine Ext.alloc ?_ _ |  refine Ext.more ?_ _ _ | refine Ext.drew ?_ | refine Ext.drewN ?_ _)))
           have XZ : Hid (Ext wr z) := hide (by refine Ext.trans ?_ hxy; exact (by repeat (first | exact Ext.refl _ | exact Ext.pre (by simp) | exact Ext.alloc (by assumption) _ | refine Ext.alloc ?_ _ |  refine Ext.more ?_ _ _ | refine Ext.drew ?_ | refine Ext.drewN ?_ _)))))
      all_goals
        cases O1 with
        | none =>
          obtain rfl := hok.no rfl
          have hF : O = none := HO1.out
          clear HO1 HOk' HO hok
          subst hF
          go_wp2
          go_ret2
          first
            | exact ⟨⟨_, _, _, _, rfl, AlkR.bad⟩, X0.out.trans (HX.out.trans XZ.out)⟩
            | exact ⟨⟨_, _, _, .inl ⟨rfl, AlkR.bad⟩⟩, X0.out.trans (HX.out.trans XZ.out)⟩
        | some m2 =>
          obtain ⟨rfl, hB2⟩ := hok.yes m2 rfl
          have HB2 := hide hB2
          have HO2 := hide (show O = alkFs ((p.args.drop (k + 1)).map (alkT n)) (t.args.drop (k + 1)) m2 from HO1.out)
          clear hok hB2 HO1 HOk'
          go_wp2
          go_roundw
          case rel => exact ⟨k + 1, A', l', c', N + x.size, m2, hlt, rfl, by go_num, HO2, HB2, by omega, hide (HX.out.trans XZ.out)⟩
          case measure => simp [intOf]; omega
    · have hge : ¬ (k : Int) < (p.args.length : Int) := by omega
      have hF : O = some r := by rw [HOk'.out, List.drop_eq_nil_of_le (by omega), List.drop_eq_nil_of_le (by have := HLn.out; omega)]; rfl
      have HBe := hide (PrA.mono HB.out (show N ≤ N0 + p.size by have hs := HSz.out; rw [List.drop_eq_nil_of_le (by omega)] at hN; unfold tsum at hN hs; simp at hN; omega))
      have c2 := (B1.out.ext HX.out).c2
      have l1 := (B1.out.ext HX.out).lt
      clear HO HOk' hN
      subst hF
      go_wp2
      go_ret2
      have hR : AlkR wr (some r) (N0 + p.size) A l c true := ⟨(fun h => by cases h), (fun m2 h => by injection h with h; subst h; exact ⟨rfl, HBe.out⟩)⟩
      first
        | exact ⟨⟨_, _, _, _, rfl, hR⟩, X0.out.trans HX.out⟩
        | exact ⟨⟨_, _, _, .inr ⟨rfl, hR⟩⟩, X0.out.trans HX.out⟩
/-- Are two types alike, but for the names of own variables? The reference. -/
theorem r_alike21 (n : Int) (p : Ty) : AlkCo n p := by
  induction p using Ty.ind with
  | h p ih =>
  by_cases hc : p.con = []
  · exact alk_var n p hc
  · exact alk_con n p hc ih

end Go.Proofs.YtmjiljhcjfnfpaaGreat

/- Contract of the reference of chapter 21: are two schemes the same, but for the names of own variables? -/
namespace Go.Proofs.YtmjiljhcjfnfpaaGreat
open Go.RowKit

noncomputable def restB (n : Int) : List Pd → List Pd → List (Int × Int) → Bool
  | [], [], _ => true
  | x :: l, y :: m, r => (x.cls == y.cls) && (match alkT n x.ty y.ty r with | some r' => restB n l m r' | none => false)
  | _, _, _ => false
theorem restB_iff (n : Int) (l : List Pd) : ∀ (m : List Pd) (r : List (Int × Int)), restB n l m r = true ↔ l.map Pd.cls = m.map Pd.cls ∧ (alkFs ((l.map Pd.ty).map (alkT n)) (m.map Pd.ty) r).isSome = true := by
  induction l with
  | nil =>
    intro m r
    cases m with
    | nil => exact ⟨fun _ => ⟨rfl, rfl⟩, fun _ => rfl⟩
    | cons y m => exact ⟨fun h => (by cases h), fun h => (by have := h.1; simp at this)⟩
  | cons x l ih =>
    intro m r
    cases m with
    | nil => exact ⟨fun h => (by cases h), fun h => (by have := h.1; simp at this)⟩
    | cons y m =>
      show ((x.cls == y.cls) && (match alkT n x.ty y.ty r with | some r' => restB n l m r' | none => false)) = true ↔ _ ∧ ((alkT n x.ty y.ty r).bind fun r => alkFs ((l.map Pd.ty).map (alkT n)) (m.map Pd.ty) r).isSome = true
      rw [Bool.and_eq_true, beq_iff_eq, List.map_cons, List.map_cons, List.cons.injEq]
      cases alkT n x.ty y.ty r with
      | none => exact ⟨fun h => (by cases h.2), fun h => (by cases h.2)⟩
      | some r' =>
        show _ ∧ restB n l m r' = true ↔ _ ∧ (alkFs ((l.map Pd.ty).map (alkT n)) (m.map Pd.ty) r').isSome = true
        rw [ih]
        exact ⟨fun h => ⟨⟨h.1, h.2.1⟩, h.2.2⟩, fun h => ⟨h.1.1, h.1.2, h.2⟩⟩
noncomputable def firstB (O : Option (List (Int × Int))) (n : Int) (l m : List Pd) : Bool := match O with | some r => restB n l m r | none => false
theorem same_ref {a b : Sc} (ha : scB a = true) (hb : scB b = true) (hn : a.n = b.n) (hl : a.preds.length = b.preds.length) : sameS a b = firstB (alkT a.n a.ty b.ty []) a.n a.preds b.preds := by
  have h := types_ref (scB_leg ha) (scB_leg hb) hn hl
  rw [Bool.eq_iff_iff, sameS_iff, ← h]
  show _ ∧ _ ∧ _ ∧ _ ∧ ((alkT a.n a.ty b.ty []).bind fun r => alkFs ((a.preds.map Pd.ty).map (alkT a.n)) (b.preds.map Pd.ty) r).isSome = true ↔ _
  unfold firstB
  cases alkT a.n a.ty b.ty [] with
  | none => exact ⟨fun h => (by cases h.2.2.2.2), fun h => (by cases h)⟩
  | some r =>
    show _ ∧ _ ∧ _ ∧ _ ∧ (alkFs ((a.preds.map Pd.ty).map (alkT a.n)) (b.preds.map Pd.ty) r).isSome = true ↔ restB a.n a.preds b.preds r = true
    rw [restB_iff]
    exact ⟨fun h => ⟨h.2.2.2.1, h.2.2.2.2⟩, fun h => ⟨ha, hb, hn, h.1, h.2⟩⟩
theorem same_no {a b : Sc} (h : scB a = false ∨ scB b = false ∨ a.n ≠ b.n ∨ a.preds.length ≠ b.preds.length) : sameS a b = false := by
  rw [← Bool.not_eq_true, sameS_iff]
  rintro ⟨h1, h2, h3, h4, -⟩
  rcases h with h | h | h | h
  · rw [h] at h1; cases h1
  · rw [h] at h2; cases h2
  · exact h h3
  · exact h (by simpa using congrArg List.length h4)
theorem psz_drop {l : List Pd} {k : Nat} (h : k < l.length) : psz (l.drop k) = (l[k]'h).ty.size + psz (l.drop (k + 1)) := by
  unfold psz
  rw [List.drop_eq_getElem_cons h, List.map_cons, List.sum_cons]

set_option maxRecDepth 10000 in
set_option maxHeartbeats 8000000 in
theorem r_same21 (a b : Sc) (w : World) (ha : ScIn w a) (hb : ScIn w b) (hla : a.preds.length ≤ 40000) (hlb : b.preds.length ≤ 40000) (hza : a.ty.size + psz a.preds ≤ 20000) (hzb : b.ty.size + psz b.preds ≤ 20000) :
    Calls Tryz.prog 9 #[scV a, scV b] w fun e w' => e = .returned (.bool (sameS a b)) ∧ Ext w w' := by
  obtain ⟨W, hW⟩ : ∃ W, W = (w.alloc (.cells #[.int .i64 a.n, .slice a.A a.preds.length a.cap, encStr a.ty.con, .int .i64 a.ty.var, .slice a.ty.A a.ty.args.length a.ty.cap] 27)).alloc (.cells #[.int .i64 b.n, .slice b.A b.preds.length b.cap, encStr b.ty.con, .int .i64 b.ty.var, .slice b.ty.A b.ty.args.length b.ty.cap] 27) := ⟨_, rfl⟩
  have HW := hide hW.symm
  have X0 : Hid (Ext w W) := hide (by rw [hW]; exact ((Ext.refl _).alloc _).alloc _)
  have B1 : Hid (ScBox W w.heap.size a) := hide (by rw [hW]; exact (ScBox.new w a).ext ((Ext.refl _).alloc _))
  have B2 : Hid (ScBox W (w.heap.size + 1) b) := hide (by rw [hW]; exact at_newB _ _ _ (by simp))
  have HLa := hide (fun w' (e : Ext W w') => hide (r_legal21 a w' (ha.ext (X0.out.trans e)) hla (by omega)))
  have HLb := hide (fun w' (e : Ext W w') => hide (r_legal21 b w' (hb.ext (X0.out.trans e)) hlb (by omega)))
  have HTy := hide (fun w' (e : Ext W w') => hide (r_alike21 a.n a.ty b.ty none 0 0 0 [] w' (ha.ty.ext (X0.out.trans e)) (hb.ty.ext (X0.out.trans e)) (PrA.none w') (by omega)))
  have HPa := hide ha.row
  have HPb := hide hb.row
  have hma := ha.max
  have hea := ha.le
  have hmb := hb.max
  have heb := hb.le
  have HPs := hide (fun (x y : Pd) (A : Option Addr) (l c N : Nat) (r : List (Int × Int)) (w' : World) (hx : TyIn w' x.ty) (hy : TyIn w' y.ty) (hp : PrA w' A l c r N) (hn : N + x.ty.size ≤ 100000) => hide (r_alike21 a.n x.ty y.ty A l c N r w' hx hy hp hn))
  obtain ⟨R, hR⟩ : ∃ R, R = sameS a b := ⟨_, rfl⟩
  have HNo := hide (@same_no a b)
  have HYes := hide (@same_ref a b)
  rw [← hR] at HNo HYes ⊢
  have hza1 : a.ty.size + psz a.preds ≤ 20000 := hza
  clear hR hW ha hb hza hzb hla hlb
  unfold scV at *
  unfold tyV at HTy
  obtain ⟨c0, c1, c2, c3, c4⟩ := B1.out.cells
  have lc := B1.out.lt
  go_enter Tryz.func9, Tryz.ntmps9
  go_upto_region 1 with fail
  rw [HW.out]
  clear HW
  go_wp2_with fail
  refine (HLa.out _ (Ext.refl W)).out.mono ?_
  rintro e w1 ⟨rfl, hx⟩
  have X1 := hide hx
  clear hx c0 c1 c2 c3 c4 lc HLa
  cases hsa : scB a
  · have hF : R = false := HNo.out (.inl hsa)
    clear HNo HYes
    subst hF
    go_wp2
    go_ret
    exact ⟨rfl, X0.out.trans X1.out⟩
  obtain ⟨d0, d1, d2, d3, d4⟩ := (B2.out.ext X1.out).cells
  have ld := (B2.out.ext X1.out).lt
  go_wp2_with fail
  refine (HLb.out _ X1.out).out.mono ?_
  rintro e w2 ⟨rfl, hx⟩
  have X2 := hide (X1.out.trans hx)
  clear hx d0 d1 d2 d3 d4 ld HLb X1
  obtain ⟨c0, c1, c2, c3, c4⟩ := (B1.out.ext X2.out).cells
  have lc := (B1.out.ext X2.out).lt
  obtain ⟨d0, d1, d2, d3, d4⟩ := (B2.out.ext X2.out).cells
  have ld := (B2.out.ext X2.out).lt
  cases hsb : scB b
  · have hF : R = false := HNo.out (.inr (.inl hsb))
    clear HNo HYes
    subst hF
    go_wp2
    go_ret
    exact ⟨rfl, X0.out.trans X2.out⟩
  by_cases hn : a.n = b.n
  case neg =>
    have hF : R = false := HNo.out (.inr (.inr (.inl hn)))
    have g1 : (a.n != b.n) = true := by simpa using hn
    have g2 : (a.n == b.n) = false := by simpa using hn
    clear HNo HYes
    subst hF
    go_wp2
    go_ret
    exact ⟨rfl, X0.out.trans X2.out⟩
  have g1 : (a.n != b.n) = false := by simpa using hn
  have g2 : (a.n == b.n) = true := by simpa using hn
  by_cases hl : a.preds.length = b.preds.length
  case neg =>
    have hF : R = false := HNo.out (.inr (.inr (.inr hl)))
    have g3 : ((a.preds.length : Int) != (b.preds.length : Int)) = true := by simp; omega
    have g4 : (a.preds.length != b.preds.length) = true := by simpa using hl
    have g5 : (a.preds.length == b.preds.length) = false := by simpa using hl
    clear HNo HYes hn
    subst hF
    go_wp2
    go_ret
    exact ⟨rfl, X0.out.trans X2.out⟩
  have g3 : ((a.preds.length : Int) != (b.preds.length : Int)) = false := by rw [hl]; simp
  have g4 : (a.preds.length != b.preds.length) = false := by simpa using hl
  have g5 : (a.preds.length == b.preds.length) = true := by simpa using hl
  have HR := hide (HYes.out hsa hsb hn hl)
  have HLn := hide hl
  clear HNo HYes hn hl hsa hsb
  have HT2 := hide (HTy.out _ X2.out)
  clear HTy
  generalize alkT a.n a.ty b.ty [] = O1 at *
  go_wp2_with fail
  refine HT2.out.out.mono ?_
  rintro e w4 ⟨⟨A4, l4, c4', ok4, rfl, hok4⟩, hx⟩
  have X4 := hide (X2.out.trans hx)
  have HOk4 := hide hok4
  clear hx hok4 c0 c1 c2 c3 c4 lc d0 d1 d2 d3 d4 ld HT2 g1 g2 g3 g4 g5
  go_wp2
  go_loopw [5, 6, 7] (fun s0 okv i wr => ∃ (k : Nat) (A : Option Addr) (l c : Nat) (ok : Bool), k ≤ a.preds.length ∧ s0 = .slice A l c ∧ okv = .bool ok ∧ i = .int .i64 k ∧ Hid (ok = false → R = false) ∧ Hid (ok = true → ∃ r N, R = restB a.n (a.preds.drop k) (b.preds.drop k) r ∧ PrA wr A l c r N ∧ N + psz (a.preds.drop k) ≤ 20000) ∧ Hid (Ext W wr)) (fun _ _ i _ => a.preds.length - (intOf i).toNat)
  case atStart =>
    refine ⟨0, A4, l4, c4', ok4, Nat.zero_le _, rfl, rfl, rfl, hide (fun h => ?_), hide (fun h => ?_), X4⟩
    · rw [HR.out]
      cases O1 with
      | none => rfl
      | some r => have := (HOk4.out.yes r rfl).1; rw [h] at this; cases this
    · cases O1 with
      | none => have := HOk4.out.no rfl; rw [h] at this; cases this
      | some r => exact ⟨r, 0 + a.ty.size, HR.out, (HOk4.out.yes r rfl).2, by rw [List.drop_zero]; omega⟩
  case round =>
    obtain ⟨k, A, l, c, ok, hk, rfl, rfl, rfl, HNo, HYes, HX⟩ := hrel
    obtain ⟨c0, c1, c2, c3, c4⟩ := (B1.out.ext HX.out).cells
    have lc := (B1.out.ext HX.out).lt
    obtain ⟨d0, d1, d2, d3, d4⟩ := (B2.out.ext HX.out).cells
    have ld := (B2.out.ext HX.out).lt
    by_cases hlt : k < a.preds.length
    · have hlt1 : (k : Int) < (a.preds.length : Int) := by omega
      cases ok with
      | false =>
        have hF : R = false := HNo.out rfl
        clear HNo HYes HR
        subst hF
        go_wp2
        go_ret
        exact ⟨rfl, X0.out.trans HX.out⟩
      | true =>
        obtain ⟨r, N, hRr, hP, hN⟩ := HYes.out rfl
        have hltb : k < b.preds.length := by rw [← HLn.out]; exact hlt
        have hlt2 : (k : Int) < (b.preds.length : Int) := by omega
        have hk0 : (0 : Int) ≤ (k : Int) := by omega
        obtain ⟨bp, op, hA, hbp, q0, q1, q2, q3⟩ := (HPa.out.ext (X0.out.trans HX.out)).at_ hlt
        obtain ⟨bt, ot, hB, hbt, r0, r1, r2, r3⟩ := (HPb.out.ext (X0.out.trans HX.out)).at_ hltb
        have hd := psz_drop hlt
        rw [hd] at hN
        have HC := hide (fun w' (e : Ext wr w') => hide (HPs.out (a.preds[k]'hlt) (b.preds[k]'hltb) A l c N r w' ((HPa.out.all _ (List.getElem_mem hlt)).ty.ext (X0.out.trans (HX.out.trans e))) ((HPb.out.all _ (List.getElem_mem hltb)).ty.ext (X0.out.trans (HX.out.trans e))) (hP.ext e) (by omega)).out)
        have HR1 : Hid (R = (((a.preds[k]'hlt).cls == (b.preds[k]'hltb).cls) && (match alkT a.n (a.preds[k]'hlt).ty (b.preds[k]'hltb).ty r with | some r' => restB a.n (a.preds.drop (k + 1)) (b.preds.drop (k + 1)) r' | none => false))) := hide (by
          rw [hRr, List.drop_eq_getElem_cons hlt, List.drop_eq_getElem_cons hltb]
          rfl)
        generalize alkT a.n (a.preds[k]'hlt).ty (b.preds[k]'hltb).ty r = O2 at *
        generalize a.preds[k]'hlt = x at *
        generalize b.preds[k]'hltb = y at *
        rw [hA] at c1
        rw [hB] at d1
        clear hA hB hd hRr hP HNo HYes c2 c3 c4 d0 d2 d3 d4
        have HSS := hide (fun w' (e : Ext wr w') => And.intro (e.cell c0) (And.intro (e.cell c1) (And.intro (e.cell d1) (And.intro (e.cell q0) (And.intro (e.cell q1) (And.intro (e.cell q2) (And.intro (e.cell q3) (And.intro (e.cell r0) (And.intro (e.cell r1) (And.intro (e.cell r2) (e.cell r3)))))))))))
        unfold tyV at HC
        go_upto_region 7 with fail
        go_region_held3 (fun w' => w'.cell? ⟨w.heap.size, 0, none⟩ = some (.int .i64 a.n) ∧ w'.cell? ⟨w.heap.size, 1, none⟩ = some (.slice (some ⟨bp, op, none⟩) a.preds.length a.cap) ∧ w'.cell? ⟨w.heap.size + 1, 1, none⟩ = some (.slice (some ⟨bt, ot, none⟩) b.preds.length b.cap) ∧ w'.cell? ⟨bp, op + k * 4, none⟩ = some (encStr x.cls) ∧ w'.cell? ⟨bp, op + k * 4 + 1, none⟩ = some (encStr x.ty.con) ∧ w'.cell? ⟨bp, op + k * 4 + 2, none⟩ = some (.int .i64 x.ty.var) ∧ w'.cell? ⟨bp, op + k * 4 + 3, none⟩ = some (.slice x.ty.A x.ty.args.length x.ty.cap) ∧ w'.cell? ⟨bt, ot + k * 4, none⟩ = some (encStr y.cls) ∧ w'.cell? ⟨bt, ot + k * 4 + 1, none⟩ = some (encStr y.ty.con) ∧ w'.cell? ⟨bt, ot + k * 4 + 2, none⟩ = some (.int .i64 y.ty.var) ∧ w'.cell? ⟨bt, ot + k * 4 + 3, none⟩ = some (.slice y.ty.A y.ty.args.length y.ty.cap)) (first | with_reducible assumption | go_keep) (first
          | (go_at_call 26
             refine Calls.mono (HC.out _ (by repeat (first | exact Ext.refl _ | exact Ext.pre (by simp) | exact Ext.alloc (by assumption) _ | refine Ext.alloc ?_ _ |  refine Ext.more ?_ _ _ | refine Ext.drew ?_ | refine Ext.drewN ?_ _))).out ?_
             rintro e z ⟨⟨A', l', c', n', rfl, hok⟩, hxy⟩
             have kS := HSS.out z (by refine Ext.trans ?_ hxy; exact (by repeat (first | exact Ext.refl _ | exact Ext.pre (by simp) | exact Ext.alloc (by assumption) _ | refine Ext.alloc ?_ _ |  refine Ext.more ?_ _ _ | refine Ext.drew ?_ | refine Ext.drewN ?_ _)))
             have XZ : Hid (Ext wr z) := hide (by refine Ext.trans ?_ hxy; exact (by repeat (first | exact Ext.refl _ | exact Ext.pre (by simp) | exact Ext.alloc (by assumption) _ | refine Ext.alloc ?_ _ |  refine Ext.more ?_ _ _ | refine Ext.drew ?_ | refine Ext.drewN ?_ _)))))
        all_goals
          have hlz1 : w.heap.size < z.heap.size := by have := XZ.out.size; omega
          have hlz2 : w.heap.size + 1 < z.heap.size := by have := XZ.out.size; omega
          have hlz3 : bp < z.heap.size := by have := XZ.out.size; omega
          have hlz4 : bt < z.heap.size := by have := XZ.out.size; omega
          cases O2 with
          | none =>
            obtain rfl := hok.no rfl
            have hF : Hid (R = false) := hide (by rw [HR1.out]; simp)
            clear HR1 hok
            go_upto_region 9 with fail
            go_quiet (fail)
            have HX2 := hide ((HX.out.trans XZ.out).drewN nq)
            go_wp2
            go_roundw
            case rel => exact ⟨k + 1, A', l', c', false, hlt, rfl, rfl, by go_num, hide (fun _ => hF.out), hide (fun h => by cases h), HX2⟩
            case measure => simp [intOf]; omega
          | some m2 =>
            obtain ⟨rfl, hB2⟩ := hok.yes m2 rfl
            have HB2 := hide hB2
            have HR2 : Hid (R = ((x.cls == y.cls) && restB a.n (a.preds.drop (k + 1)) (b.preds.drop (k + 1)) m2)) := HR1
            clear hok hB2 HR1
            obtain ⟨-, k1, k2, k3, -, -, -, k7, -, -, -⟩ := kS
            go_upto_region 9 with fail
            cases hcl : (x.cls == y.cls)
            · have hcl2 : ¬ x.cls = y.cls := by simpa using hcl
              have hF : Hid (R = false) := hide (by rw [HR2.out, hcl]; rfl)
              clear HR2
              go_quiet (fail)
              have HX2 := hide ((HX.out.trans XZ.out).drewN nq)
              go_wp2
              go_roundw
              case rel => exact ⟨k + 1, A', l', c', false, hlt, rfl, rfl, by go_num, hide (fun _ => hF.out), hide (fun h => by cases h), HX2⟩
              case measure => simp [intOf]; omega
            · have HR3 : Hid (R = restB a.n (a.preds.drop (k + 1)) (b.preds.drop (k + 1)) m2) := hide (by rw [HR2.out, hcl]; rfl)
              clear HR2
              go_quiet (fail)
              have HX2 := hide ((HX.out.trans XZ.out).drewN nq)
              have HB3 := hide (HB2.out.ext ((Ext.refl z).drewN nq))
              go_wp2
              go_roundw
              case rel => exact ⟨k + 1, A', l', c', true, hlt, rfl, rfl, by go_num, hide (fun h => by cases h), hide (fun _ => ⟨m2, N + x.ty.size, HR3.out, HB3.out, by omega⟩), HX2⟩
              case measure => simp [intOf]; omega
    · have hge : ¬ (k : Int) < (a.preds.length : Int) := by omega
      have hRo : R = ok := by
        cases ok with
        | false => exact HNo.out rfl
        | true =>
          obtain ⟨r, N, hRr, -, -⟩ := HYes.out rfl
          rw [hRr, List.drop_eq_nil_of_le (by omega), List.drop_eq_nil_of_le (by have := HLn.out; omega)]
          rfl
      clear HNo HYes HR
      subst hRo
      go_wp2
      go_ret
      exact ⟨rfl, X0.out.trans HX.out⟩

end Go.Proofs.YtmjiljhcjfnfpaaGreat
