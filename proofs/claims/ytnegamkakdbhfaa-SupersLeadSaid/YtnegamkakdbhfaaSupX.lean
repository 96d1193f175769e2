/- Chapter 22's law on ways, whole. -/
import Derived.Test.YtnegamkakdbhfaaSupW
namespace Go.Proofs.Ytnegamkakdbhfaa
open Go.RowKit

section
variable (A : Option Addr) (cap : Nat) (l : List Cls) (x y : Str) (w : World)
set_option maxRecDepth 10000 in
set_option maxHeartbeats 4000000 in
theorem lead_no (h : Classes w A l) (hle : l.length ≤ 9223372036854775807) (hf : fewL l = true) (hno : okL l = false ∨ atI l x < 0 ∨ atI l y < 0) :
    Calls Try.prog 9 #[.slice A l.length cap, encStr x, encStr y] w fun e w' => e = .returned (.bool true) ∧ Ext w w' := by
  have Hf := hide (few_ok A cap l w h hle)
  rw [hf] at Hf
  obtain ⟨hl, hs⟩ := (fewL_iff l).1 hf
  have Hp := hide (fun w' (e : Ext w w') => hide (sup_path A cap l x y w' (h.ext e) hl hs))
  have Hc := hide (fun w' (e : Ext w w') => hide (sup_check A cap l w' (h.ext e) hl hs))
  have Ha := hide (fun w' (e : Ext w w') => hide (ref_at22 A cap l x w' (h.ext e) hle))
  have Hb := hide (fun w' (e : Ext w w') => hide (ref_at22 A cap l y w' (h.ext e) hle))
  have hP : pathL l x y = none := by
    unfold pathL
    rcases hno with h1 | h1 | h1
    · rw [h1]; simp
    · simp [h1]
    · simp [h1]
  rw [hP] at Hp
  have hoke : ((checkL l).2 == 0) = okL l := rfl
  have Hoke := hide hoke
  clear h hle hf hl hs hP hoke
  generalize checkL l = R at *
  obtain ⟨ri, re⟩ := R
  simp only at Hoke
  generalize atI l x = ia at *
  generalize atI l y = ib at *
  cases ho : okL l
  · have hre : (re != 0) = true := by have := Hoke.out; rw [ho] at this; simp [bne, this]
    clear hno ho
    go_enter Try.func9, Try.ntmps9
    go_wp2_with fail
    refine Hf.out.mono ?_
    rintro e w1 ⟨rfl, rfl⟩
    go_wp2_with fail
    refine (Hp.out _ (by repeat (first | exact Ext.refl _ | exact Ext.pre (by simp) | exact Ext.alloc (by assumption) _ | refine Ext.alloc ?_ _ |  refine Ext.more ?_ _ _ | refine Ext.drew ?_ | refine Ext.drewN ?_ _))).out.mono ?_
    rintro e w2 ⟨⟨A3, c3, rfl, g1, g2, g3⟩, l3, d3, rfl⟩
    clear g3
    go_wp2_with fail
    refine (Hc.out _ (by repeat (first | exact Ext.refl _ | exact Ext.pre (by simp) | exact Ext.alloc (by assumption) _ | refine Ext.alloc ?_ _ |  refine Ext.more ?_ _ _ | refine Ext.drew ?_ | refine Ext.drewN ?_ _))).out.mono ?_
    rintro e w3 ⟨rfl, l4, d4, rfl⟩
    go_wp2_with fail
    refine (awake22_ok _).mono ?_
    rintro e w3 ⟨rfl, l7, d7, rfl⟩
    go_wp2
    go_ret
    exact ⟨rfl, (by repeat (first | exact Ext.refl _ | exact Ext.pre (by simp) | exact Ext.alloc (by assumption) _ | refine Ext.alloc ?_ _ |  refine Ext.more ?_ _ _ | refine Ext.drew ?_ | refine Ext.drewN ?_ _))⟩
  · have hre0 : (re == 0) = true := by rw [Hoke.out]; exact ho
    have hre : re = 0 := by simpa using hre0
    subst hre
    rw [ho] at hno
    have hno2 : ia < 0 ∨ ib < 0 := by simpa using hno
    clear hre0 hno ho
    by_cases ha : ia < 0
    · clear hno2
      go_enter Try.func9, Try.ntmps9
      go_wp2_with fail
      refine Hf.out.mono ?_
      rintro e w1 ⟨rfl, rfl⟩
      go_wp2_with fail
      refine (Hp.out _ (by repeat (first | exact Ext.refl _ | exact Ext.pre (by simp) | exact Ext.alloc (by assumption) _ | refine Ext.alloc ?_ _ |  refine Ext.more ?_ _ _ | refine Ext.drew ?_ | refine Ext.drewN ?_ _))).out.mono ?_
      rintro e w2 ⟨⟨A3, c3, rfl, g1, g2, g3⟩, l3, d3, rfl⟩
      clear g3
      go_wp2_with fail
      refine (Hc.out _ (by repeat (first | exact Ext.refl _ | exact Ext.pre (by simp) | exact Ext.alloc (by assumption) _ | refine Ext.alloc ?_ _ |  refine Ext.more ?_ _ _ | refine Ext.drew ?_ | refine Ext.drewN ?_ _))).out.mono ?_
      rintro e w3 ⟨rfl, l4, d4, rfl⟩
      go_wp2_with fail
      refine (Ha.out _ (by repeat (first | exact Ext.refl _ | exact Ext.pre (by simp) | exact Ext.alloc (by assumption) _ | refine Ext.alloc ?_ _ |  refine Ext.more ?_ _ _ | refine Ext.drew ?_ | refine Ext.drewN ?_ _))).out.mono ?_
      rintro e w3 ⟨rfl, rfl⟩
      go_wp2_with fail
      refine (awake22_ok _).mono ?_
      rintro e w3 ⟨rfl, l7, d7, rfl⟩
      go_wp2
      go_ret
      exact ⟨rfl, (by repeat (first | exact Ext.refl _ | exact Ext.pre (by simp) | exact Ext.alloc (by assumption) _ | refine Ext.alloc ?_ _ |  refine Ext.more ?_ _ _ | refine Ext.drew ?_ | refine Ext.drewN ?_ _))⟩
    · have hb : ib < 0 := by omega
      clear hno2
      go_enter Try.func9, Try.ntmps9
      go_wp2_with fail
      refine Hf.out.mono ?_
      rintro e w1 ⟨rfl, rfl⟩
      go_wp2_with fail
      refine (Hp.out _ (by repeat (first | exact Ext.refl _ | exact Ext.pre (by simp) | exact Ext.alloc (by assumption) _ | refine Ext.alloc ?_ _ |  refine Ext.more ?_ _ _ | refine Ext.drew ?_ | refine Ext.drewN ?_ _))).out.mono ?_
      rintro e w2 ⟨⟨A3, c3, rfl, g1, g2, g3⟩, l3, d3, rfl⟩
      clear g3
      go_wp2_with fail
      refine (Hc.out _ (by repeat (first | exact Ext.refl _ | exact Ext.pre (by simp) | exact Ext.alloc (by assumption) _ | refine Ext.alloc ?_ _ |  refine Ext.more ?_ _ _ | refine Ext.drew ?_ | refine Ext.drewN ?_ _))).out.mono ?_
      rintro e w3 ⟨rfl, l4, d4, rfl⟩
      go_wp2_with fail
      refine (Ha.out _ (by repeat (first | exact Ext.refl _ | exact Ext.pre (by simp) | exact Ext.alloc (by assumption) _ | refine Ext.alloc ?_ _ |  refine Ext.more ?_ _ _ | refine Ext.drew ?_ | refine Ext.drewN ?_ _))).out.mono ?_
      rintro e w3 ⟨rfl, rfl⟩
      go_wp2_with fail
      refine (Hb.out _ (by repeat (first | exact Ext.refl _ | exact Ext.pre (by simp) | exact Ext.alloc (by assumption) _ | refine Ext.alloc ?_ _ |  refine Ext.more ?_ _ _ | refine Ext.drew ?_ | refine Ext.drewN ?_ _))).out.mono ?_
      rintro e w3 ⟨rfl, rfl⟩
      go_wp2_with fail
      refine (awake22_ok _).mono ?_
      rintro e w3 ⟨rfl, l7, d7, rfl⟩
      go_wp2
      go_ret
      exact ⟨rfl, (by repeat (first | exact Ext.refl _ | exact Ext.pre (by simp) | exact Ext.alloc (by assumption) _ | refine Ext.alloc ?_ _ |  refine Ext.more ?_ _ _ | refine Ext.drew ?_ | refine Ext.drewN ?_ _))⟩

set_option maxRecDepth 10000 in
set_option maxHeartbeats 8000000 in
theorem lead_yes (h : Classes w A l) (hle : l.length ≤ 9223372036854775807) (hf : fewL l = true) (ho : okL l = true) (a b : Nat) (ha : a < l.length) (hb : b < l.length) (hx : (l[a]'ha).name = x) (hy : (l[b]'hb).name = y)
    (ea : atI l x = a) (eb : atI l y = b) :
    Calls Try.prog 9 #[.slice A l.length cap, encStr x, encStr y] w fun e w' => e = .returned (.bool true) ∧ Ext w w' := by
  have Hf := hide (few_ok A cap l w h hle)
  rw [hf] at Hf
  obtain ⟨hl, hs⟩ := (fewL_iff l).1 hf
  have HC := hide h
  have hso := (okL_sound ho).1
  have Hso := hide hso
  have Hp := hide (fun w' (e : Ext w w') => hide (sup_path A cap l x y w' (h.ext e) hl hs))
  have Hc := hide (fun w' (e : Ext w w') => hide (sup_check A cap l w' (h.ext e) hl hs))
  have Ha := hide (fun w' (e : Ext w w') => hide (ref_at22 A cap l x w' (h.ext e) hle))
  have Hb := hide (fun w' (e : Ext w w') => hide (ref_at22 A cap l y w' (h.ext e) hle))
  have Hal := hide (fun w' (e : Ext w w') => hide (sup_all A cap l x w' (h.ext e) hl hs))
  rw [ea] at Ha
  rw [eb] at Hb
  have hsome := pathL_some ho ha hb
  rw [hx, hy] at hsome
  have Hend : Hid (∀ p, pathL l x y = some p → endp (succC l) a p = some b ∧ p.length ≤ 9) := hide (fun p hp => by
    rcases pathL_end ho ha hb (p := p) (by rw [hx, hy]; exact hp) with h1 | h1
    · exact h1
    · omega)
  have hck : (checkL l).2 = 0 := by
    have h1 : ((checkL l).2 == 0) = okL l := rfl
    rw [ho] at h1
    simpa using h1
  have Hsome := hide hsome
  have Hx := hide hx
  have Hy := hide hy
  have ha0 : ¬ (a : Int) < 0 := by omega
  have hb0 : ¬ (b : Int) < 0 := by omega
  have Hs := hide hs
  clear h hf hs hso hsome ea eb hx hy
  generalize checkL l = R at *
  obtain ⟨ri, re⟩ := R
  simp only at hck
  subst hck
  generalize hP : pathL l x y = P at *
  clear hP
  obtain ⟨PL, hPL⟩ : ∃ PL, PL = P.getD [] := ⟨_, rfl⟩
  have hofN : ofNats P = PL.map Int.ofNat := by rw [hPL]; rfl
  rw [hofN] at Hp
  have HW : Hid (∀ i (hi : i < PL.length) c (hc : c < l.length), endp (succC l) a (PL.take i) = some c → ∃ (hk : PL[i]'hi < (l[c]'hc).sup.length) (d : Nat) (hd : d < l.length), (l[c]'hc).sup[PL[i]'hi]'hk = (l[d]'hd).name ∧ endp (succC l) a (PL.take (i + 1)) = some d) := hide (by
    intro i hi c hc he
    cases P with
    | none => simp at hPL; subst hPL; simp at hi
    | some p => simp at hPL; subst hPL; exact way_step Hso.out ha (Hend.out _ rfl).1 hi he hc)
  have HE : Hid (∀ c, endp (succC l) a PL = some c → P.isSome = true → c = b) := hide (by
    intro c hc hs
    cases P with
    | none => cases hs
    | some p => simp at hPL; subst hPL; have := (Hend.out _ rfl).1; rw [hc] at this; injection this)
  have hPl9 : PL.length ≤ 9 := by
    cases P with
    | none => simp at hPL; subst hPL; simp
    | some p => simp at hPL; subst hPL; exact (Hend.out _ rfl).2
  have hlm : (PL.map Int.ofNat).length = PL.length := by simp
  clear hPL hofN Hend
  generalize P.isSome = ps at *
  generalize allL l x = LX at *
  -- the value of the test
  cases hxy : (x == y) <;> cases hlx : LX.any (· == y)
  all_goals
    have hps := Hsome.out
    rw [hxy, hlx] at hps
    simp only [Bool.or_false, Bool.or_true, Bool.or_self] at hps
    subst hps
    have Hlx := hide hlx
    clear hlx Hsome
    go_enter Try.func9, Try.ntmps9
    go_wp2_with fail
    refine Hf.out.mono ?_
    rintro e w1 ⟨rfl, rfl⟩
    go_wp2_with fail
    refine (Hp.out _ (by repeat (first | exact Ext.refl _ | exact Ext.pre (by simp) | exact Ext.alloc (by assumption) _ | refine Ext.alloc ?_ _ |  refine Ext.more ?_ _ _ | refine Ext.drew ?_ | refine Ext.drewN ?_ _))).out.mono ?_
    rintro e w2 ⟨⟨A3, c3, rfl, g1, g2, g3⟩, hx3⟩
    have X3 : Hid (Ext w1 w2) := hide (Ext.trans (by repeat (first | exact Ext.refl _ | exact Ext.pre (by simp) | exact Ext.alloc (by assumption) _ | refine Ext.alloc ?_ _ |  refine Ext.more ?_ _ _ | refine Ext.drew ?_ | refine Ext.drewN ?_ _)) hx3)
    have G3 := hide g3
    rw [hlm] at g1
    clear g3 hx3
    go_wp2_with fail
    refine (Hc.out _ X3.out).out.mono ?_
    rintro e w3 ⟨rfl, l4, d4, rfl⟩
    go_wp2_with fail
    refine (Ha.out _ (X3.out.trans (by repeat (first | exact Ext.refl _ | exact Ext.pre (by simp) | exact Ext.alloc (by assumption) _ | refine Ext.alloc ?_ _ |  refine Ext.more ?_ _ _ | refine Ext.drew ?_ | refine Ext.drewN ?_ _)))).out.mono ?_
    rintro e w3 ⟨rfl, rfl⟩
    go_wp2_with fail
    refine (Hb.out _ (X3.out.trans (by repeat (first | exact Ext.refl _ | exact Ext.pre (by simp) | exact Ext.alloc (by assumption) _ | refine Ext.alloc ?_ _ |  refine Ext.more ?_ _ _ | refine Ext.drew ?_ | refine Ext.drewN ?_ _)))).out.mono ?_
    rintro e w3 ⟨rfl, rfl⟩
    go_wp2_with (first
      | (go_at_call 46
         refine Calls.mono (Hal.out _ ?e1).out ?_
         case e1 => (refine Ext.trans X3.out ?_; (repeat (first | exact Ext.refl _ | exact Ext.pre (by simp) | exact Ext.alloc (by assumption) _ | refine Ext.alloc ?_ _ | refine Ext.more ?_ _ _ | refine Ext.drew ?_ | refine Ext.drewN ?_ _)); done)
         rintro e w3 ⟨⟨A5, c5, rfl, g4, g5, g6⟩, l5, d5, rfl⟩
         simp only [more_more] at g6
         have G5 := hide g6
         clear g6)
      | (go_at_call 56
         refine Calls.mono (ref_has A5 c5 LX y _ (G5.out.ext (by repeat (first | exact Ext.refl _ | exact Ext.pre (by simp) | exact Ext.alloc (by assumption) _ | refine Ext.alloc ?_ _ |  refine Ext.more ?_ _ _ | refine Ext.drew ?_ | refine Ext.drewN ?_ _))) (by omega)) ?_
         rw [Hlx.out]
         rintro e w3 ⟨rfl, rfl⟩))
  all_goals
    go_loopw [11, 12] (fun u i wr => ∃ (k : Nat) (c : Nat) (hc : c < l.length), k ≤ PL.length ∧ i = .int .i64 k ∧ u = .string ⟨((l[c]'hc).name).toArray⟩ ∧ Hid (endp (succC l) a (PL.take k) = some c) ∧ Hid (Ext w2 wr)) (fun _ i _ => PL.length - (intOf i).toNat)
    case atStart => exact ⟨0, a, ha, Nat.zero_le _, rfl, by rw [Hx.out], hide rfl, hide (by repeat (first | exact Ext.refl _ | exact Ext.pre (by simp) | exact Ext.alloc (by assumption) _ | refine Ext.alloc ?_ _ |  refine Ext.more ?_ _ _ | refine Ext.drew ?_ | refine Ext.drewN ?_ _))⟩
    case round =>
      obtain ⟨k, c, hc, hk, rfl, rfl, HP, HX⟩ := hrel
      by_cases hlt : k < PL.length
      · obtain ⟨hkS, d, hd, hname, hend⟩ := HW.out k hlt c hc HP.out
        obtain ⟨b3, o3, rfl, hb3, z0⟩ := Ints.at_ (RowOf.ext intC G3.out HX.out) (i := k) (by rw [hlm]; exact hlt)
        obtain ⟨bl, ol, rfl, hbl, y0, y1, y2⟩ := (HC.out.ext (X3.out.trans HX.out)).at_ hc
        obtain ⟨bs, os, hAs, hbs, v0⟩ := ((HC.out.sup _ (List.getElem_mem hc)).ext (X3.out.trans HX.out)).at_ hkS
        have Hra := hide (ref_at22 (some ⟨bl, ol, none⟩) cap l (l[c]'hc).name wr (HC.out.ext (X3.out.trans HX.out)) hle)
        rw [Hso.out.at_ hc] at Hra
        have hsn : (l[c]'hc).sup.getD (PL[k]'hlt) [] = (l[d]'hd).name := by rw [← hname]; simp [hkS]
        rw [hsn] at v0
        have hz : (PL.map Int.ofNat)[k]'(by rw [hlm]; exact hlt) = ((PL[k]'hlt : Nat) : Int) := by simp
        rw [hz] at z0
        rw [hAs] at y1
        have HPe := hide hend
        have hpS : ¬ (((PL[k]'hlt : Nat) : Int) ≥ ((l[c]'hc).sup.length : Int)) := by omega
        have hpS2 : (((PL[k]'hlt : Nat) : Int) < ((l[c]'hc).sup.length : Int)) := by omega
        have hp0 : (0 : Int) ≤ ((PL[k]'hlt : Nat) : Int) := by omega
        have hp1 : decide (((PL[k]'hlt : Nat) : Int) < 0) = false := by simp
        have hlt' : (k : Int) < (PL.length : Int) := by omega
        have hk0 : (0 : Int) ≤ (k : Int) := by omega
        have hc0 : (0 : Int) ≤ (c : Int) := by omega
        have hc1 : (c : Int) < (l.length : Int) := by omega
        clear hname hend hsn hz y0 y2 hAs
        generalize (l[c]'hc).sup.length = sl at *
        generalize (l[c]'hc).cap = scap at *
        generalize (l[c]'hc).name = nc at *
        generalize PL[k]'hlt = pk at *
        go_wp2_with fail
        refine Hra.out.mono ?_
        rintro e w4 ⟨rfl, rfl⟩
        go_wp2
        go_quiet (fail)
        go_wp2
        go_quiet (fail)
        go_wp2
        go_roundw
        case rel => exact ⟨k + 1, d, hd, hlt, by go_num, rfl, HPe, hide (HX.out.trans (by repeat (first | exact Ext.refl _ | exact Ext.pre (by simp) | exact Ext.alloc (by assumption) _ | refine Ext.alloc ?_ _ |  refine Ext.more ?_ _ _ | refine Ext.drew ?_ | refine Ext.drewN ?_ _)))⟩
        case measure => simp [intOf]; omega
      · have hgek : (PL.length : Int) ≤ (k : Int) := by omega
        have hkt : PL.take k = PL := List.take_of_length_le (by omega)
        have hpe := HP.out
        rw [hkt] at hpe
        clear hkt
        by_cases hbb : c = b
        · subst hbb
          have hyy : ((l[c]'hc).name == y) = true := by rw [Hy.out]; simp
          clear hpe HE HW
          generalize (l[c]'hc).name = nc at *
          go_wp2_with fail
          refine (awake22_ok _).mono ?_
          rintro e w9 ⟨rfl, l9, d9, rfl⟩
          go_wp2
          go_ret
          exact ⟨rfl, X3.out.trans (HX.out.trans (by repeat (first | exact Ext.refl _ | exact Ext.pre (by simp) | exact Ext.alloc (by assumption) _ | refine Ext.alloc ?_ _ |  refine Ext.more ?_ _ _ | refine Ext.drew ?_ | refine Ext.drewN ?_ _)))⟩
        · first
            | exact absurd (HE.out c hpe trivial) hbb
            | exact absurd (HE.out c hpe rfl) hbb
            | (clear hpe HE HW
               go_wp2_with fail
               refine (awake22_ok _).mono ?_
               rintro e w9 ⟨rfl, l9, d9, rfl⟩
               go_wp2
               go_ret
               exact ⟨rfl, X3.out.trans (HX.out.trans (by repeat (first | exact Ext.refl _ | exact Ext.pre (by simp) | exact Ext.alloc (by assumption) _ | refine Ext.alloc ?_ _ |  refine Ext.more ?_ _ _ | refine Ext.drew ?_ | refine Ext.drewN ?_ _)))⟩)

set_option maxRecDepth 10000 in
set_option maxHeartbeats 1000000 in
theorem law_lead (h : Classes w A l) (hle : l.length ≤ 9223372036854775807) :
    Calls Try.prog 9 #[.slice A l.length cap, encStr x, encStr y] w fun e w' => e = .returned (.bool true) ∧ Ext w w' := by
  cases hf : fewL l
  · have Hf := hide (few_ok A cap l w h hle)
    rw [hf] at Hf
    clear h hle hf
    go_enter Try.func9, Try.ntmps9
    go_wp2_with fail
    refine Hf.out.mono ?_
    rintro e w1 ⟨rfl, rfl⟩
    go_wp2_with fail
    refine (awake22_ok _).mono ?_
    rintro e w1 ⟨rfl, l1, d1, rfl⟩
    go_wp2
    go_ret
    exact ⟨rfl, (by repeat (first | exact Ext.refl _ | exact Ext.pre (by simp) | exact Ext.alloc (by assumption) _ | refine Ext.alloc ?_ _ |  refine Ext.more ?_ _ _ | refine Ext.drew ?_ | refine Ext.drewN ?_ _))⟩
  · cases ho : okL l
    · exact lead_no A cap l x y w h hle hf (.inl ho)
    · rcases atI_cases l x with ⟨e1, _, _⟩ | ⟨a, ha, e1, _, ex⟩
      · exact lead_no A cap l x y w h hle hf (.inr (.inl (by rw [e1]; omega)))
      · rcases atI_cases l y with ⟨e2, _, _⟩ | ⟨b, hb, e2, _, ey⟩
        · exact lead_no A cap l x y w h hle hf (.inr (.inr (by rw [e2]; omega)))
        · exact lead_yes A cap l x y w h hle hf ho a b ha hb ex ey e1 e2
end

end Go.Proofs.Ytnegamkakdbhfaa
