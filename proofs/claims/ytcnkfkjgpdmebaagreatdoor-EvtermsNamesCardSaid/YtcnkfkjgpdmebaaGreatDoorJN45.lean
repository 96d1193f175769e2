/- Chapter 40's example in memory, and walked. (A program of ours has printed this.) -/
import Derived.Test.YtcnkfkjgpdmebaaGreatDoorJN44
import Derived.Deep.DeepCutAuto
/- Chapter 40's example in memory, and walked. (A program of ours has printed this.) -/
namespace Go.Proofs.YtcnkfkjgpdmebaaGreatDoor
open Go.RowKit

structure Ex40 (W : World) (b0 b1 b2 b3 b4 b5 b6 b7 b8 b9 : Nat) : Prop where
  d0 : W.heap[b0]? = some (.cells #[.string ⟨#[69, 113]⟩] 9 (0, 0))
  d1 : W.heap[b1]? = some (.cells #[.string ⟨#[69, 113]⟩, .slice none 0 0, .slice none 0 0, .string ⟨#[79, 114, 100]⟩, .slice (some ⟨b0, 0, none⟩) 1 1, .slice none 0 0] 70 (0, 0))
  d2 : W.heap[b2]? = some (.cells #[.string ⟨#[69, 113]⟩, .string ⟨#[]⟩, .int .i64 0, .slice none 0 0] 55 (0, 0))
  d3 : W.heap[b3]? = some (.cells #[.string ⟨#[69, 113]⟩, .string ⟨#[76]⟩, .int .i64 1, .slice (some ⟨b2, 0, none⟩) 1 1] 72 (0, 0))
  d4 : W.heap[b4]? = some (.cells #[.slice none 0 0, .slice (some ⟨b1, 0, none⟩) 2 2, .slice (some ⟨b3, 0, none⟩) 1 1] 26 (0, 0))
  d5 : W.heap[b5]? = some (.cells #[.string ⟨#[]⟩, .int .i64 0, .slice none 0 0] 53 (0, 0))
  d6 : W.heap[b6]? = some (.cells #[.int .i64 1, .int .i64 1, .slice none 0 0, .slice none 0 0] 34 (0, 0))
  d7 : W.heap[b7]? = some (.cells #[.int .i64 2, .int .i64 0, .slice none 0 0, .slice (some ⟨b6, 0, none⟩) 1 1] 34 (0, 0))
  d8 : W.heap[b8]? = some (.cells #[.int .i64 3, .int .i64 0, .slice (some ⟨b5, 0, none⟩) 1 1, .slice (some ⟨b7, 0, none⟩) 1 1] 34 (0, 0))
  d9 : W.heap[b9]? = some (.cells #[.string ⟨#[69, 113]⟩, .string ⟨#[]⟩, .int .i64 0, .slice none 0 0, .string ⟨#[79, 114, 100]⟩, .string ⟨#[]⟩, .int .i64 0, .slice none 0 0] 55 (0, 0))
theorem Ex40.ext {W W' : World} {b0 b1 b2 b3 b4 b5 b6 b7 b8 b9 : Nat} (h : Ex40 W b0 b1 b2 b3 b4 b5 b6 b7 b8 b9) (e : Ext W W') : Ex40 W' b0 b1 b2 b3 b4 b5 b6 b7 b8 b9 := ⟨(e.heap (lt_of_obj h.d0)).trans h.d0, (e.heap (lt_of_obj h.d1)).trans h.d1, (e.heap (lt_of_obj h.d2)).trans h.d2, (e.heap (lt_of_obj h.d3)).trans h.d3, (e.heap (lt_of_obj h.d4)).trans h.d4, (e.heap (lt_of_obj h.d5)).trans h.d5, (e.heap (lt_of_obj h.d6)).trans h.d6, (e.heap (lt_of_obj h.d7)).trans h.d7, (e.heap (lt_of_obj h.d8)).trans h.d8, (e.heap (lt_of_obj h.d9)).trans h.d9⟩
section
variable {W : World} {b0 b1 b2 b3 b4 b5 b6 b7 b8 b9 : Nat}
theorem Ex40.leaf (W : World) (n : Int) : PfIn W (gvE n) := .mk ⟨Nat.zero_le _, by show 0 ≤ 9223372036854775807; omega, Nat.zero_le _, by show 0 ≤ 9223372036854775807; omega, TysIn.nil _ _, RowOf.nil _ _ _⟩ (by intro k hk; cases hk)
theorem Ex40.p (h : Ex40 W b0 b1 b2 b3 b4 b5 b6 b7 b8 b9) : PfIn W (pE b5 b6 b7) := by
  have h1 : PfIn W (spE b6) := .mk ⟨Nat.zero_le _, by show 0 ≤ 9223372036854775807; omega, Nat.le_refl _, by show 1 ≤ 9223372036854775807; omega, TysIn.nil _ _, RowOf.block pfC [gvE 1] h.d6⟩ (all1F (Ex40.leaf W 1))
  exact .mk ⟨Nat.le_refl _, by show 1 ≤ 9223372036854775807; omega, Nat.le_refl _, by show 1 ≤ 9223372036854775807; omega, ⟨RowOf.block tyC [Ty.zero] h.d5, all1F (TyIn.zero W)⟩, RowOf.block pfC [spE b6] h.d7⟩ (all1F h1)
theorem Ex40.g (h : Ex40 W b0 b1 b2 b3 b4 b5 b6 b7 b8 b9) : PdsIn W (some ⟨b9, 0, none⟩) pdE := ⟨RowOf.block pdC pdE h.d9, fun x hx => by
  simp only [pdE, List.mem_cons, List.not_mem_nil, or_false] at hx
  rcases hx with rfl | rfl
  · exact ⟨by show 2 ≤ 1000000000000000000; omega, TyIn.zero W⟩
  · exact ⟨by show 3 ≤ 1000000000000000000; omega, TyIn.zero W⟩⟩
theorem Ex40.e (h : Ex40 W b0 b1 b2 b3 b4 b5 b6 b7 b8 b9) : EnIn W (enE b0 b1 b2 b3) := by
  have hS : Strs W (some ⟨b0, 0, none⟩) [[69, 113]] := strs_iff.2 (RowOf.block strC [[69, 113]] h.d0)
  have hK : KlsIn W (some ⟨b1, 0, none⟩) (clE b0) := ⟨RowOf.block klC (clE b0) h.d1, fun x hx => by
    simp only [clE, List.mem_cons, List.not_mem_nil, or_false] at hx
    rcases hx with rfl | rfl
    · exact ⟨by show 2 ≤ 1000000000000000000; omega, Nat.le_refl _, by show 0 ≤ 9223372036854775807; omega, strs_iff.2 (RowOf.nil _ _ _), by simp, Nat.le_refl _, by show 0 ≤ 9223372036854775807; omega, MesIn.nil _ _⟩
    · exact ⟨by show 3 ≤ 1000000000000000000; omega, Nat.le_refl _, by show 1 ≤ 9223372036854775807; omega, hS, all1F (by show 2 ≤ 1000000000000000000; omega), Nat.le_refl _, by show 0 ≤ 9223372036854775807; omega, MesIn.nil _ _⟩⟩
  have hP : PdsIn W (some ⟨b2, 0, none⟩) [⟨[69, 113], Ty.zero⟩] := ⟨RowOf.block pdC [⟨[69, 113], Ty.zero⟩] h.d2, all1F ⟨by show 2 ≤ 1000000000000000000; omega, TyIn.zero _⟩⟩
  have hI : InsIn W (some ⟨b3, 0, none⟩) (inE b2) := ⟨RowOf.block inC (inE b2) h.d3, all1F ⟨by show 2 ≤ 1000000000000000000; omega, by show 1 ≤ 1000000000000000000; omega, Nat.le_refl _, by show 1 ≤ 9223372036854775807; omega, hP⟩⟩
  exact ⟨Nat.le_refl _, by show 0 ≤ 9223372036854775807; omega, DasIn.nil _ _, Nat.le_refl _, by show 2 ≤ 9223372036854775807; omega, hK, Nat.le_refl _, by show 1 ≤ 9223372036854775807; omega, hI⟩
theorem enE_few (b0 b1 b2 b3 : Nat) : EnFew (enE b0 b1 b2 b3) pdE := ⟨by show 2 ≤ 1000000; omega, by show 2 ≤ 9; omega, fun c hc => by
  have hc : c ∈ clE b0 := hc
  simp only [clE, List.mem_cons, List.not_mem_nil, or_false] at hc
  rcases hc with rfl | rfl
  · show 0 ≤ 9; omega
  · show 1 ≤ 9; omega, by show 1 ≤ 1000000; omega, fun y hy => by
  have hy : y ∈ inE b2 := hy
  simp only [inE, List.mem_cons, List.not_mem_nil, or_false] at hy
  subst hy
  show 1 ≤ 40000; omega⟩
theorem names_two (f : Nat) (hf : f ≤ 1000) : (namesT 2 (f : Int)).length = 2 := by rw [namesE _ (by omega) (by omega)]; rfl
theorem e_namesE (f : Nat) (hf : f ≤ 1000) (w : World) : Calls Tryz.prog 20 #[.int .i64 2, .int .i64 (f : Int)] w fun e w' => (∃ A c, e = .returned (.slice A 2 c) ∧ TmsIn w' A (namesT 2 (f : Int))) ∧ Ext w w' := by
  have h := e_names 2 (f : Int) w
  rw [names_two f hf] at h
  refine h.mono ?_
  rintro e w' ⟨⟨A, c, h1, -, -, h2⟩, hx⟩
  exact ⟨⟨A, c, h1, h2⟩, hx⟩
theorem numE_away (k : Nat) {f n : Int} {g : Tm} (hg : g ∈ namesT n f) : AwayM k g := by
  unfold namesT at hg
  split at hg
  · cases hg
  · obtain ⟨i, -, rfl⟩ := List.mem_map.1 hg
    exact .mk (fun h => absurd rfl h) (fun h => absurd rfl h) (by intro x hx; cases hx) (fun h => absurd rfl h) (by intro x hx; cases hx)
theorem pE_away {k b5 b6 b7 : Nat} (h5 : k ≠ b5) (h6 : k ≠ b6) (h7 : k ≠ b7) : AwayF k (pE b5 b6 b7) := by
  have hg : AwayF k (gvE 1) := .mk (fun h => absurd rfl h) (by intro x hx; cases hx) (fun h => absurd rfl h) (by intro x hx; cases hx)
  have hs : AwayF k (spE b6) := .mk (fun h => absurd rfl h) (by intro x hx; cases hx) (fun _ a e => by injection e with e; subst e; exact fun h => h6 h.symm) (all1F hg)
  exact .mk (fun _ a e => by injection e with e; subst e; exact fun h => h5 h.symm) (all1F (awayB_mk (fun h => absurd rfl h) (by intro z hz; cases hz))) (fun _ a e => by injection e with e; subst e; exact fun h => h7 h.symm) (all1F hs)
theorem Ex40.term (h : Ex40 W b0 b1 b2 b3 b4 b5 b6 b7 b8 b9) {A : Option Addr} (c : Nat) (hA : TmsIn W A (namesT 2 ((5 : Nat) : Int))) {a0 a1 : Addr} (hgl : HGe W) (hev : EvGl W a0 a1) : Calls Tryz.prog 9 #[.agg #[.slice none 0 0, .slice (some ⟨b1, 0, none⟩) 2 2, .slice (some ⟨b3, 0, none⟩) 1 1], .slice (some ⟨b9, 0, none⟩) 2 2, .slice A 2 c, .agg #[.int .i64 3, .int .i64 0, .slice (some ⟨b5, 0, none⟩) 1 1, .slice (some ⟨b7, 0, none⟩) 1 1]] W fun e w' => (∃ t, e = .returned (.tuple #[tmV t, .int .i64 0]) ∧ TmIn w' t ∧ t.pure = tE ∧ ∀ k, k < W.heap.size → k ≠ b5 → k ≠ b6 → k ≠ b7 → AwayM k t) ∧ Ext W w' := by
  have hev2 := evE_p b0 b2 b5 b6 b7
  have hpr := prvE_p b0 b2 b5 b6 b7
  have hl := names_two 5 (by omega)
  have hc := e_term (enE b0 b1 b2 b3) (some ⟨b9, 0, none⟩) 2 pdE A c (namesT 2 ((5 : Nat) : Int)) (enE_few b0 b1 b2 b3).pl (pE b5 b6 b7) a0 a1 W h.e h.g hA h.p hgl hev (fun _ _ t ht => by
    have ht : t.pure = tE := ht.trans hev2
    obtain ⟨k1, k2, -⟩ := tE_facts ht
    exact ⟨k1, k2⟩)
  rw [hl] at hc
  refine hc.mono ?_
  rintro e w' ⟨⟨t, n, rfl, hw⟩, hx⟩
  rcases hw.out with ⟨-, -, h1 | ⟨-, h1⟩⟩ | ⟨-, -, u, hu, h1⟩
  · exact absurd hl.symm h1
  · have h1 : prv (clE b0) (inE b2) pdE (pE b5 b6 b7) = none := h1
    rw [hpr] at h1; cases h1
  · have hu : u.pure = tE := hu.trans hev2
    rcases h1 with ⟨rfl, rfl, -⟩ | ⟨-, -, h2⟩
    · exact ⟨⟨t, rfl, hw.inn, hu, fun k h0 h5 h6 h7 => hw.away k h0 (fun g hg => numE_away k hg) (pE_away h5 h6 h7)⟩, hx⟩
    · rw [(tE_facts hu).2.2.1] at h2; cases h2
def qdE : List Pd := [⟨[69, 113], Ty.zero⟩, ⟨[88], Ty.zero⟩]
theorem gvE_of {p : Pf} (h : p.pure = .mk 1 0 [] []) : p.kind = 1 ∧ p.n = 0 ∧ p.types = [] ∧ p.kids = [] := by
  rw [Pf.pure_eq] at h
  injection h with h1 h2 h3 h4
  exact ⟨h1, h2, nil_of h3, nil_of h4⟩
theorem gvE_prv (b0 b2 : Nat) {p : Pf} (h : p.pure = .mk 1 0 [] []) : (prv (clE b0) (inE b2) pdE p).isSome = true := by
  obtain ⟨k1, k2, k3, k4⟩ := gvE_of h
  obtain ⟨k, n, T, tc, ts, A, c, l⟩ := p
  have k1 : k = 1 := k1
  have k2 : n = 0 := k2
  have k3 : ts = [] := k3
  have k4 : l = [] := k4
  subst k1 k2 k3 k4
  rw [prv_eq]
  have h : prv0 (clE b0) (inE b2) pdE (.mk 1 0 T tc [] A c []) ((Pf.mk 1 0 T tc [] A c []).kids.map (prv (clE b0) (inE b2) pdE)) = some ⟨[69, 113], Ty.zero⟩ := rfl
  rw [h, Option.filter_some, if_pos]
  · rfl
  show (conB [69, 113] && legalT Ty.zero) = true
  rw [zeroE_legal]
  rfl
theorem gvE_ev (b0 b2 : Nat) {p : Pf} (h : p.pure = .mk 1 0 [] []) : evP (clE b0) (inE b2) pdE ((namesT 2 ((0 : Nat) : Int)).map Tm.pure) p = .mk 1 0 (([35] : Str) ++ digs 0) [] [] [] := by
  obtain ⟨k1, k2, k3, k4⟩ := gvE_of h
  rw [ev_given k1 (n := 0) k2 (by rw [names_two 0 (by omega)]; omega)]
  have : (namesT 2 ((0 : Nat) : Int))[0]'(by rw [names_two 0 (by omega)]; omega) = numT ((0 : Nat) : Int) := by simp [namesE 0 (by decide) (by decide)]
  rw [this, numE_pure]
theorem varE_facts {t : Tm} {s : Str} (h : t.pure = .mk 1 0 s [] [] []) (hs : (s == []) = false) : FewM t ∧ t.size ≤ 100000 ∧ legalM t = true := by
  obtain ⟨h1, h2, -⟩ := exV_size h
  have h3 := exV_tb h hs
  obtain ⟨V, vc, T, tc, A, cap, rfl⟩ := exV_of h
  refine ⟨.mk (by show 0 ≤ 10000; omega) (fun y hy => by cases hy) (by show 0 ≤ 1000000; omega) (by show 0 ≤ 10000; omega) (fun y hy => by cases hy), by omega, ?_⟩
  unfold legalM
  rw [h1, h2, h3]
  rfl
theorem Ex40.all (h : Ex40 W b0 b1 b2 b3 b4 b5 b6 b7 b8 b9) {A : Option Addr} (c : Nat) (hA : TmsIn W A (namesT 2 ((0 : Nat) : Int))) {a0 a1 : Addr} (hgl : HGe W) (hev : EvGl W a0 a1) {g : Nat} (hg : W.heap[g]? = some (.cells #[.string ⟨#[69, 113]⟩, .string ⟨#[]⟩, .int .i64 0, .slice none 0 0, .string ⟨#[88]⟩, .string ⟨#[]⟩, .int .i64 0, .slice none 0 0] 55 (0, 0))) : Calls Tryz.prog 17 #[.agg #[.slice none 0 0, .slice (some ⟨b1, 0, none⟩) 2 2, .slice (some ⟨b3, 0, none⟩) 1 1], .slice (some ⟨b9, 0, none⟩) 2 2, .slice A 2 c, .slice (some ⟨g, 0, none⟩) 2 2] W fun e w' => e = .returned (.tuple #[.slice none 0 0, .int .i64 1, .int .i64 16]) ∧ Ext W w' := by
  have hl := names_two 0 (by omega)
  have d0 : (([35] : Str) ++ digs 0 == []) = false := by rw [show digs 0 = [48] by kernel_rfl]; rfl
  have hq : PdsIn W (some ⟨g, 0, none⟩) qdE := ⟨RowOf.block pdC qdE hg, fun x hx => by
    simp only [qdE, List.mem_cons, List.not_mem_nil, or_false] at hx
    rcases hx with rfl | rfl
    · exact ⟨by show 2 ≤ 1000000000000000000; omega, TyIn.zero W⟩
    · exact ⟨by show 1 ≤ 1000000000000000000; omega, TyIn.zero W⟩⟩
  have hb0 := byE_eq b0 b2
  have hb1 := byE_x b0 b2
  have hc := e_all (enE b0 b1 b2 b3) (some ⟨b9, 0, none⟩) 2 pdE A c (namesT 2 ((0 : Nat) : Int)) (some ⟨g, 0, none⟩) 2 qdE (enE_few b0 b1 b2 b3) a0 a1 W h.e h.g hA hq (by show 2 ≤ 1000000; omega) hgl hev (fun q hq p hp _ _ _ t ht => by
    simp only [qdE, List.mem_cons, List.not_mem_nil, or_false] at hq
    rcases hq with rfl | rfl
    · have hp : p.pure = .mk 1 0 [] [] := by
        have hp : byE (clE b0) (inE b2) pdE ⟨[69, 113], Ty.zero⟩ = .ok p.pure := hp
        rw [hb0] at hp; injection hp with hp; exact hp.symm
      obtain ⟨f1, f2, -⟩ := varE_facts (ht.trans (gvE_ev b0 b2 hp)) d0
      exact ⟨f1, f2⟩
    · have hp : byE (clE b0) (inE b2) pdE ⟨[88], Ty.zero⟩ = .ok p.pure := hp
      rw [hb1] at hp; cases hp)
  rw [hl] at hc
  refine hc.mono ?_
  rintro e w' ⟨⟨v, rfl, hv⟩, hx⟩
  have hx1 : ∀ t, ¬ OneOk (clE b0) (inE b2) pdE (namesT 2 ((0 : Nat) : Int)) ⟨[88], Ty.zero⟩ t := fun t ⟨p, u, h1, _⟩ => by rw [hb1] at h1; cases h1
  rcases hv with ⟨A', c', ts, -, -, -, -, hlen, hall⟩ | ⟨k, n, rfl, hn, hk, hok, herr⟩
  · exact absurd (hall 1 (by show 1 < 2; omega) (by rw [hlen]; show 1 < 2; omega)) (hx1 _)
  · have hk : k < 2 := hk
    match k, hk with
    | 0, _ =>
      exfalso
      rcases herr with he | ⟨p, t, m, w1, w2, he, hw, hm, -⟩
      · have he : byE (clE b0) (inE b2) pdE ⟨[69, 113], Ty.zero⟩ = .error n := he
        rw [hb0] at he; cases he
      · have he : byE (clE b0) (inE b2) pdE ⟨[69, 113], Ty.zero⟩ = .ok p.pure := he
        rw [hb0] at he
        injection he with he
        have hp := gvE_prv b0 b2 he.symm
        rcases hw.out with ⟨-, -, h1 | ⟨-, h1⟩⟩ | ⟨-, -, u, hu, ⟨h1, -⟩ | ⟨-, -, h2⟩⟩
        · exact h1 hl.symm
        · have h1 : prv (clE b0) (inE b2) pdE p = none := h1
          rw [h1] at hp; cases hp
        · exact hm h1
        · rw [(varE_facts (hu.trans (gvE_ev b0 b2 he.symm)) d0).2.2] at h2; cases h2
    | 1, _ =>
      rcases herr with he | ⟨p, t, m, w1, w2, he, hw, hm, -⟩
      · have he : byE (clE b0) (inE b2) pdE ⟨[88], Ty.zero⟩ = .error n := he
        rw [hb1] at he
        injection he with he
        subst he
        exact ⟨rfl, hx⟩
      · have he : byE (clE b0) (inE b2) pdE ⟨[88], Ty.zero⟩ = .ok p.pure := he
        rw [hb1] at he; cases he
theorem Ex40.types (h : Ex40 W b0 b1 b2 b3 b4 b5 b6 b7 b8 b9) : Calls Tryz.prog 13 #[.slice (some ⟨b9, 0, none⟩) 2 2] W fun e w' => (∃ A c d0 d1, e = .returned (.slice A 2 c) ∧ TysIn w' A [d0, d1] ∧ d1.pure = dictP [79, 114, 100] Ty.zero.pure) ∧ Ext W w' := by
  refine (e_types (some ⟨b9, 0, none⟩) 2 pdE W h.g (by show 2 ≤ 1000000; omega) (fun p hp => (h.g.all p hp).cls)).mono ?_
  rintro e w' ⟨⟨A, c, ds, rfl, -, -, hT, hd⟩, hx⟩
  have hd : ds.map Ty.pure = [dictP [69, 113] Ty.zero.pure, dictP [79, 114, 100] Ty.zero.pure] := hd
  obtain ⟨d0, d1, rfl, -, h1⟩ := two_of hd
  exact ⟨⟨A, c, d0, d1, rfl, hT, h1⟩, hx⟩
theorem dictE_text {d : Ty} (hp : d.pure = dictP [79, 114, 100] Ty.zero.pure) (hd : TyIn W d) : Calls Tryz.prog 27 #[.agg #[.slice none 0 0, encStr d.con, .int .i64 d.var, .slice d.A d.args.length d.cap]] W fun e w' => e = .returned (.string ⟨#[123, 79, 114, 100, 125, 32, 97]⟩) ∧ Ext W w' := by
  have e : ∃ A c A1 c1, d = .mk [123, 79, 114, 100, 125] 0 A c [.mk [] 0 A1 c1 []] := by
    rw [zeroE_pure] at hp
    obtain ⟨s, v, A, c, l⟩ := d
    rw [Ty.pure_eq] at hp
    injection hp with h1 h2 h3
    have h1 : s = [123, 79, 114, 100, 125] := h1
    have h2 : v = 0 := h2
    have h3 : l.map Ty.pure = [.mk [] 0 []] := h3
    obtain ⟨x, rfl, hx⟩ := one_of h3
    obtain ⟨A1, c1, rfl⟩ := ty_of hx
    subst h1 h2
    exact ⟨A, c, A1, c1, rfl⟩
  obtain ⟨A, c, A1, c1, rfl⟩ := e
  have h := f_Text0 ⟨[], none, 0, .mk [123, 79, 114, 100, 125] 0 A c [.mk [] 0 A1 c1 []]⟩ W ⟨Nat.zero_le _, by show 0 ≤ 9223372036854775807; omega, RowOf.nil _ _ _, hd⟩ (by kernel_rfl) (by show 2 ≤ 20000; omega) rfl
  have hs : polyS ⟨[], none, 0, .mk [123, 79, 114, 100, 125] 0 A c [.mk [] 0 A1 c1 []]⟩ = [123, 79, 114, 100, 125, 32, 97] := by
    unfold polyS
    rw [show legalD (Ty.mk [123, 79, 114, 100, 125] 0 A c [.mk [] 0 A1 c1 []]) = true by kernel_rfl, if_pos rfl, if_pos rfl]
    kernel_rfl
  rw [hs] at h
  exact h
theorem tE_text {t : Tm} (hp : t.pure = tE) (ht : TmIn W t) : Calls Tryz.prog 26 #[.agg #[.int .i64 t.kind, .int .i64 t.n, .string ⟨t.name.toArray⟩, .slice t.V t.vars.length t.vc, .slice t.T t.types.length t.tc, .slice t.A t.kids.length t.cap]] W fun e w' => e = .returned (.string ⟨#[40, 40, 64, 69, 113, 64, 76, 32, 91, 97, 93, 41, 32, 40, 35, 54, 46, 79, 114, 100, 46, 48, 41, 41]⟩) ∧ Ext W w' := by
  obtain ⟨f1, f2, f3, f4⟩ := tE_facts hp
  exact m_text t _ f4 f3 f1 f2 W ht
end

end Go.Proofs.YtcnkfkjgpdmebaaGreatDoor

/- Contract: chapter 40's example. (A program of ours has printed this.) -/
namespace Go.Proofs.YtcnkfkjgpdmebaaGreatDoor
open Go.RowKit

/-- A term's box, made behind. -/
structure TmAt (W wx : World) (b : Nat) (t : Tm) : Prop where
  x : Ext W wx
  box : TmBox wx b t
  inn : TmIn wx t
theorem TmAt.behind {W y : World} {t : Tm} (e : Ext W y) (h : TmIn y t) : TmAt W (y.alloc (.cells #[.int .i64 t.kind, .int .i64 t.n, encStr t.name, .slice t.V t.vars.length t.vc, .slice t.T t.types.length t.tc, .slice t.A t.kids.length t.cap] 40)) y.heap.size t := ⟨e.alloc _, TmBox.new y t, h.ext ((Ext.refl _).alloc _)⟩
theorem TmAt.ahead {W y : World} {t : Tm} {B : Nat} {v0 v1 v2 v3 v4 v5 : Value} (e : Ext W y) (hB : W.heap.size ≤ B) (hz : y.heap[B]? = some (.cells #[v0, v1, v2, v3, v4, v5] 40 (0, 0))) (h : TmIn y t) (ha : AwayM B t) :
    TmAt W ((((((y.setCell ⟨B, 0, none⟩ (.int .i64 t.kind)).setCell ⟨B, 1, none⟩ (.int .i64 t.n)).setCell ⟨B, 2, none⟩ (encStr t.name)).setCell ⟨B, 3, none⟩ (.slice t.V t.vars.length t.vc)).setCell ⟨B, 4, none⟩ (.slice t.T t.types.length t.tc)).setCell ⟨B, 5, none⟩ (.slice t.A t.kids.length t.cap)) B t :=
  ⟨putTm_ext e hB t, putTm_box t hz, h.grown (putTm_grown y B t) (fun c e => by injection e with e; subst e; exact ha)⟩
set_option maxRecDepth 10000 in
set_option maxHeartbeats 4000000 in
theorem l_awake40 (a0 a1 : Addr) (w : World) (hgl : HGe w) (hev : EvGl w a0 a1) : Calls Tryz.prog 8 #[] w fun e w' => e = .returned (.bool true) ∧ Ext w w' := by
  obtain ⟨W, hW⟩ : ∃ W, W = ((((((((((w.alloc (.cells #[.string ⟨#[69, 113]⟩] 9)).alloc (.cells #[.string ⟨#[69, 113]⟩, .slice none 0 0, .slice none 0 0, .string ⟨#[79, 114, 100]⟩, .slice (some ⟨w.heap.size, 0, none⟩) 1 1, .slice none 0 0] 70)).alloc (.cells #[.string ⟨#[69, 113]⟩, .string ⟨#[]⟩, .int .i64 0, .slice none 0 0] 55)).alloc (.cells #[.string ⟨#[69, 113]⟩, .string ⟨#[76]⟩, .int .i64 1, .slice (some ⟨w.heap.size + 1 + 1, 0, none⟩) 1 1] 72)).alloc (.cells #[.slice none 0 0, .slice (some ⟨w.heap.size + 1, 0, none⟩) 2 2, .slice (some ⟨w.heap.size + 1 + 1 + 1, 0, none⟩) 1 1] 26)).alloc (.cells #[.string ⟨#[]⟩, .int .i64 0, .slice none 0 0] 53)).alloc (.cells #[.int .i64 1, .int .i64 1, .slice none 0 0, .slice none 0 0] 34)).alloc (.cells #[.int .i64 2, .int .i64 0, .slice none 0 0, .slice (some ⟨w.heap.size + 1 + 1 + 1 + 1 + 1 + 1, 0, none⟩) 1 1] 34)).alloc (.cells #[.int .i64 3, .int .i64 0, .slice (some ⟨w.heap.size + 1 + 1 + 1 + 1 + 1, 0, none⟩) 1 1, .slice (some ⟨w.heap.size + 1 + 1 + 1 + 1 + 1 + 1 + 1, 0, none⟩) 1 1] 34)).alloc (.cells #[.string ⟨#[69, 113]⟩, .string ⟨#[]⟩, .int .i64 0, .slice none 0 0, .string ⟨#[79, 114, 100]⟩, .string ⟨#[]⟩, .int .i64 0, .slice none 0 0] 55)) := ⟨_, rfl⟩
  have HW := hide hW.symm
  have X0 : Hid (Ext w W) := hide (by rw [hW]; exact (((((((((((Ext.refl _).alloc _).alloc _).alloc _).alloc _).alloc _).alloc _).alloc _).alloc _).alloc _).alloc _))
  have b0 : W.heap[w.heap.size]? = some (.cells #[.string ⟨#[69, 113]⟩] 9 (0, 0)) := by rw [hW]; exact (Ext.heap ((((((((((Ext.refl _).alloc _).alloc _).alloc _).alloc _).alloc _).alloc _).alloc _).alloc _).alloc _) (by simp)).trans (at_newB _ _ _ (by simp))
  have b1 : W.heap[w.heap.size + 1]? = some (.cells #[.string ⟨#[69, 113]⟩, .slice none 0 0, .slice none 0 0, .string ⟨#[79, 114, 100]⟩, .slice (some ⟨w.heap.size, 0, none⟩) 1 1, .slice none 0 0] 70 (0, 0)) := by rw [hW]; exact (Ext.heap (((((((((Ext.refl _).alloc _).alloc _).alloc _).alloc _).alloc _).alloc _).alloc _).alloc _) (by simp)).trans (at_newB _ _ _ (by simp))
  have b2 : W.heap[w.heap.size + 1 + 1]? = some (.cells #[.string ⟨#[69, 113]⟩, .string ⟨#[]⟩, .int .i64 0, .slice none 0 0] 55 (0, 0)) := by rw [hW]; exact (Ext.heap ((((((((Ext.refl _).alloc _).alloc _).alloc _).alloc _).alloc _).alloc _).alloc _) (by simp)).trans (at_newB _ _ _ (by simp))
  have b3 : W.heap[w.heap.size + 1 + 1 + 1]? = some (.cells #[.string ⟨#[69, 113]⟩, .string ⟨#[76]⟩, .int .i64 1, .slice (some ⟨w.heap.size + 1 + 1, 0, none⟩) 1 1] 72 (0, 0)) := by rw [hW]; exact (Ext.heap (((((((Ext.refl _).alloc _).alloc _).alloc _).alloc _).alloc _).alloc _) (by simp)).trans (at_newB _ _ _ (by simp))
  have b4 : W.heap[w.heap.size + 1 + 1 + 1 + 1]? = some (.cells #[.slice none 0 0, .slice (some ⟨w.heap.size + 1, 0, none⟩) 2 2, .slice (some ⟨w.heap.size + 1 + 1 + 1, 0, none⟩) 1 1] 26 (0, 0)) := by rw [hW]; exact (Ext.heap ((((((Ext.refl _).alloc _).alloc _).alloc _).alloc _).alloc _) (by simp)).trans (at_newB _ _ _ (by simp))
  have b5 : W.heap[w.heap.size + 1 + 1 + 1 + 1 + 1]? = some (.cells #[.string ⟨#[]⟩, .int .i64 0, .slice none 0 0] 53 (0, 0)) := by rw [hW]; exact (Ext.heap (((((Ext.refl _).alloc _).alloc _).alloc _).alloc _) (by simp)).trans (at_newB _ _ _ (by simp))
  have b6 : W.heap[w.heap.size + 1 + 1 + 1 + 1 + 1 + 1]? = some (.cells #[.int .i64 1, .int .i64 1, .slice none 0 0, .slice none 0 0] 34 (0, 0)) := by rw [hW]; exact (Ext.heap ((((Ext.refl _).alloc _).alloc _).alloc _) (by simp)).trans (at_newB _ _ _ (by simp))
  have b7 : W.heap[w.heap.size + 1 + 1 + 1 + 1 + 1 + 1 + 1]? = some (.cells #[.int .i64 2, .int .i64 0, .slice none 0 0, .slice (some ⟨w.heap.size + 1 + 1 + 1 + 1 + 1 + 1, 0, none⟩) 1 1] 34 (0, 0)) := by rw [hW]; exact (Ext.heap (((Ext.refl _).alloc _).alloc _) (by simp)).trans (at_newB _ _ _ (by simp))
  have b8 : W.heap[w.heap.size + 1 + 1 + 1 + 1 + 1 + 1 + 1 + 1]? = some (.cells #[.int .i64 3, .int .i64 0, .slice (some ⟨w.heap.size + 1 + 1 + 1 + 1 + 1, 0, none⟩) 1 1, .slice (some ⟨w.heap.size + 1 + 1 + 1 + 1 + 1 + 1 + 1, 0, none⟩) 1 1] 34 (0, 0)) := by rw [hW]; exact (Ext.heap ((Ext.refl _).alloc _) (by simp)).trans (at_newB _ _ _ (by simp))
  have b9 : W.heap[w.heap.size + 1 + 1 + 1 + 1 + 1 + 1 + 1 + 1 + 1]? = some (.cells #[.string ⟨#[69, 113]⟩, .string ⟨#[]⟩, .int .i64 0, .slice none 0 0, .string ⟨#[79, 114, 100]⟩, .string ⟨#[]⟩, .int .i64 0, .slice none 0 0] 55 (0, 0)) := by rw [hW]; exact at_newB _ _ _ (by simp)
  have HX0 : Hid (Ex40 W (w.heap.size) (w.heap.size + 1) (w.heap.size + 1 + 1) (w.heap.size + 1 + 1 + 1) (w.heap.size + 1 + 1 + 1 + 1) (w.heap.size + 1 + 1 + 1 + 1 + 1) (w.heap.size + 1 + 1 + 1 + 1 + 1 + 1) (w.heap.size + 1 + 1 + 1 + 1 + 1 + 1 + 1) (w.heap.size + 1 + 1 + 1 + 1 + 1 + 1 + 1 + 1) (w.heap.size + 1 + 1 + 1 + 1 + 1 + 1 + 1 + 1 + 1)) := hide ⟨b0, b1, b2, b3, b4, b5, b6, b7, b8, b9⟩
  clear b0 b1 b2 b3 b4 b5 b6 b7 b8 b9 hW
  have HX := hide (fun w' (e : Ext W w') => HX0.out.ext e)
  have HG := hide (fun w' (e : Ext W w') => hgl.ext (X0.out.trans e))
  have HV := hide (fun w' (e : Ext W w') => hev.ext (X0.out.trans e))
  clear HX0 hgl hev
  have HSS : Hid (∀ w', Ext W w' → w'.cell? ⟨w.heap.size + 1 + 1 + 1 + 1, 0, none⟩ = some (.slice none 0 0) ∧ w'.cell? ⟨w.heap.size + 1 + 1 + 1 + 1, 1, none⟩ = some (.slice (some ⟨w.heap.size + 1, 0, none⟩) 2 2) ∧ w'.cell? ⟨w.heap.size + 1 + 1 + 1 + 1, 2, none⟩ = some (.slice (some ⟨w.heap.size + 1 + 1 + 1, 0, none⟩) 1 1) ∧ w'.cell? ⟨w.heap.size + 1 + 1 + 1 + 1 + 1 + 1 + 1 + 1, 0, none⟩ = some (.int .i64 3) ∧ w'.cell? ⟨w.heap.size + 1 + 1 + 1 + 1 + 1 + 1 + 1 + 1, 1, none⟩ = some (.int .i64 0) ∧ w'.cell? ⟨w.heap.size + 1 + 1 + 1 + 1 + 1 + 1 + 1 + 1, 2, none⟩ = some (.slice (some ⟨w.heap.size + 1 + 1 + 1 + 1 + 1, 0, none⟩) 1 1) ∧ w'.cell? ⟨w.heap.size + 1 + 1 + 1 + 1 + 1 + 1 + 1 + 1, 3, none⟩ = some (.slice (some ⟨w.heap.size + 1 + 1 + 1 + 1 + 1 + 1 + 1, 0, none⟩) 1 1)) := hide (fun w' e => ⟨bytes_block (HX.out w' e).d4 0, bytes_block (HX.out w' e).d4 1, bytes_block (HX.out w' e).d4 2, bytes_block (HX.out w' e).d8 0, bytes_block (HX.out w' e).d8 1, bytes_block (HX.out w' e).d8 2, bytes_block (HX.out w' e).d8 3⟩)
  obtain ⟨s0, s1, s2, s3, s4, s5, s6⟩ := HSS.out W (Ext.refl W)
  have l4 : w.heap.size + 1 + 1 + 1 + 1 < W.heap.size := lt_of_obj (HX.out W (Ext.refl W)).d4
  have l8 : w.heap.size + 1 + 1 + 1 + 1 + 1 + 1 + 1 + 1 < W.heap.size := lt_of_obj (HX.out W (Ext.refl W)).d8
  have hn4 : w.heap.size + 1 + 1 + 1 + 1 ≠ W.heap.size := by omega
  have hn8 : w.heap.size + 1 + 1 + 1 + 1 + 1 + 1 + 1 + 1 ≠ W.heap.size := by omega
  go_enter Tryz.func8, Tryz.ntmps8
  go_upto_region 4 with fail
  rw [HW.out]
  clear HW
  go_cut [4, 5] (fun s4 s5 wx => ∃ (b4 : Nat) (t : Tm), s4 = .pointer (some ⟨b4, 0, none⟩) ∧ s5 = .int .i64 0 ∧ Hid (TmAt W wx b4 t) ∧ Hid (t.pure = tE))
  case first =>
    go_region_held3 (fun w' => w'.cell? ⟨w.heap.size + 1 + 1 + 1 + 1, 0, none⟩ = some (.slice none 0 0) ∧ w'.cell? ⟨w.heap.size + 1 + 1 + 1 + 1, 1, none⟩ = some (.slice (some ⟨w.heap.size + 1, 0, none⟩) 2 2) ∧ w'.cell? ⟨w.heap.size + 1 + 1 + 1 + 1, 2, none⟩ = some (.slice (some ⟨w.heap.size + 1 + 1 + 1, 0, none⟩) 1 1) ∧ w'.cell? ⟨w.heap.size + 1 + 1 + 1 + 1 + 1 + 1 + 1 + 1, 0, none⟩ = some (.int .i64 3) ∧ w'.cell? ⟨w.heap.size + 1 + 1 + 1 + 1 + 1 + 1 + 1 + 1, 1, none⟩ = some (.int .i64 0) ∧ w'.cell? ⟨w.heap.size + 1 + 1 + 1 + 1 + 1 + 1 + 1 + 1, 2, none⟩ = some (.slice (some ⟨w.heap.size + 1 + 1 + 1 + 1 + 1, 0, none⟩) 1 1) ∧ w'.cell? ⟨w.heap.size + 1 + 1 + 1 + 1 + 1 + 1 + 1 + 1, 3, none⟩ = some (.slice (some ⟨w.heap.size + 1 + 1 + 1 + 1 + 1 + 1 + 1, 0, none⟩) 1 1)) (first | with_reducible assumption | (obtain ⟨g0, g1, g2, g3, g4, g5, g6⟩ := kS; with_reducible exact ⟨cell6e hm4 _ _ _ _ _ _ g0, cell6e hm4 _ _ _ _ _ _ g1, cell6e hm4 _ _ _ _ _ _ g2, cell6e hm8 _ _ _ _ _ _ g3, cell6e hm8 _ _ _ _ _ _ g4, cell6e hm8 _ _ _ _ _ _ g5, cell6e hm8 _ _ _ _ _ _ g6⟩) | go_keep) (first
      | (go_at_call 20
         refine Calls.mono (e_namesE 5 (by decide) _) ?_
         rintro e y1 ⟨⟨A, c, rfl, hA⟩, hx1⟩
         have E1 : Hid (Ext W y1) := hide (by refine Ext.trans ?_ hx1; exact (by repeat (first | exact Ext.refl _ | exact Ext.pre (by simp) | exact Ext.alloc (by assumption) _ | refine Ext.alloc ?_ _ |  refine Ext.more ?_ _ _ | refine Ext.drew ?_ | refine Ext.drewN ?_ _)))
         have HA := hide hA
         have kS := HSS.out y1 E1.out
         (try (have hz1 := hide ((hx1.heap (lt_of_obj (at_newD W _))).trans (at_newD W _))))
         clear hA hx1)
      | (go_at_call 9
         refine Calls.mono ((HX.out _ (E1.out.trans (by repeat (first | exact Ext.refl _ | exact Ext.pre (by simp) | exact Ext.alloc (by assumption) _ | refine Ext.alloc ?_ _ |  refine Ext.more ?_ _ _ | refine Ext.drew ?_ | refine Ext.drewN ?_ _)))).term c (HA.out.ext (by repeat (first | exact Ext.refl _ | exact Ext.pre (by simp) | exact Ext.alloc (by assumption) _ | refine Ext.alloc ?_ _ |  refine Ext.more ?_ _ _ | refine Ext.drew ?_ | refine Ext.drewN ?_ _))) (HG.out _ (E1.out.trans (by repeat (first | exact Ext.refl _ | exact Ext.pre (by simp) | exact Ext.alloc (by assumption) _ | refine Ext.alloc ?_ _ |  refine Ext.more ?_ _ _ | refine Ext.drew ?_ | refine Ext.drewN ?_ _)))) (HV.out _ (E1.out.trans (by repeat (first | exact Ext.refl _ | exact Ext.pre (by simp) | exact Ext.alloc (by assumption) _ | refine Ext.alloc ?_ _ |  refine Ext.more ?_ _ _ | refine Ext.drew ?_ | refine Ext.drewN ?_ _))))) ?_
         rintro e y2 ⟨⟨t, rfl, ht, hp, haw⟩, hx2⟩
         have Ec : Hid (Ext y1 y2) := hide (by refine Ext.trans ?_ hx2; exact (by repeat (first | exact Ext.refl _ | exact Ext.pre (by simp) | exact Ext.alloc (by assumption) _ | refine Ext.alloc ?_ _ |  refine Ext.more ?_ _ _ | refine Ext.drew ?_ | refine Ext.drewN ?_ _)))
         have kS := HSS.out y2 (E1.out.trans Ec.out)
         first
           | (have hz : Hid (y2.heap[y1.heap.size]? = some (.cells #[.int .i64 0, .int .i64 0, .string ⟨#[]⟩, .slice none 0 0, .slice none 0 0, .slice none 0 0] 40)) := hide (by with_reducible exact (hx2.heap (lt_of_obj (at_newB y1 _ _ rfl))).trans (at_newB y1 _ _ rfl)); have hm4 : w.heap.size + 1 + 1 + 1 + 1 ≠ y1.heap.size := (by have := E1.out.size; omega); have hm8 : w.heap.size + 1 + 1 + 1 + 1 + 1 + 1 + 1 + 1 ≠ y1.heap.size := (by have := E1.out.size; omega))
           | (have hz := hide ((Ec.out.heap (lt_of_obj hz1.out)).trans hz1.out); have hm4 := hn4; have hm8 := hn8)
           | skip
         try (have hmz := m0_cells hz.out; have hzl := lt_of_obj hz.out; obtain ⟨z0, z1, z2, z3, z4, z5, zf0, zf1, zf2, zf3, zf4, zf5⟩ := hmz)))
    all_goals (go_wp2_with fail; go_meet; first
      | (refine ⟨y2.heap.size, t, by with_reducible rfl, rfl, ?_, hide hp⟩; exact hide (TmAt.behind (E1.out.trans Ec.out) ht))
      | (refine ⟨y1.heap.size, t, by with_reducible rfl, rfl, ?_, hide hp⟩; have hA9 := haw y1.heap.size (by simp) (by have := E1.out.size; omega) (by have := E1.out.size; omega) (by have := E1.out.size; omega); exact hide (TmAt.ahead (E1.out.trans Ec.out) E1.out.size hz.out ht hA9))
      | (refine ⟨W.heap.size, t, by with_reducible rfl, rfl, ?_, hide hp⟩; have hA9 := haw W.heap.size (by have hzl := lt_of_obj hz1.out; simp; omega) (by omega) (by omega) (by omega); exact hide (TmAt.ahead (E1.out.trans Ec.out) (Nat.le_refl _) hz.out ht hA9)))
  case rest =>
    obtain ⟨b4, t, rfl, rfl, HT, Hp⟩ := hcut
    clear s0 s1 s2 s3 s4 s5 s6 hn4 hn8
    go_upto_region 5 with fail
    refine wp_name ?_
    intro W5 hW5
    have HT5 : Hid (TmAt W W5 b4 t) := hide (by rw [hW5]; exact HT.out)
    have X5 : Hid (Ext W W5) := hide HT5.out.x
    have hs5 := X5.out.size
    clear hW5 HT
    have hn4 : w.heap.size + 1 + 1 + 1 + 1 ≠ W5.heap.size := by omega
    obtain ⟨s0, s1, s2, s3, s4, s5, s6⟩ := HSS.out W5 X5.out
    clear s3 s4 s5 s6
    have HS5 : Hid (∀ w', Ext W5 w' → w'.cell? ⟨w.heap.size + 1 + 1 + 1 + 1, 0, none⟩ = some (.slice none 0 0) ∧ w'.cell? ⟨w.heap.size + 1 + 1 + 1 + 1, 1, none⟩ = some (.slice (some ⟨w.heap.size + 1, 0, none⟩) 2 2) ∧ w'.cell? ⟨w.heap.size + 1 + 1 + 1 + 1, 2, none⟩ = some (.slice (some ⟨w.heap.size + 1 + 1 + 1, 0, none⟩) 1 1)) := hide (fun w' e => ⟨(HSS.out w' (X5.out.trans e)).1, (HSS.out w' (X5.out.trans e)).2.1, (HSS.out w' (X5.out.trans e)).2.2.1⟩)
    have m4 : w.heap.size + 1 + 1 + 1 + 1 < W5.heap.size := by omega
    have HAll : Hid (∀ (w' : World) (A : Option Addr) (c g : Nat), Ext W5 w' → TmsIn w' A (namesT 2 ((0 : Nat) : Int)) → w'.heap[g]? = some (.cells #[.string ⟨#[69, 113]⟩, .string ⟨#[]⟩, .int .i64 0, .slice none 0 0, .string ⟨#[88]⟩, .string ⟨#[]⟩, .int .i64 0, .slice none 0 0] 55 (0, 0)) → Hid (Calls Tryz.prog 17 #[.agg #[.slice none 0 0, .slice (some ⟨w.heap.size + 1, 0, none⟩) 2 2, .slice (some ⟨w.heap.size + 1 + 1 + 1, 0, none⟩) 1 1], .slice (some ⟨w.heap.size + 1 + 1 + 1 + 1 + 1 + 1 + 1 + 1 + 1, 0, none⟩) 2 2, .slice A 2 c, .slice (some ⟨g, 0, none⟩) 2 2] w' fun e z => e = .returned (.tuple #[.slice none 0 0, .int .i64 1, .int .i64 16]) ∧ Ext w' z)) := hide (fun w' A c g e hA hg => hide ((HX.out w' (X5.out.trans e)).all c hA (HG.out w' (X5.out.trans e)) (HV.out w' (X5.out.trans e)) hg))
    go_cut [6, 7, 8] (fun s6 s7 s8 wx => s6 = .slice none 0 0 ∧ s7 = .int .i64 1 ∧ s8 = .int .i64 16 ∧ Hid (Ext W5 wx))
    case first =>
      go_region_held3 (fun w' => w'.cell? ⟨w.heap.size + 1 + 1 + 1 + 1, 0, none⟩ = some (.slice none 0 0) ∧ w'.cell? ⟨w.heap.size + 1 + 1 + 1 + 1, 1, none⟩ = some (.slice (some ⟨w.heap.size + 1, 0, none⟩) 2 2) ∧ w'.cell? ⟨w.heap.size + 1 + 1 + 1 + 1, 2, none⟩ = some (.slice (some ⟨w.heap.size + 1 + 1 + 1, 0, none⟩) 1 1)) (first | with_reducible assumption | go_keep) (first
        | (go_at_call 20
           refine Calls.mono (e_namesE 0 (by decide) _) ?_
           rintro e y1 ⟨⟨A, c, rfl, hA⟩, hx1⟩
           have E1 : Hid (Ext W5 y1) := hide (by refine Ext.trans ?_ hx1; exact (by repeat (first | exact Ext.refl _ | exact Ext.pre (by simp) | exact Ext.alloc (by assumption) _ | refine Ext.alloc ?_ _ |  refine Ext.more ?_ _ _ | refine Ext.drew ?_ | refine Ext.drewN ?_ _)))
           have HA := hide hA
           have kS := HS5.out y1 E1.out
           (try (have hz1 := hide ((hx1.heap (lt_of_obj (at_newD W5 _))).trans (at_newD W5 _))))
           clear hA hx1)
        | (go_at_call 17
           with_reducible refine Calls.mono (HAll.out _ _ _ _ ?e ?hA ?hg).out ?_
           case e => exact Ext.trans E1.out (by repeat (first | exact Ext.refl _ | exact Ext.pre (by simp) | exact Ext.alloc (by assumption) _ | refine Ext.alloc ?_ _ |  refine Ext.more ?_ _ _ | refine Ext.drew ?_ | refine Ext.drewN ?_ _))
           case hA => exact HA.out.ext (by repeat (first | exact Ext.refl _ | exact Ext.pre (by simp) | exact Ext.alloc (by assumption) _ | refine Ext.alloc ?_ _ |  refine Ext.more ?_ _ _ | refine Ext.drew ?_ | refine Ext.drewN ?_ _))
           case hg => first | with_reducible exact at_newB y1 _ _ rfl | exact (Ext.heap (by repeat (first | exact Ext.refl _ | exact Ext.pre (by simp) | exact Ext.alloc (by assumption) _ | refine Ext.alloc ?_ _ |  refine Ext.more ?_ _ _ | refine Ext.drew ?_ | refine Ext.drewN ?_ _)) (lt_of_obj hz1.out)).trans hz1.out
           rintro e y2 ⟨rfl, hx2⟩
           have Ec : Hid (Ext y1 y2) := hide (by refine Ext.trans ?_ hx2; exact (by repeat (first | exact Ext.refl _ | exact Ext.pre (by simp) | exact Ext.alloc (by assumption) _ | refine Ext.alloc ?_ _ |  refine Ext.more ?_ _ _ | refine Ext.drew ?_ | refine Ext.drewN ?_ _)))
           have kS := HS5.out y2 (E1.out.trans Ec.out)))
      all_goals (go_wp2_with fail; go_meet; exact ⟨rfl, rfl, rfl, hide (E1.out.trans Ec.out)⟩)
    case rest =>
      obtain ⟨rfl, rfl, rfl, XD⟩ := hcut
      have X6 := hide (X5.out.trans XD.out)
      go_wp2_with fail
      refine ((HX.out _ X6.out).types).mono ?_
      rintro e w7 ⟨⟨A7, c7, d0, d1, rfl, hT7, hd7⟩, hx7⟩
      have X7 := hide (XD.out.trans hx7)
      have HT7 := hide hT7
      have HB7 := hide (HT5.out.box.ext X7.out)
      have HM7 := hide (HT5.out.inn.ext X7.out)
      clear hT7 hx7
      have l2 : ((2 : Nat) : Int) = 2 := rfl
      go_upto_region 9 with fail
      obtain ⟨k0, k1, k2, k3, k4, k5⟩ := HB7.out.cells
      have k6 := HB7.out.lt
      go_wp2_with fail
      refine (tE_text Hp.out HM7.out).mono ?_
      rintro e w8 ⟨rfl, hx8⟩
      have HT8 := hide (HT7.out.ext hx8)
      have hd1 := HT8.out.args d1 (by simp)
      obtain ⟨b8, o8, rfl, hb8, q0, q1, q2⟩ := HT8.out.at_ (i := 1) (by simp)
      have X8 := hide (X7.out.trans hx8)
      clear k0 k1 k2 k3 k4 k5 k6 hx8
      go_wp2_with fail
      refine (dictE_text hd7 hd1).mono ?_
      rintro e w9 ⟨rfl, hx9⟩
      go_wp2
      go_ret
      exact ⟨rfl, X0.out.trans (X5.out.trans (X8.out.trans hx9))⟩

end Go.Proofs.YtcnkfkjgpdmebaaGreatDoor
