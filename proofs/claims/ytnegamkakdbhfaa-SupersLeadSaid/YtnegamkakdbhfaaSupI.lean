/- Contract: the way from one class to another one, the reference's; plain facts on both. -/
import Derived.Test.YtnegamkakdbhfaaSupH
namespace Go.Proofs.Ytnegamkakdbhfaa
open Go.RowKit

def pathL (l : List Cls) (a b : Str) : Option (List Nat) :=
  if okL l && !decide (atI l a < 0) && !decide (atI l b < 0) then (List.range l.length).findSome? fun n => pathN l b n a else none
theorem range_at {β : Type} (f : Nat → Option β) {N n : Nat} {r : β} (hn : n < N) (h : f n = some r) (hb : ∀ m, m < n → f m = none) : (List.range N).findSome? f = some r := by
  obtain ⟨h1, h2⟩ := findSome_range f N
  cases he : (List.range N).findSome? f with
  | none => have := h2 he n hn; rw [h] at this; cases this
  | some s =>
    obtain ⟨m, hm, h3, h4⟩ := h1 s he
    rcases Nat.lt_trichotomy m n with g | g | g
    · rw [hb m g] at h3; cases h3
    · subst g; rw [h] at h3; exact h3.symm
    · rw [h4 n g] at h; cases h
theorem range_no {β : Type} (f : Nat → Option β) {N : Nat} (hb : ∀ m, m < N → f m = none) : (List.range N).findSome? f = none := by
  rw [List.findSome?_eq_none_iff]
  intro x hx
  exact hb x (by simpa using hx)
theorem pathL_far (l : List Cls) (a b : Str) (h : (a == b) = false) (hu : (aboveL l a).any (· == b) = false) : (List.range l.length).findSome? (fun n => pathN l b n a) = none := by
  refine range_no _ fun n _ => ?_
  cases hp : pathN l b n a with
  | none => rfl
  | some p =>
    exfalso
    rcases (pathN_len l b n a p hp).2 with h1 | h1
    · simp at h; exact h h1
    · exact (any_eq_not _ _).1 hu (((aboveL_spec l a).2 b).2 h1)

theorem zip_map_congr {β γ δ : Type} (F : γ × Nat → Option β) (G : δ × Nat → Option β) (g : γ → δ) : ∀ (row : List γ) (i0 : Nat), (∀ s ∈ row, ∀ k, F (s, k) = G (g s, k)) → (row.zipIdx i0).findSome? F = ((row.map g).zipIdx i0).findSome? G
  | [], _, _ => rfl
  | s :: row, i0, h => by
    simp only [List.zipIdx_cons, List.map_cons, List.findSome?_cons]
    rw [h s (by simp) i0, zip_map_congr F G g row (i0 + 1) (fun t ht k => h t (by simp [ht]) k)]
theorem pathN_R {l : List Cls} (h : Sound l) {b : Nat} (hb : b < l.length) : ∀ (n a : Nat) (ha : a < l.length), pathN l (l[b]'hb).name n (l[a]'ha).name = pathR (succC l) b n a
  | 0, a, ha => by
    simp only [pathN, pathR]
    by_cases e : a = b
    · subst e; simp
    · rw [if_neg e, if_neg]
      intro hh
      exact e (h.inj ha hb (by simpa using hh))
  | n + 1, a, ha => by
    simp only [pathN, pathR]
    rw [h.sup ha]
    have hsc : succC l a = ((l[a]'ha).sup).map fun s => (atI l s).toNat := by unfold succC; rw [supAt_eq ha]
    rw [hsc]
    refine zip_map_congr _ _ _ _ 0 (fun s hs k => ?_)
    obtain ⟨j, hj, e, en⟩ := h.to ha hs
    have ih := pathN_R h hb n j hj
    simp only
    rw [e, Int.toNat_natCast, ← ih, en]
theorem pathL_bfs {l : List Cls} (ho : okL l = true) {a b : Nat} (ha : a < l.length) (hb : b < l.length) (x y : Str) (hx : (l[a]'ha).name = x) (hy : (l[b]'hb).name = y) {f : Nat} (hf : 1 + restG (succC l) (fun _ => false) l.length ≤ f) :
    pathL l x y = bfsGo (succC l) b f (fun _ => false) [(a, [])] := by
  have hso := (okL_sound ho).1
  rw [bfs_path (N := l.length) (fun x hx y hy => succC_lt hso x hx y hy) ha hf]
  unfold pathL pathUpto
  have e1 := hso.at_ ha
  have e2 := hso.at_ hb
  rw [hx] at e1
  rw [hy] at e2
  rw [ho, e1, e2]
  have h1 : decide ((a : Int) < 0) = false := by simp
  have h2 : decide ((b : Int) < 0) = false := by simp
  rw [h1, h2]
  simp only [Bool.not_false, Bool.and_self, ↓reduceIte]
  congr 1
  funext n
  rw [← hx, ← hy]
  exact pathN_R hso hb n a ha

section
variable (A : Option Addr) (cap : Nat) (l : List Cls) (x y : Str) (w : World)
set_option maxRecDepth 10000 in
set_option maxHeartbeats 4000000 in
theorem ref_path (h : Classes w A l) (hl : l.length ≤ 9) (hs : ∀ c ∈ l, c.sup.length ≤ 9) :
    Calls Try.prog 51 #[.slice A l.length cap, encStr x, encStr y] w fun e w' => (∃ A' cap', e = .returned (.tuple #[.slice A' (ofNats (pathL l x y)).length cap', .bool (pathL l x y).isSome]) ∧ (ofNats (pathL l x y)).length ≤ cap' ∧ cap' ≤ 9223372036854775807 ∧ Ints w' A' (ofNats (pathL l x y))) ∧ Ext w w' := by
  have HC := hide h
  have HS := hide hs
  have Ho := hide (ref_ok A cap l w h hl hs)
  have Ha := hide (fun w' (e : Ext w w') => hide (ref_at22 A cap l x w' (h.ext e) (by omega)))
  have Hb := hide (fun w' (e : Ext w w') => hide (ref_at22 A cap l y w' (h.ext e) (by omega)))
  have Hu := hide (fun w' (e : Ext w w') => hide (ref_above A cap l x w' (h.ext e) hl hs))
  have Hf := hide (pathL_far l x y)
  clear h hs
  have HP : Hid (pathL l x y = if okL l && !decide (atI l x < 0) && !decide (atI l y < 0) then (List.range l.length).findSome? fun n => pathN l y n x else none) := hide rfl
  generalize pathL l x y = R at *
  generalize atI l x = a at *
  generalize atI l y = b at *
  cases ho : okL l
  · rw [ho] at Ho HP
    have hR : R = none := HP.out
    subst hR
    go_enter Try.func51, Try.ntmps51
    go_wp2_with fail
    refine Ho.out.mono ?_
    rintro e w2 ⟨rfl, l2, d2, rfl⟩
    go_wp2
    go_ret2
    exact ⟨⟨none, 0, rfl, Nat.le_refl _, by omega, RowOf.nil _ _ _⟩, (by repeat (first | exact Ext.refl _ | exact Ext.pre (by simp) | exact Ext.alloc (by assumption) _ | refine Ext.alloc ?_ _ |  refine Ext.more ?_ _ _ | refine Ext.drew ?_ | refine Ext.drewN ?_ _))⟩
  · rw [ho] at Ho HP
    by_cases ha : a < 0
    · have hR : R = none := by rw [HP.out]; simp [ha]
      subst hR
      go_enter Try.func51, Try.ntmps51
      go_wp2_with fail
      refine Ho.out.mono ?_
      rintro e w2 ⟨rfl, l2, d2, rfl⟩
      go_wp2_with fail
      refine (Ha.out _ (by repeat (first | exact Ext.refl _ | exact Ext.pre (by simp) | exact Ext.alloc (by assumption) _ | refine Ext.alloc ?_ _ |  refine Ext.more ?_ _ _ | refine Ext.drew ?_ | refine Ext.drewN ?_ _))).out.mono ?_
      rintro e w3 ⟨rfl, rfl⟩
      go_wp2
      go_ret2
      exact ⟨⟨none, 0, rfl, Nat.le_refl _, by omega, RowOf.nil _ _ _⟩, (by repeat (first | exact Ext.refl _ | exact Ext.pre (by simp) | exact Ext.alloc (by assumption) _ | refine Ext.alloc ?_ _ |  refine Ext.more ?_ _ _ | refine Ext.drew ?_ | refine Ext.drewN ?_ _))⟩
    · by_cases hb : b < 0
      · have hR : R = none := by rw [HP.out]; simp [hb]
        subst hR
        go_enter Try.func51, Try.ntmps51
        go_wp2_with fail
        refine Ho.out.mono ?_
        rintro e w2 ⟨rfl, l2, d2, rfl⟩
        go_wp2_with fail
        refine (Ha.out _ (by repeat (first | exact Ext.refl _ | exact Ext.pre (by simp) | exact Ext.alloc (by assumption) _ | refine Ext.alloc ?_ _ |  refine Ext.more ?_ _ _ | refine Ext.drew ?_ | refine Ext.drewN ?_ _))).out.mono ?_
        rintro e w3 ⟨rfl, rfl⟩
        go_wp2_with fail
        refine (Hb.out _ (by repeat (first | exact Ext.refl _ | exact Ext.pre (by simp) | exact Ext.alloc (by assumption) _ | refine Ext.alloc ?_ _ |  refine Ext.more ?_ _ _ | refine Ext.drew ?_ | refine Ext.drewN ?_ _))).out.mono ?_
        rintro e w3 ⟨rfl, rfl⟩
        go_wp2
        go_ret2
        exact ⟨⟨none, 0, rfl, Nat.le_refl _, by omega, RowOf.nil _ _ _⟩, (by repeat (first | exact Ext.refl _ | exact Ext.pre (by simp) | exact Ext.alloc (by assumption) _ | refine Ext.alloc ?_ _ |  refine Ext.more ?_ _ _ | refine Ext.drew ?_ | refine Ext.drewN ?_ _))⟩
      · have HR : Hid (R = (List.range l.length).findSome? fun n => pathN l y n x) := hide (by rw [HP.out]; simp [ha, hb])
        clear HP
        -- the search itself, from any world that has grown
        have main : ∀ (hcond : (x == y) = true ∨ ((x == y) = false ∧ (aboveL l x).any (· == y) = true)), Calls Try.prog 51 #[.slice A l.length cap, encStr x, encStr y] w fun e w' => (∃ A' cap', e = .returned (.tuple #[.slice A' (ofNats R).length cap', .bool R.isSome]) ∧ (ofNats R).length ≤ cap' ∧ cap' ≤ 9223372036854775807 ∧ Ints w' A' (ofNats R)) ∧ Ext w w' := by
          intro hcond
          have HAt := hide (fun n p => @range_at _ (fun n => pathN l y n x) l.length n p)
          have HNo := hide (@range_no _ (fun n => pathN l y n x) l.length)
          rw [← HR.out] at HNo
          have HAt' : Hid (∀ n p, n < l.length → pathN l y n x = some p → (∀ m, m < n → pathN l y m x = none) → R = some p) := hide (fun n p h1 h2 h3 => by rw [HR.out]; exact HAt.out n p h1 h2 h3)
          clear HAt HR
          rcases hcond with hxy | ⟨hxy, hab⟩
          · have hxy2 : (x != y) = false := by simp at hxy; simp [hxy]
            go_enter Try.func51, Try.ntmps51
            go_wp2_with fail
            refine Ho.out.mono ?_
            rintro e w2 ⟨rfl, l2, d2, rfl⟩
            go_wp2_with fail
            refine (Ha.out _ (by repeat (first | exact Ext.refl _ | exact Ext.pre (by simp) | exact Ext.alloc (by assumption) _ | refine Ext.alloc ?_ _ |  refine Ext.more ?_ _ _ | refine Ext.drew ?_ | refine Ext.drewN ?_ _))).out.mono ?_
            rintro e w3 ⟨rfl, rfl⟩
            go_wp2_with fail
            refine (Hb.out _ (by repeat (first | exact Ext.refl _ | exact Ext.pre (by simp) | exact Ext.alloc (by assumption) _ | refine Ext.alloc ?_ _ |  refine Ext.more ?_ _ _ | refine Ext.drew ?_ | refine Ext.drewN ?_ _))).out.mono ?_
            rintro e w3 ⟨rfl, rfl⟩
            go_wp2
            go_loopw [8] (fun i wr => ∃ k : Nat, k ≤ l.length ∧ i = .int .i64 k ∧ Hid (Ext w wr) ∧ Hid (∀ m, m < k → pathN l y m x = none)) (fun i _ => l.length - (intOf i).toNat)
            case atStart => exact ⟨0, Nat.zero_le _, rfl, hide (by repeat (first | exact Ext.refl _ | exact Ext.pre (by simp) | exact Ext.alloc (by assumption) _ | refine Ext.alloc ?_ _ |  refine Ext.more ?_ _ _ | refine Ext.drew ?_ | refine Ext.drewN ?_ _)), hide (fun j hj => absurd hj (by omega))⟩
            case round =>
              obtain ⟨k, hk, rfl, HX, HJ⟩ := hrel
              by_cases hlt : k < l.length
              · have hlt' : (k : Int) < (l.length : Int) := by omega
                have Hc := hide (ref_pathin A cap l y hl HS.out k x wr (by omega) (HC.out.ext HX.out))
                cases hp : pathN l y k x with
                | none =>
                  rw [hp] at Hc
                  go_wp2_with fail
                  refine Hc.out.mono ?_
                  rintro e w4 ⟨⟨A4, c4, rfl, p1, p2, p3⟩, l4, d4, rfl⟩
                  clear p3
                  go_wp2
                  go_roundw
                  case rel =>
                    refine ⟨k + 1, hlt, by go_num, hide (HX.out.trans (by repeat (first | exact Ext.refl _ | exact Ext.pre (by simp) | exact Ext.alloc (by assumption) _ | refine Ext.alloc ?_ _ |  refine Ext.more ?_ _ _ | refine Ext.drew ?_ | refine Ext.drewN ?_ _))), hide (fun j hj => ?_)⟩
                    by_cases e : j = k
                    · subst e; exact hp
                    · exact HJ.out j (by omega)
                  case measure => simp [intOf]; omega
                | some p =>
                  rw [hp] at Hc
                  have hR := HAt'.out k p hlt hp HJ.out
                  subst hR
                  go_wp2_with fail
                  refine Hc.out.mono ?_
                  rintro e w4 ⟨⟨A4, c4, rfl, p1, p2, p3⟩, l4, d4, rfl⟩
                  have P3 := hide p3
                  clear p3
                  go_wp2
                  go_ret2
                  exact ⟨⟨A4, c4, rfl, p1, p2, P3.out⟩, HX.out.trans (by repeat (first | exact Ext.refl _ | exact Ext.pre (by simp) | exact Ext.alloc (by assumption) _ | refine Ext.alloc ?_ _ |  refine Ext.more ?_ _ _ | refine Ext.drew ?_ | refine Ext.drewN ?_ _))⟩
              · have hge : (l.length : Int) ≤ (k : Int) := by omega
                have hR := HNo.out (fun j hj => HJ.out j (by omega))
                subst hR
                go_wp2
                go_ret2
                exact ⟨⟨none, 0, rfl, Nat.le_refl _, by omega, RowOf.nil _ _ _⟩, HX.out⟩
          · have hxy2 : (x != y) = true := by simp at hxy; simp [hxy]
            go_enter Try.func51, Try.ntmps51
            go_wp2_with fail
            refine Ho.out.mono ?_
            rintro e w2 ⟨rfl, l2, d2, rfl⟩
            go_wp2_with fail
            refine (Ha.out _ (by repeat (first | exact Ext.refl _ | exact Ext.pre (by simp) | exact Ext.alloc (by assumption) _ | refine Ext.alloc ?_ _ |  refine Ext.more ?_ _ _ | refine Ext.drew ?_ | refine Ext.drewN ?_ _))).out.mono ?_
            rintro e w3 ⟨rfl, rfl⟩
            go_wp2_with fail
            refine (Hb.out _ (by repeat (first | exact Ext.refl _ | exact Ext.pre (by simp) | exact Ext.alloc (by assumption) _ | refine Ext.alloc ?_ _ |  refine Ext.more ?_ _ _ | refine Ext.drew ?_ | refine Ext.drewN ?_ _))).out.mono ?_
            rintro e w3 ⟨rfl, rfl⟩
            go_wp2_with fail
            refine (Hu.out _ (by repeat (first | exact Ext.refl _ | exact Ext.pre (by simp) | exact Ext.alloc (by assumption) _ | refine Ext.alloc ?_ _ |  refine Ext.more ?_ _ _ | refine Ext.drew ?_ | refine Ext.drewN ?_ _))).out.mono ?_
            rintro e w3 ⟨⟨A3, c3, rfl, g1, g2, g3⟩, l3, d3, rfl⟩
            simp only [more_more] at g3
            have Hh := hide (ref_has A3 c3 _ y _ g3 (by omega))
            rw [hab] at Hh
            clear g3
            generalize aboveL l x = V at *
            go_wp2_with fail
            refine Hh.out.mono ?_
            rintro e w3 ⟨rfl, rfl⟩
            go_wp2
            go_loopw [8] (fun i wr => ∃ k : Nat, k ≤ l.length ∧ i = .int .i64 k ∧ Hid (Ext w wr) ∧ Hid (∀ m, m < k → pathN l y m x = none)) (fun i _ => l.length - (intOf i).toNat)
            case atStart => exact ⟨0, Nat.zero_le _, rfl, hide (by repeat (first | exact Ext.refl _ | exact Ext.pre (by simp) | exact Ext.alloc (by assumption) _ | refine Ext.alloc ?_ _ |  refine Ext.more ?_ _ _ | refine Ext.drew ?_ | refine Ext.drewN ?_ _)), hide (fun j hj => absurd hj (by omega))⟩
            case round =>
              obtain ⟨k, hk, rfl, HX, HJ⟩ := hrel
              by_cases hlt : k < l.length
              · have hlt' : (k : Int) < (l.length : Int) := by omega
                have Hc := hide (ref_pathin A cap l y hl HS.out k x wr (by omega) (HC.out.ext HX.out))
                cases hp : pathN l y k x with
                | none =>
                  rw [hp] at Hc
                  go_wp2_with fail
                  refine Hc.out.mono ?_
                  rintro e w4 ⟨⟨A4, c4, rfl, p1, p2, p3⟩, l4, d4, rfl⟩
                  clear p3
                  go_wp2
                  go_roundw
                  case rel =>
                    refine ⟨k + 1, hlt, by go_num, hide (HX.out.trans (by repeat (first | exact Ext.refl _ | exact Ext.pre (by simp) | exact Ext.alloc (by assumption) _ | refine Ext.alloc ?_ _ |  refine Ext.more ?_ _ _ | refine Ext.drew ?_ | refine Ext.drewN ?_ _))), hide (fun j hj => ?_)⟩
                    by_cases e : j = k
                    · subst e; exact hp
                    · exact HJ.out j (by omega)
                  case measure => simp [intOf]; omega
                | some p =>
                  rw [hp] at Hc
                  have hR := HAt'.out k p hlt hp HJ.out
                  subst hR
                  go_wp2_with fail
                  refine Hc.out.mono ?_
                  rintro e w4 ⟨⟨A4, c4, rfl, p1, p2, p3⟩, l4, d4, rfl⟩
                  have P3 := hide p3
                  clear p3
                  go_wp2
                  go_ret2
                  exact ⟨⟨A4, c4, rfl, p1, p2, P3.out⟩, HX.out.trans (by repeat (first | exact Ext.refl _ | exact Ext.pre (by simp) | exact Ext.alloc (by assumption) _ | refine Ext.alloc ?_ _ |  refine Ext.more ?_ _ _ | refine Ext.drew ?_ | refine Ext.drewN ?_ _))⟩
              · have hge : (l.length : Int) ≤ (k : Int) := by omega
                have hR := HNo.out (fun j hj => HJ.out j (by omega))
                subst hR
                go_wp2
                go_ret2
                exact ⟨⟨none, 0, rfl, Nat.le_refl _, by omega, RowOf.nil _ _ _⟩, HX.out⟩
        cases hxy : (x == y)
        · cases hab : (aboveL l x).any (· == y)
          · have hR : R = none := by rw [HR.out]; exact Hf.out hxy hab
            subst hR
            have hxy2 : (x != y) = true := by simp at hxy; simp [hxy]
            clear main
            go_enter Try.func51, Try.ntmps51
            go_wp2_with fail
            refine Ho.out.mono ?_
            rintro e w2 ⟨rfl, l2, d2, rfl⟩
            go_wp2_with fail
            refine (Ha.out _ (by repeat (first | exact Ext.refl _ | exact Ext.pre (by simp) | exact Ext.alloc (by assumption) _ | refine Ext.alloc ?_ _ |  refine Ext.more ?_ _ _ | refine Ext.drew ?_ | refine Ext.drewN ?_ _))).out.mono ?_
            rintro e w3 ⟨rfl, rfl⟩
            go_wp2_with fail
            refine (Hb.out _ (by repeat (first | exact Ext.refl _ | exact Ext.pre (by simp) | exact Ext.alloc (by assumption) _ | refine Ext.alloc ?_ _ |  refine Ext.more ?_ _ _ | refine Ext.drew ?_ | refine Ext.drewN ?_ _))).out.mono ?_
            rintro e w3 ⟨rfl, rfl⟩
            go_wp2_with fail
            refine (Hu.out _ (by repeat (first | exact Ext.refl _ | exact Ext.pre (by simp) | exact Ext.alloc (by assumption) _ | refine Ext.alloc ?_ _ |  refine Ext.more ?_ _ _ | refine Ext.drew ?_ | refine Ext.drewN ?_ _))).out.mono ?_
            rintro e w3 ⟨⟨A3, c3, rfl, g1, g2, g3⟩, l3, d3, rfl⟩
            simp only [more_more] at g3
            have Hh := hide (ref_has A3 c3 _ y _ g3 (by omega))
            rw [hab] at Hh
            clear g3
            generalize aboveL l x = V at *
            go_wp2_with fail
            refine Hh.out.mono ?_
            rintro e w3 ⟨rfl, rfl⟩
            go_wp2
            go_ret2
            exact ⟨⟨none, 0, rfl, Nat.le_refl _, by omega, RowOf.nil _ _ _⟩, (by repeat (first | exact Ext.refl _ | exact Ext.pre (by simp) | exact Ext.alloc (by assumption) _ | refine Ext.alloc ?_ _ |  refine Ext.more ?_ _ _ | refine Ext.drew ?_ | refine Ext.drewN ?_ _))⟩
          · exact main (.inr ⟨hxy, hab⟩)
        · exact main (.inl hxy)
end

end Go.Proofs.Ytnegamkakdbhfaa
