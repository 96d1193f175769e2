/- Chapter 22's law on ways, walked. -/
import Derived.Test.YtnegamkakdbhfaaSupO
namespace Go.Proofs.Ytnegamkakdbhfaa
open Go.RowKit

/-! ### Plain -/
theorem endp_reach {succ : Nat → List Nat} : ∀ (q : List Nat) (a b : Nat), endp succ a q = some b → a = b ∨ SR succ a b
  | [], a, b, h => .inl (by simpa [endp] using h)
  | k :: q, a, b, h => by
    simp only [endp] at h
    split at h
    · rename_i c hc
      have h1 : SR succ a c := .one (List.mem_of_getElem? hc)
      rcases endp_reach q c b h with rfl | h2
      · exact .inr h1
      · exact .inr (h1.trans h2)
    · cases h
theorem reach_endp {succ : Nat → List Nat} {a b : Nat} (h : SR succ a b) : ∃ q, endp succ a q = some b := by
  induction h with
  | one h1 =>
    obtain ⟨k, hk, e⟩ := List.getElem_of_mem h1
    exact ⟨[k], by simp [endp, hk, e]⟩
  | step _ h1 ih =>
    obtain ⟨q, hq⟩ := ih
    obtain ⟨k, hk, e⟩ := List.getElem_of_mem h1
    exact ⟨q ++ [k], (endp_snoc succ q k _ _).2 ⟨_, hq, by simp [hk, e]⟩⟩
theorem pathL_upto {l : List Cls} (ho : okL l = true) {a b : Nat} (ha : a < l.length) (hb : b < l.length) : pathL l (l[a]'ha).name (l[b]'hb).name = pathUpto (succC l) a b l.length := by
  rw [pathL_bfs ho ha hb _ _ rfl rfl (Nat.le_refl _), bfs_path (N := l.length) (fun x hx y hy => succC_lt (okL_sound ho).1 x hx y hy) ha (Nat.le_refl _)]
theorem pathL_some {l : List Cls} (ho : okL l = true) {a b : Nat} (ha : a < l.length) (hb : b < l.length) :
    (pathL l (l[a]'ha).name (l[b]'hb).name).isSome = ((l[a]'ha).name == (l[b]'hb).name || (allL l (l[a]'ha).name).any (· == (l[b]'hb).name)) := by
  have hso := (okL_sound ho).1
  rw [pathL_upto ho ha hb]
  rw [Bool.eq_iff_iff]
  have hall : (allL l (l[a]'ha).name).any (· == (l[b]'hb).name) = true ↔ SR (succC l) a b := by
    unfold allL
    rw [ho]
    simp only [↓reduceIte]
    rw [any_eq_mem, (aboveL_spec l _).2]
    constructor
    · intro hu
      obtain ⟨j, hj, en, hr⟩ := reach_of_up hso ha hu
      rwa [hso.inj hj hb en] at hr
    · intro hr
      exact (up_of_reach hso ha hr).2
  rw [Bool.or_eq_true, hall]
  constructor
  · intro h
    obtain ⟨p, hp⟩ := Option.isSome_iff_exists.1 h
    rcases endp_reach p a b (pathUpto_least (succC l) hp).1 with h1 | h1
    · subst h1; exact .inl (by simp)
    · exact .inr h1
  · intro h
    have hq : ∃ q, endp (succC l) a q = some b := by
      rcases h with h | h
      · have : a = b := hso.inj ha hb (by simpa using h)
        subst this
        exact ⟨[], rfl⟩
      · exact reach_endp h
    obtain ⟨q, hq⟩ := hq
    cases hp : pathUpto (succC l) a b l.length with
    | some p => rfl
    | none =>
      exfalso
      obtain ⟨m, hm⟩ := least_some (succ := succC l) hq
      have h1 := pathUpto_none (succC l) hp hm.1
      have h2 := hm.short ha (fun x hx y hy => succC_lt hso x hx y hy)
      omega
theorem pathL_end {l : List Cls} (ho : okL l = true) {a b : Nat} (ha : a < l.length) (hb : b < l.length) {p : List Nat} (hp : pathL l (l[a]'ha).name (l[b]'hb).name = some p) : endp (succC l) a p = some b ∧ p.length ≤ 9 ∨ 9 < l.length := by
  have hso := (okL_sound ho).1
  rw [pathL_upto ho ha hb] at hp
  have hl := pathUpto_least (succC l) hp
  have := hl.short ha (fun x hx y hy => succC_lt hso x hx y hy)
  by_cases h9 : 9 < l.length
  · exact .inr h9
  · exact .inl ⟨hl.1, by omega⟩
/-- One step on a way that leads somewhere. -/
theorem way_step {l : List Cls} (hso : Sound l) {a b : Nat} (_ha : a < l.length) {p : List Nat} (hp : endp (succC l) a p = some b) {i : Nat} (hi : i < p.length) {c : Nat} (hc : endp (succC l) a (p.take i) = some c) (hcl : c < l.length) :
    ∃ (hk : p[i]'hi < (l[c]'hcl).sup.length) (d : Nat) (hd : d < l.length), (l[c]'hcl).sup[p[i]'hi]'hk = (l[d]'hd).name ∧ endp (succC l) a (p.take (i + 1)) = some d := by
  have e1 : p.take (i + 1) = p.take i ++ [p[i]'hi] := List.take_succ_eq_append_getElem hi
  have e2 : p = p.take (i + 1) ++ p.drop (i + 1) := (List.take_append_drop _ _).symm
  have h1 : ∃ d, endp (succC l) a (p.take (i + 1)) = some d := by
    rw [e2, endp_append] at hp
    cases hh : endp (succC l) a (p.take (i + 1)) with
    | none => rw [hh] at hp; cases hp
    | some d => exact ⟨d, rfl⟩
  obtain ⟨d, hd⟩ := h1
  have hd' := hd
  rw [e1] at hd
  obtain ⟨c', h2, h3⟩ := (endp_snoc (succC l) (p.take i) (p[i]'hi) a d).1 hd
  rw [hc] at h2
  injection h2 with h2
  subst h2
  have hlt : p[i]'hi < (succC l c).length := (List.getElem?_eq_some_iff.1 h3).1
  have hs : succC l c = ((l[c]'hcl).sup).map fun s => (atI l s).toNat := by unfold succC; rw [supAt_eq hcl]
  have hk : p[i]'hi < (l[c]'hcl).sup.length := by rw [hs, List.length_map] at hlt; exact hlt
  have hv : (succC l c)[p[i]'hi]'hlt = d := (List.getElem?_eq_some_iff.1 h3).2
  simp only [hs, List.getElem_map] at hv
  obtain ⟨j, hj, e, en⟩ := hso.to hcl (List.getElem_mem hk)
  rw [e, Int.toNat_natCast] at hv
  subst hv
  exact ⟨hk, j, hj, en.symm, hd'⟩

end Go.Proofs.Ytnegamkakdbhfaa
