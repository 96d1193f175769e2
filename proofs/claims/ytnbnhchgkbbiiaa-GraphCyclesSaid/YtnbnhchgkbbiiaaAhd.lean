/- What the groups told are: each vertex in one, edges within one or ahead; who goes round. Plain facts. -/
import Derived.Test.YtnbnhchgkbbiiaaRfF
namespace Go.Proofs.Ytnbnhchgkbbiiaa
open Go.RowKit

section
variable {succ : Nat → List Nat} {n : Nat} {m : Nat → Nat → Bool} {d : Nat → Bool}
theorem filter_split (p q : Nat → Bool) : ∀ l : List Nat, (l.filter p).length = (l.filter fun x => p x && q x).length + (l.filter fun x => p x && !q x).length
  | [] => rfl
  | x :: l => by
    have ih := filter_split p q l
    cases hp : p x <;> cases hq : q x <;> simp [hp, hq] <;> omega
theorem DoneOk.add (hs : ∀ x, x < n → ∀ y ∈ succ x, y < n) (hm : ∀ i j, i < n → (m i j = true ↔ SR succ i j)) (h : DoneOk succ d) {a : Nat} (ha : a < n) (hf : freeB n m d a = true) : DoneOk succ (addDone n m d a) := by
  intro x hx y hy
  unfold addDone at hx ⊢
  simp only [Bool.or_eq_true, List.contains_iff_mem] at hx ⊢
  rcases hx with hx | hx
  · exact .inl (h x hx y hy)
  · obtain ⟨h1, h2, h3⟩ := (mem_comp hm ha).1 hx
    have hyn : y < n := hs x h1 y hy
    have hay : SR succ a y := by
      rcases h3 with rfl | h3
      · exact .one hy
      · exact .step h3 hy
    rcases (freeB_iff hm ha).1 hf y hyn hay with h4 | h4
    · exact .inl h4
    · exact .inr ((mem_comp hm ha).2 ⟨hyn, .inr h4, .inr hay⟩)
/-- What the groups told from here on are. -/
structure GsOk (succ : Nat → List Nat) (n : Nat) (m : Nat → Nat → Bool) (d : Nat → Bool) (gs : List (List Nat)) : Prop where
  all : ∀ v, v < n → d v = false → ∃ i, ∃ h : i < gs.length, v ∈ gs[i]'h
  mem : ∀ i (h : i < gs.length), ∀ v ∈ gs[i]'h, v < n ∧ d v = false
  dis : ∀ i j (hi : i < gs.length) (hj : j < gs.length), i < j → ∀ v ∈ gs[i]'hi, v ∉ gs[j]'hj
  edge : ∀ i (h : i < gs.length), ∀ v ∈ gs[i]'h, ∀ y ∈ succ v, d y = true ∨ ∃ j, ∃ hj : j < gs.length, j ≤ i ∧ y ∈ gs[j]'hj
  sum : (gs.map List.length).sum = undone n d
  comp : ∀ g ∈ gs, ∃ a, a < n ∧ g = compL n m a
theorem selGo_ok (hs : ∀ x, x < n → ∀ y ∈ succ x, y < n) (hm : ∀ i j, i < n → (m i j = true ↔ SR succ i j)) : ∀ (f : Nat) (d : Nat → Bool), undone n d ≤ f → DoneOk succ d → GsOk succ n m d (selGo n m f d) := by
  have hnone : ∀ d : Nat → Bool, (∀ v, v < n → d v = true) → GsOk succ n m d [] := by
    intro d hd
    refine ⟨fun v hv h => ?_, fun i h => by simp at h, fun i j hi => by simp at hi, fun i h => by simp at h, ?_, by simp⟩
    · rw [hd v hv] at h; cases h
    · unfold undone
      have : (List.range n).filter (fun x => !d x) = [] := by
        rw [List.filter_eq_nil_iff]
        intro x hx
        simp [hd x (by simpa using hx)]
      rw [this]; rfl
  intro f
  induction f with
  | zero =>
    intro d hu _
    refine hnone d (fun v hv => ?_)
    cases hd : d v
    · exfalso
      have : v ∈ (List.range n).filter fun x => !d x := List.mem_filter.2 ⟨by simpa using hv, by simp [hd]⟩
      have := List.length_pos_of_mem this
      unfold undone at hu
      omega
    · rfl
  | succ f ih =>
    intro d hu hd
    unfold selGo
    cases hsel : selB n m d with
    | none =>
      refine hnone d (fun v hv => ?_)
      cases hdv : d v
      · obtain ⟨b, hb⟩ := sel_exists (done := d) hm _ v (Nat.le_refl _) hv hdv
        rw [hb] at hsel; cases hsel
      · rfl
    | some a =>
      obtain ⟨ha, hda, hfa, _⟩ := selB_some.1 hsel
      have hadd := hd.add hs hm ha hfa
      have hlt := undone_add (m := m) ha hda
      have I := ih (addDone n m d a) (by omega) hadd
      simp only
      generalize selGo n m f (addDone n m d a) = rest at *
      have hcd : ∀ v ∈ compL n m a, d v = false := fun v hv => by
        obtain ⟨h1, h2, h3⟩ := (mem_comp hm ha).1 hv
        cases hdv : d v
        · rfl
        · have := hd.reach h2 hdv
          rw [hda] at this; cases this
      have hadd_f : ∀ v, addDone n m d a v = false → d v = false ∧ v ∉ compL n m a := fun v h => by
        unfold addDone at h
        simpa using h
      refine ⟨fun v hv h => ?_, fun i hi v hv => ?_, fun i j hi hj hij v hv => ?_, fun i hi v hv y hy => ?_, ?_, ?_⟩
      · by_cases hc : v ∈ compL n m a
        · exact ⟨0, by simp, by simpa using hc⟩
        · obtain ⟨i, hi, hi2⟩ := I.all v hv (by unfold addDone; simp [h, hc])
          exact ⟨i + 1, by simpa using hi, by simpa using hi2⟩
      · cases i with
        | zero => exact ⟨((mem_comp hm ha).1 (by simpa using hv)).1, hcd v (by simpa using hv)⟩
        | succ i =>
          have := I.mem i (by simpa using hi) v (by simpa using hv)
          exact ⟨this.1, (hadd_f v this.2).1⟩
      · obtain ⟨j, rfl⟩ : ∃ j', j = j' + 1 := ⟨j - 1, by omega⟩
        cases i with
        | zero =>
          intro h
          have := (I.mem j (by simpa using hj) v (by simpa using h)).2
          exact (hadd_f v this).2 (by simpa using hv)
        | succ i =>
          have := I.dis i j (by simpa using hi) (by simpa using hj) (by omega) v (by simpa using hv)
          simpa using this
      · cases i with
        | zero =>
          have hv2 : v ∈ compL n m a := by simpa using hv
          obtain ⟨h1, h2, h3⟩ := (mem_comp hm ha).1 hv2
          have hay : SR succ a y := by
            rcases h3 with rfl | h3
            · exact .one hy
            · exact .step h3 hy
          have hyn := hs v h1 y hy
          rcases (freeB_iff hm ha).1 hfa y hyn hay with h4 | h4
          · exact .inl h4
          · exact .inr ⟨0, by simp, Nat.le_refl _, by simpa using (mem_comp hm ha).2 ⟨hyn, .inr h4, .inr hay⟩⟩
        | succ i =>
          rcases I.edge i (by simpa using hi) v (by simpa using hv) y hy with h1 | ⟨j, hj, hji, hy2⟩
          · unfold addDone at h1
            simp only [Bool.or_eq_true, List.contains_iff_mem] at h1
            rcases h1 with h1 | h1
            · exact .inl h1
            · exact .inr ⟨0, by simp, Nat.zero_le _, by simpa using h1⟩
          · exact .inr ⟨j + 1, by simpa using hj, by omega, by simpa using hy2⟩
      · rw [List.map_cons, List.sum_cons, I.sum]
        unfold undone
        rw [filter_split (fun x => !d x) (fun x => (compL n m a).contains x) (List.range n)]
        congr 1
        · unfold compL
          congr 1
          apply List.filter_congr
          intro x hx
          have h1 := contains_comp (n := n) (m := m) (a := a) (i := x) (by simpa using hx)
          unfold compL at h1
          rw [h1]
          cases hc : (x == a || (m x a && m a x))
          · simp
          · have : x ∈ compL n m a := List.mem_filter.2 ⟨hx, hc⟩
            rw [hcd x this]; rfl
        · congr 1
          apply List.filter_congr
          intro x _
          unfold addDone
          rw [Bool.not_or]
      · intro g hg
        rcases List.mem_cons.1 hg with rfl | hg
        · exact ⟨a, ha, rfl⟩
        · exact I.comp g hg
end

theorem grps_ok {n : Nat} {es : List Edge} (hg : graphOk n es = true) : GsOk (nextN es) n (reachB es) (fun _ => false) (grpsL n es) := by
  have hok : ∀ e ∈ es, edgeOk n e = true := by unfold graphOk at hg; simp at hg; exact hg.2
  have hs : ∀ x, x < n → ∀ y ∈ nextN es x, y < n := by
    intro x _ y hy
    have := (mem_next hok).1 hy
    unfold pairsN at this
    obtain ⟨e, he, e2⟩ := List.mem_map.1 this
    have := hok e he
    unfold edgeOk at this
    simp at this
    injection e2
    omega
  unfold grpsL
  rw [if_pos hg]
  exact selGo_ok hs (fun i j _ => reachB_iff es i j) n (fun _ => false) (by rw [undone_none]; exact Nat.le_refl _) (by intro x hx; cases hx)
theorem at_eq {succ : Nat → List Nat} {n : Nat} {m : Nat → Nat → Bool} {d : Nat → Bool} {gs : List (List Nat)} (h : GsOk succ n m d gs) {i : Nat} (hi : i < gs.length) {v : Nat} (hv : v ∈ gs[i]'hi) : atG gs (v : Int) = i := by
  refine atG_here hi (fun j hj => ?_) (List.any_eq_true.2 ⟨v, hv, by simp⟩)
  have hj2 : j < gs.length := by omega
  rw [List.getD_eq_getElem?_getD, List.getElem?_eq_getElem hj2, Option.getD_some, List.any_eq_false]
  intro x hx
  have : x ≠ v := fun e => h.dis j i hj2 hi hj x hx (e ▸ hv)
  simp
  omega
theorem at_all {n : Nat} {es : List Edge} (hg : graphOk n es = true) {v : Nat} (hv : v < n) : 0 ≤ atG (grpsL n es) (v : Int) := by
  obtain ⟨i, hi, h⟩ := (grps_ok hg).all v hv rfl
  rw [at_eq (grps_ok hg) hi h]
  omega
theorem at_edge {n : Nat} {es : List Edge} (hg : graphOk n es = true) {e : Edge} (he : e ∈ es) : atG (grpsL n es) e.b ≤ atG (grpsL n es) e.a := by
  have hok : ∀ e ∈ es, edgeOk n e = true := by unfold graphOk at hg; simp at hg; exact hg.2
  have hoe := hok e he
  unfold edgeOk at hoe
  simp only [Bool.and_eq_true, decide_eq_true_eq] at hoe
  obtain ⟨x, hx⟩ := Int.eq_ofNat_of_zero_le hoe.1.1
  obtain ⟨y, hy⟩ := Int.eq_ofNat_of_zero_le hoe.1.2
  have hxy : y ∈ nextN es x := (mem_next hok).2 (List.mem_map.2 ⟨e, he, by rw [hx, hy]; rfl⟩)
  rw [hx, hy]
  have O := grps_ok hg
  obtain ⟨i, hi, h⟩ := O.all x (by omega) rfl
  rcases O.edge i hi x h y hxy with h1 | ⟨j, hj, hji, h2⟩
  · cases h1
  · rw [at_eq O hi h, at_eq O hj h2]
    omega
theorem grps_sum {n : Nat} {es : List Edge} (hg : graphOk n es = true) : ((grpsL n es).map List.length).sum = n := by
  rw [(grps_ok hg).sum, undone_none]
theorem grps_flat {n : Nat} {es : List Edge} (hg : graphOk n es = true) : (grpsL n es).flatten.length = n := by
  rw [List.length_flatten, grps_sum hg]
/-- Who goes round. -/
theorem round_any {n : Nat} {es : List Edge} (hg : graphOk n es = true) : (grpsL n es).any (roundL es) = true ↔ ∃ v, v < n ∧ SR (nextN es) v v := by
  have O := grps_ok hg
  have hm : ∀ i j, i < n → (reachB es i j = true ↔ SR (nextN es) i j) := fun i j _ => reachB_iff es i j
  rw [List.any_eq_true]
  constructor
  · rintro ⟨g, hgm, hr⟩
    rw [← round_ref hgm] at hr
    obtain ⟨a, ha, e⟩ := O.comp g hgm
    obtain ⟨p1, p2, p3⟩ := grps_mem hgm
    cases hl : decide (1 < g.length)
    · rw [hl, Bool.false_or, reachB_iff] at hr
      have h0 : g.getD 0 0 ∈ g := by
        rw [List.getD_eq_getElem?_getD, List.getElem?_eq_getElem p1, Option.getD_some]
        exact List.getElem_mem p1
      exact ⟨_, by have := p3 _ h0; omega, hr⟩
    · have hl1 : 1 < g.length := by simpa using hl
      have hne : g[0]'p1 ≠ g[1]'hl1 := by
        have hnd : g.Nodup := by
          rw [e]
          unfold compL
          exact (List.nodup_range).sublist List.filter_sublist
        exact List.pairwise_iff_getElem.1 hnd 0 1 p1 hl1 (by omega)
      have m0 : g[0]'p1 ∈ compL n (reachB es) a := e ▸ List.getElem_mem p1
      have m1 : g[1]'hl1 ∈ compL n (reachB es) a := e ▸ List.getElem_mem hl1
      obtain ⟨q1, q2, q3⟩ := (mem_comp hm ha).1 m0
      obtain ⟨r1, r2, r3⟩ := (mem_comp hm ha).1 m1
      have s1 : RS (nextN es) (g[0]'p1) (g[1]'hl1) := q2.trans r3
      have s2 : RS (nextN es) (g[1]'hl1) (g[0]'p1) := r2.trans q3
      rcases s1 with h | s1
      · exact absurd h hne
      · rcases s2 with h | s2
        · exact absurd h.symm hne
        · exact ⟨_, q1, s1.trans s2⟩
  · rintro ⟨v, hv, hr⟩
    obtain ⟨i, hi, h⟩ := O.all v hv rfl
    refine ⟨_, List.getElem_mem hi, ?_⟩
    rw [← round_ref (List.getElem_mem hi)]
    generalize (grpsL n es)[i]'hi = g at *
    cases hl : decide (1 < g.length)
    · have p1 := List.length_pos_of_mem h
      have hl1 : g.length = 1 := by simp at hl; omega
      obtain ⟨x, hx⟩ := List.length_eq_one_iff.1 hl1
      subst hx
      simp at h
      subst h
      simpa [reachB_iff] using hr
    · rfl
theorem reach_mem {n : Nat} {es : List Edge} (hg : graphOk n es = true) {v : Nat} (hv : v < n) : v ∈ reachL n v es ↔ SR (nextN es) v v := by
  unfold reachL
  rw [if_pos (by rw [hg]; simp; omega), List.mem_filter]
  simp [reachB_iff, hv]
theorem cycle_pos {n : Int} {es : List Edge} : 0 < (cycleL n es).length ↔ (grpsL n es).any (roundL es) = true := by
  unfold cycleL
  rw [List.any_eq_true]
  cases hf : (grpsL n es).find? (roundL es)
  · rw [List.find?_eq_none] at hf
    simp only [Option.getD_none, List.length_nil, Nat.lt_irrefl, false_iff]
    rintro ⟨x, hx, h2⟩
    exact hf x hx h2
  · rename_i g
    have h1 := List.mem_of_find?_eq_some hf
    have h2 := List.find?_some hf
    simp only [Option.getD_some]
    exact ⟨fun _ => ⟨g, h1, h2⟩, fun _ => (grps_mem h1).1⟩
theorem flat_mem {n : Nat} {es : List Edge} (hg : graphOk n es = true) {v : Nat} (hv : v < n) : v ∈ (grpsL n es).flatten := by
  obtain ⟨i, hi, h⟩ := (grps_ok hg).all v hv rfl
  exact List.mem_flatten.2 ⟨_, List.getElem_mem hi, h⟩
theorem at_one {o : List Nat} {v : Nat} (h : v ∈ o) : atG [o] (v : Int) = 0 := by
  refine atG_here (k := 0) (by simp) (fun j hj => absurd hj (Nat.not_lt_zero j)) (List.any_eq_true.2 ⟨v, h, by simp⟩)

end Go.Proofs.Ytnbnhchgkbbiiaa
