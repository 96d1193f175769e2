/- Contract: groups sorted by their least vertices. -/
import Derived.Test.YtnbnhchgkbbiiaaGrpS
import Derived.Test.YtnbnhchgkbbiiaaSrt
namespace Go.Proofs.Ytnbnhchgkbbiiaa
open Go.RowKit Go.Sort Go.Shelf

section
variable {α : Type} [Inhabited α] (enc : α → Value) (w : World) (blk off m : Nat) (dk : Array α) (os : Array Obj)
theorem sw_heap {k : Nat} (h1 : k ≠ blk) (h2 : k < w.heap.size) : (sortWorld enc w blk off m dk os).heap[k]? = w.heap[k]? := by
  have e1 : (sortWorld enc w blk off m dk os).heap = w.heap.modify blk (onCells (putCells enc off dk)) ++ os := rfl
  rw [e1, Array.getElem?_append_left (by simpa using h2), Array.getElem?_modify, if_neg (fun e => h1 e.symm)]
theorem sw_size : w.heap.size ≤ (sortWorld enc w blk off m dk os).heap.size := by
  have e1 : (sortWorld enc w blk off m dk os).heap = w.heap.modify blk (onCells (putCells enc off dk)) ++ os := rfl
  rw [e1, Array.size_append, Array.size_modify]
  omega
theorem sw_grown : w.grownBy (sortWorld enc w blk off m dk os) (some blk) :=
  ⟨rfl, rfl, rfl, sw_size enc w blk off m dk os, fun _ hk hn => sw_heap enc w blk off m dk os (fun e => hn (by rw [e])) hk⟩
theorem sw_cell {d0 : Array α} (h0 : Holds enc w blk off d0) (hs : dk.size = d0.size) (hb : blk < w.heap.size) {j : Nat} (hj : j < dk.size) : (sortWorld enc w blk off m dk os).cell? ⟨blk, off + j, none⟩ = some (enc dk[j]!) := by
  have h1 : (sortWorld enc w blk off m dk os).heap[blk]? = (putRow enc w blk off dk).heap[blk]? := by
    have e1 : (sortWorld enc w blk off m dk os).heap = (putRow enc w blk off dk).heap ++ os := rfl
    rw [e1, Array.getElem?_append_left (by simpa using hb)]
  exact (World.cell?_of_block (a := ⟨blk, off + j, none⟩) h1).trans (cell?_putRow enc w blk off d0 dk h0 hs j hj)
end

theorem g_sort (K bl wb vb cL : Nat) (AL : Option Addr) (L : List Nat) (w : World) (hK : L.length = K) (hK2 : K ≤ 1000)
    (hbl : w.heap[bl]? = some (.cells (cellsOf K fun j => .int .i64 (j : Int)) 3 (0, 0)))
    (hv : w.heap[vb]? = some (.cells #[.pointer (some ⟨wb, 0, none⟩)] 64 (0, 0)))
    (hl : w.cell? ⟨wb, 3003, none⟩ = some (.slice AL K cL)) (hwb : wb < w.heap.size) (hr : Ints w AL (zs L)) (hb : ∀ z ∈ L, z < 1000) (h1 : bl ≠ vb) (h2 : bl ≠ wb) (h3 : ∀ c o, AL = some ⟨c, o, none⟩ → c ≠ bl) :
    Calls Try.prog 40 #[.slice (some ⟨bl, 0, none⟩) K K, .func (.func 41) #[] #[.pointer (some ⟨vb, 0, none⟩)]] w fun e w' => e = .returned (.tuple #[]) ∧ w.grownBy w' (some bl) ∧
      ∃ by_ : List Nat, by_.Perm (List.range K) ∧ by_.Pairwise (fun a b => L.getD a 0 ≤ L.getD b 0) ∧ Ints w' (some ⟨bl, 0, none⟩) (zs by_) := by
  cases K with
  | zero =>
    have h := AnyF.slices_SortFunc_none (P := Try.prog) (ρ := Try.sortI_ren) { Try.sortI with } (some ⟨bl, 0, none⟩) 0 (.func (.func 41) #[] #[.pointer (some ⟨vb, 0, none⟩)]) w
    change Calls Try.prog 40 _ _ _ at h
    refine h.mono ?_
    rintro e w' ⟨rfl, rfl⟩
    exact ⟨rfl, World.grownBy.refl _ _, [], by simp, List.Pairwise.nil, RowOf.nil _ _ _⟩
  | succ n =>
    have hH : Holds (fun x : Fin (n + 1) => Value.int .i64 (x.val : Int)) w bl 0 (Array.ofFn fun x : Fin (n + 1) => x) := by
      intro j hj
      have hj' : j < n + 1 := by simpa using hj
      have e1 : (cellsOf (n + 1) fun j => Value.int .i64 (j : Int))[j]? = some (.int .i64 (j : Int)) := cellsOf_get _ _ hj'
      refine ⟨?_, by simp [World.frozen?, hbl]⟩
      rw [getElem!_pos _ j hj, Array.getElem_ofFn]
      generalize (cellsOf (n + 1) fun j => Value.int .i64 (j : Int)) = cs at *
      simp [World.cell?, hbl, e1]
    have hLn : ∀ x : Fin (n + 1), x.val < L.length := fun x => by rw [hK]; exact x.isLt
    have hO : SWO (ltOf fun x y : Fin (n + 1) => ((zs L)[x.val]'(by rw [zs_len]; exact hLn x)) - (zs L)[y.val]'(by rw [zs_len]; exact hLn y)) := by
      refine ⟨fun x => ?_, fun x y z h1 h2 => ?_, fun x y z h1 h2 => ?_⟩ <;> simp only [ltOf, decide_eq_true_eq, decide_eq_false_iff_not] at * <;> omega
    have eg : ∀ args w, (callFunc 41 args).run Try.prog w = .ok (.enter 41 args) w := enters_of Try.func41 (by kernel_rfl) rfl
    have hcmp : CmpReads Try.prog 41 #[.pointer (some ⟨vb, 0, none⟩)] (fun x : Fin (n + 1) => Value.int .i64 (x.val : Int)) (fun x y : Fin (n + 1) => ((zs L)[x.val]'(by rw [zs_len]; exact hLn x)) - (zs L)[y.val]'(by rw [zs_len]; exact hLn y)) bl 0 (Array.ofFn fun x : Fin (n + 1) => x).size w := by
      intro m os dk hdk x y
      refine g_cmp x.val y.val wb vb cL AL (zs L) _ ?_ ?_ ?_ (by rw [zs_len]; exact hLn x) (by rw [zs_len]; exact hLn y) ?_
      · have := (sw_heap (fun x : Fin (n + 1) => Value.int .i64 (x.val : Int)) w bl 0 m dk os (fun e => h1 e.symm) (lt_of_obj hv)).trans hv
        simp [World.cell?, this]
      · rw [zs_len, hK]
        exact (World.cell?_of_block (a := ⟨wb, 3003, none⟩) (sw_heap (fun x : Fin (n + 1) => Value.int .i64 (x.val : Int)) w bl 0 m dk os (fun e => h2 e.symm) hwb)).trans hl
      · exact Row.keep hr (sw_size _ _ _ _ _ _ _) (fun c o e hc => sw_heap _ _ _ _ _ _ _ (h3 c o e) hc)
      · intro z hz
        unfold zs at hz
        obtain ⟨z', hz1, rfl⟩ := List.mem_map.1 hz
        have := hb z' hz1
        exact ⟨Int.natCast_nonneg _, by show (z' : Int) < 1000; omega⟩
    have hs0 : (Array.ofFn fun x : Fin (n + 1) => x).size = n + 1 := by simp
    have h := Any.slices_SortFunc (P := Try.prog) (ρ := Try.sortI_ren) Try.sortI (fun x : Fin (n + 1) => Value.int .i64 (x.val : Int)) (fun _ => rfl) _ hO 41 _ bl 0 (n + 1) (Array.ofFn fun x : Fin (n + 1) => x) w eg hcmp.lays hH (lt_of_obj hbl) (by omega)
    change Calls Try.prog 40 _ _ _ at h
    rw [hs0] at h
    refine h.mono ?_
    rintro e w' ⟨rfl, d', q, os, hp, hsrt, rfl⟩
    obtain ⟨p1, -, p3⟩ := hp
    rw [hs0] at p1
    refine ⟨rfl, sw_grown _ _ _ _ _ _ _, d'.toList.map Fin.val, ?_, ?_, ?_⟩
    · have e1 : d'.extract 0 (n + 1) = d' := Array.extract_eq_self_of_le (by omega)
      have e2 : (Array.ofFn fun x : Fin (n + 1) => x).extract 0 (n + 1) = Array.ofFn fun x : Fin (n + 1) => x := Array.extract_eq_self_of_le (by omega)
      rw [e1, e2] at p3
      have p4 := p3.map Fin.val
      refine p4.trans (List.Perm.of_eq ?_)
      apply List.ext_getElem
      · simp
      · intro i h1 h2
        rw [List.getElem_map, Array.getElem_toList, Array.getElem_ofFn, List.getElem_range]
    · rw [List.pairwise_map, List.pairwise_iff_getElem]
      intro i j hi hj hij
      have hi' : i < d'.size := by simpa using hi
      have hj' : j < d'.size := by simpa using hj
      have := hsrt i j (Nat.zero_le _) hij (by omega)
      rw [getElem!_pos _ i hi', getElem!_pos _ j hj'] at this
      simp only [ltOf, decide_eq_false_iff_not] at this
      simp only [Array.getElem_toList]
      have g1 := hLn (d'[i]'hi')
      have g2 := hLn (d'[j]'hj')
      rw [zs_get _ _ g1, zs_get _ _ g2] at this
      simp only [List.getD_eq_getElem?_getD, List.getElem?_eq_getElem g1, List.getElem?_eq_getElem g2, Option.getD_some]
      omega
    · refine ⟨flat_len _ _ intC.hf _, fun _ => ⟨bl, 0, rfl, Nat.lt_of_lt_of_le (lt_of_obj hbl) (sw_size _ _ _ _ _ _ _), fun j u hu => ?_⟩⟩
      rw [show (zs (d'.toList.map Fin.val)).flatMap intC.f = (zs (d'.toList.map Fin.val)).map (Value.int .i64) from flat_one _ _] at hu
      have hj : j < d'.size := by
        have := (List.getElem?_eq_some_iff.1 hu).1
        simpa [zs] using this
      have e1 := sw_cell (fun x : Fin (n + 1) => Value.int .i64 (x.val : Int)) w bl 0 q d' os hH (p1.trans hs0.symm) (lt_of_obj hbl) hj
      rw [e1, ← hu]
      simp [zs, hj]

end Go.Proofs.Ytnbnhchgkbbiiaa
