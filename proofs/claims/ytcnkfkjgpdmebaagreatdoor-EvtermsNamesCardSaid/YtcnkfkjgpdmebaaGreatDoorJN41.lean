/- Contract: a type and predicates with other variables, which a function value tells one by one (scheme's renamed). -/
import Derived.Test.YtcnkfkjgpdmebaaGreatDoorJN40
import Derived.WalkLawsBesides
/- Contract: a type and predicates with other variables, which a function value tells one by one (scheme's renamed). -/
namespace Go.Proofs.YtcnkfkjgpdmebaaGreatDoor
open Go.RowKit Go.Shelf

theorem szS_ren (vars : List Int) (types : List Ty) (r : Int → Int) (t : Ty) : flatB t = true → (∀ v ∈ t.vars, (putAt vars types v).map Ty.pure = some (.mk [] (r v) [])) → szS vars types t = t.size ∧ dpS vars types t = t.depth := by
  induction t using Ty.ind with
  | h t ih =>
  intro hf h
  rw [szS_eq, dpS_eq, Ty.size_eq t, Ty.depth_eq t]
  rw [vars_eq] at h
  by_cases hc : t.con = []
  · rw [if_pos hc, if_pos hc]
    have := h t.var (by rw [if_pos hc]; simp)
    cases e : putAt vars types t.var with
    | none => rw [e] at this; cases this
    | some u =>
      rw [e] at this
      have hu : u.pure = .mk [] (r t.var) [] := by simpa using this
      rw [Ty.pure_eq u] at hu
      injection hu with _ _ hu
      have ha : u.args = [] := by simpa using hu
      rw [flatB_var hf hc]
      show u.size = _ ∧ u.depth = _
      rw [Ty.size_eq u, Ty.depth_eq u, ha]
      exact ⟨rfl, rfl⟩
  · rw [if_neg hc, if_neg hc]
    have hk : ∀ k ∈ t.args, szS vars types k = k.size ∧ dpS vars types k = k.depth := fun k hk => ih k hk (flatB_arg hf hk) (fun v hv => h v (List.mem_append.2 (.inr (List.mem_flatten.2 ⟨_, List.mem_map.2 ⟨k, hk, rfl⟩, hv⟩))))
    rw [List.map_congr_left (fun k hk' => (hk k hk').1), List.map_congr_left (fun k hk' => (hk k hk').2)]
    exact ⟨rfl, rfl⟩
theorem SetsTo.small {s : List Pr} {L R : List Int} (h : SetsTo s L R L.length) {t : Ty} (hl : legalT t = true) (ht : ∀ v ∈ t.vars, v ∈ L) : szS (vsP s) (tsP s) t ≤ 4096 ∧ dpS (vsP s) (tsP s) t ≤ 100 := by
  obtain ⟨h1, h2⟩ := szS_ren (vsP s) (tsP s) (rOf L R) t (flatB_legal hl) (fun v hv => by rw [h.at_, List.take_length, if_pos (ht v hv)])
  obtain ⟨h3, h4, -⟩ := legal_parts hl
  omega
theorem gb_ap2 {w a b : World} {bn p : Nat} {v v' : Value} (h : w.grownBy a (some bn)) (k : Ap2 p a v b v') (hp : w.heap.size ≤ p) (hv : ∀ c, v.ownBlock = some c → w.heap.size ≤ c) : w.grownBy b (some bn) :=
  ⟨k.os.trans h.os, k.tape.trans h.tape, k.output.trans h.output, Nat.le_trans h.size k.size, fun j hj hne => (k.block j (Nat.lt_of_lt_of_le hj h.size) (by omega) (fun e => by have := hv j e; omega)).trans (h.block j hj hne)⟩
theorem row_ap2 {w w' : World} {A : Option Addr} {k n p : Nat} {l : List Value} {v v' : Value} (h : Row w A k n l) (a : Ap2 p w v w' v') (hp : n ≠ 0 → ∀ c o, A = some ⟨c, o, none⟩ → c ≠ p ∧ v.ownBlock ≠ some c) : Row w' A k n l := by
  refine ⟨h.1, fun hn => ?_⟩
  obtain ⟨b, o, e, hb, hc⟩ := h.2 hn
  obtain ⟨h1, h2⟩ := hp (by omega) b o e
  have hx := a.block b hb h1 h2
  exact ⟨b, o, e, Nat.lt_of_lt_of_le hb a.size, fun j u hu => (World.cell?_of_block hx).trans (hc j u hu)⟩
/-- How a round of renamed finds things. -/
structure RenSt (w wr : World) (bn p : Nat) (A3 : Option Addr) (L R : List Int) (t : Ty) (k : Nat) (s : List Pr) (v : Value) : Prop where
  sub : SubOwn wr (w.heap.size + 2) p v s
  sets : SetsTo s L R k
  awn : ∀ x ∈ s, awayB bn x.ty = true
  row : Ints wr A3 L
  off : L.length ≠ 0 → ∀ c o, A3 = some ⟨c, o, none⟩ → c ≠ p ∧ v.ownBlock ≠ some c ∧ w.heap.size + 2 ≤ c
  g : w.grownBy wr (some bn)
  box : TBox wr w.heap.size t
  zero : wr.heap[w.heap.size + 1]? = some (.cells #[.string ⟨#[]⟩, .int .i64 0, .slice none 0 0] 53 (0, 0))
theorem RenSt.step {w wr w4 w5 : World} {bn p : Nat} {A3 : Option Addr} {L R : List Int} {t : Ty} {k : Nat} {s : List Pr} {v v' : Value} {i : Nat} {t' : Ty} (h : RenSt w wr bn p A3 L R t k s v) (hk : k < L.length) (hn : L.Nodup) (hbn : bn < w.heap.size)
    (hg4 : wr.grownBy w4 (some bn)) (hl : LbP s (L[k]'hk) i) (ht : t'.pure = .mk [] (R.getD k 0) []) (hs5 : SubOwn w5 (w.heap.size + 2) p v' (insP s i (L[k]'hk) t')) (ha5 : Ap2 p w4 v w5 v') (haw : ∀ c, c < w4.heap.size → awayB c t' = true) : RenSt w w5 bn p A3 L R t (k + 1) (insP s i (L[k]'hk) t') v' := by
  have hp := h.sub.hB
  have hv := h.sub.ge
  have hsz := h.g.size
  have hsz4 := hg4.size
  have hblk : ∀ j, w.heap.size ≤ j → j < w.heap.size + 2 → j < wr.heap.size → w5.heap[j]? = wr.heap[j]? := fun j h1 h2 h3 =>
    (ha5.block j (by omega) (by omega) (fun e => by have := hv j e; omega)).trans (hg4.block j h3 (fun e => by injection e with e; omega))
  refine ⟨hs5, h.sets.snoc hn hk hl ht, fun x hx => ?_, row_ap2 (row_grown h.row hg4 (fun hn0 a e e2 => ?_)) ha5 (fun hn0 c o e => ⟨(h.off hn0 c o e).1, (h.off hn0 c o e).2.1⟩), fun hn0 c o e => ?_, gb_ap2 (grown_trans h.g hg4) ha5 (by omega) (fun c hc => by have := hv c hc; omega), (hblk _ (Nat.le_refl _) (by omega) h.box.lt).trans h.box, (hblk _ (by omega) (by omega) (lt_of_obj h.zero)).trans h.zero⟩
  · rcases insP_mem.1 hx with rfl | hx
    · exact haw bn (by omega)
    · exact h.awn x hx
  · obtain ⟨b, o, e3, hb, -⟩ := h.row.2 (by omega)
    rw [e3] at e
    injection e with e
    subst e
    have := (h.off hn0 b o e3).2.2
    injection e2 with e2
    have e2 : bn = b := e2
    omega
  · obtain ⟨h1, h2, h3⟩ := h.off hn0 c o e
    refine ⟨h1, fun e2 => ?_, h3⟩
    rcases ha5.own with h4 | h4
    · exact h2 (h4 ▸ e2)
    · obtain ⟨b, o', e3, hb, -⟩ := h.row.2 (by omega)
      rw [e3] at e
      injection e with e
      injection e with e _
      subst e
      have := h4 _ e2
      omega


end Go.Proofs.YtcnkfkjgpdmebaaGreatDoor

/- Contract: the instance that a predicate has, and what that wants (heads.By). -/
namespace Go.Proofs.YtcnkfkjgpdmebaaGreatDoor
open Go.RowKit

/-- Types in order, put in place of the numbers from 0 on. -/
structure SetQ (types : List Ty) (k : Nat) (s : List Pr) : Prop where
  rise : RiseP s
  len : s.length = k
  at_ : ∀ x : Int, (putAt (vsP s) (tsP s) x).map Ty.pure = if 0 ≤ x ∧ x < (k : Int) then (types[x.toNat]?).map Ty.pure else none
theorem SetQ.zero (types : List Ty) : SetQ types 0 [] := ⟨List.Pairwise.nil, rfl, fun x => by rw [if_neg (by omega)]; rfl⟩
theorem SetQ.nope {types : List Ty} {k : Nat} {s : List Pr} (h : SetQ types k s) : putAt (vsP s) (tsP s) (k : Int) = none := by
  have := h.at_ (k : Int)
  rw [if_neg (by omega)] at this
  simpa using this
theorem SetQ.no {types : List Ty} {k : Nat} {s : List Pr} (h : SetQ types k s) {i : Nat} (hl : LbP s (k : Int) i) : hasAt s (k : Int) i = false := by
  have h1 := hasAt_iff h.rise hl
  rw [h.nope] at h1
  cases e : hasAt s (k : Int) i
  · rfl
  · exact absurd (h1.1 e) (by simp)
theorem SetQ.step {types : List Ty} {k : Nat} {s : List Pr} (h : SetQ types k s) (hk : k < types.length) {i : Nat} (hl : LbP s (k : Int) i) {t : Ty} (ht : t.pure = (types[k]'hk).pure) : SetQ types (k + 1) (insP s i (k : Int) t) := by
  have hn := h.no hl
  refine ⟨insP_rise h.rise hl hn, by rw [insP_len hl.le, h.len], fun x => ?_⟩
  rw [insP_at h.rise hl hn]
  by_cases e : x = (k : Int)
  · subst e
    rw [if_pos rfl, if_pos (by omega)]
    simp [hk, ht]
  · rw [if_neg e, h.at_]
    by_cases e2 : 0 ≤ x ∧ x < (k : Int)
    · rw [if_pos e2, if_pos (by omega)]
    · rw [if_neg e2, if_neg (by omega)]
theorem SetQ.legal {types : List Ty} {k : Nat} {s : List Pr} (h : SetQ types k s) (ht : ∀ t ∈ types, legalT t = true) : ∀ p ∈ s, legalT p.ty = true := by
  intro p hp
  have h1 : putAt (vsP s) (tsP s) p.v = some p.ty := (putAt_some h.rise).2 ⟨p, hp, rfl, rfl⟩
  have h2 := h.at_ p.v
  rw [h1] at h2
  split at h2
  · cases e : types[p.v.toNat]? with
    | none => rw [e] at h2; cases h2
    | some u =>
      rw [e] at h2
      have h2 : p.ty.pure = u.pure := by simpa using h2
      rw [legal_pure h2]
      exact ht u (List.mem_of_getElem? e)
  · cases h2
theorem SetQ.var {types : List Ty} {s : List Pr} (h : SetQ types types.length s) {v : Nat} (hv : v < types.length) : ∃ u, putAt (vsP s) (tsP s) (v : Int) = some u ∧ u.pure = (types[v]'hv).pure := by
  have h2 := h.at_ (v : Int)
  rw [if_pos (by omega)] at h2
  simp only [Int.toNat_natCast, List.getElem?_eq_getElem hv, Option.map_some] at h2
  cases e : putAt (vsP s) (tsP s) (v : Int) with
  | none => rw [e] at h2; cases h2
  | some u => rw [e] at h2; exact ⟨u, rfl, by simpa using h2⟩
theorem SetQ.puts {types : List Ty} {n : Int} {s : List Pr} (h : SetQ types types.length s) (hn : n ≤ types.length) (ht : ∀ t ∈ types, legalT t = true) {preds : List Pd} (hp : ∀ p ∈ preds, headPlB n p = true) : putsOk s preds := by
  intro p hpm
  obtain ⟨v, A, c, e, hv⟩ := head_parts (hp p hpm)
  have hvl : v < types.length := by omega
  obtain ⟨u, hat, hu⟩ := h.var hvl
  obtain ⟨l1, l2, -⟩ := legal_parts ((legal_pure hu).trans (ht _ (List.getElem_mem hvl)))
  rw [e]
  refine ⟨legal_var _ _ _, ?_, ?_⟩
  · rw [szS_eq, if_pos (show (Ty.mk [] (v : Int) A c []).con = [] from rfl)]
    show (match putAt (vsP s) (tsP s) (v : Int) with | some u => u.size | none => 1) ≤ 4096
    rw [hat]
    exact l1
  · rw [dpS_eq, if_pos (show (Ty.mk [] (v : Int) A c []).con = [] from rfl)]
    show (match putAt (vsP s) (tsP s) (v : Int) with | some u => u.depth | none => 1) ≤ 100
    rw [hat]
    exact l2
theorem SetQ.with_ {types : List Ty} {n : Int} {s : List Pr} (h : SetQ types types.length s) (hn : n ≤ types.length) {preds : List Pd} (hp : ∀ p ∈ preds, headPlB n p = true) :
    (preds.map fun x => (x.cls, putP (vsP s) (tsP s) x.ty)) = preds.map fun p => (p.cls, (types.map Ty.pure).getD p.ty.var.toNat (.mk [] 0 [])) := by
  refine List.map_congr_left fun p hpm => ?_
  obtain ⟨v, A, c, e, hv⟩ := head_parts (hp p hpm)
  have hvl : v < types.length := by omega
  obtain ⟨u, hat, hu⟩ := h.var hvl
  rw [e]
  congr 1
  rw [putP_eq, if_pos (show (Ty.mk [] (v : Int) A c []).con = [] from rfl)]
  show ((putAt (vsP s) (tsP s) (v : Int)).getD _).pure = (types.map Ty.pure).getD (v : Int).toNat _
  rw [hat, Int.toNat_natCast]
  simp [hvl, hu]
theorem SetQ.from_ {types : List Ty} {n : Int} {s : List Pr} (h : SetQ types types.length s) (hn : n ≤ types.length) {preds ds : List Pd} (hp : ∀ p ∈ preds, headPlB n p = true) (hd : ds.map (fun d => (d.cls, d.ty.pure)) = preds.map fun x => (x.cls, putP (vsP s) (tsP s) x.ty)) :
    ∀ d ∈ ds, ∃ a ∈ types, d.ty.pure = a.pure := by
  intro d hdm
  have hm : (d.cls, d.ty.pure) ∈ preds.map fun x => (x.cls, putP (vsP s) (tsP s) x.ty) := hd ▸ List.mem_map.2 ⟨d, hdm, rfl⟩
  obtain ⟨p, hpm, e⟩ := List.mem_map.1 hm
  injection e with _ e2
  obtain ⟨v, A, c, e, hv⟩ := head_parts (hp p hpm)
  have hvl : v < types.length := by omega
  obtain ⟨u, hat, hu⟩ := h.var hvl
  refine ⟨_, List.getElem_mem hvl, ?_⟩
  rw [← e2, e, putP_eq, if_pos (show (Ty.mk [] (v : Int) A c []).con = [] from rfl)]
  show ((putAt (vsP s) (tsP s) (v : Int)).getD _).pure = _
  rw [hat]
  exact hu
theorem legal_kid {t k : Ty} (h : legalT t = true) (hk : k ∈ t.args) : legalT k = true := by
  obtain ⟨h1, h2, h3⟩ := legal_parts h
  have a1 := Ty.size_arg hk
  have a2 : k.depth ≤ t.depth := by
    rw [Ty.depth_eq t]
    have : ∀ l : List Ty, k ∈ l → k.depth ≤ (l.map Ty.depth).foldr max 0 := by
      intro l
      induction l with
      | nil => intro h; cases h
      | cons x l ih =>
        intro h
        rw [List.map_cons, List.foldr_cons]
        rcases List.mem_cons.1 h with rfl | h
        · omega
        · have := ih h; omega
    have := this _ hk
    omega
  rw [shapeT_eq, Bool.and_eq_true, List.all_eq_true] at h3
  unfold legalT
  simp only [Bool.and_eq_true, decide_eq_true_eq]
  exact ⟨⟨by omega, by omega⟩, h3.2 _ hk⟩
/-- What heads.By tells. -/
structure HByOk (w w' : World) (args : List Ty) (O : Option (Nat × List (Str × Ty.Pure))) (i : Int) (A : Option Addr) (c : Nat) (ds : List Pd) : Prop where
  len : ds.length ≤ 40000
  args : ∀ d ∈ ds, ∃ a ∈ args, d.ty.pure = a.pure
  yes : ∀ k wants, O = some (k, wants) → i = (k : Int) ∧ ds.map (fun d => (d.cls, d.ty.pure)) = wants
  inn : PdsIn w' A ds
  le : ds.length ≤ c
  max : c ≤ 9223372036854775807
  away : ∀ d ∈ ds, ∀ c, c < w.heap.size → awayB c d.ty = true
theorem byQ_none {ins : List InD} {c : Str} {t : Ty} (h : findH ins c t.con = none) : byQ ins c t.pure = none := by
  rw [Ty.pure_eq]
  simp only [byQ, h]
theorem byQ_some {ins : List InD} {c : Str} {t : Ty} {i : Nat} (h : findH ins c t.con = some i) (hi : i < ins.length) : byQ ins c t.pure = if t.con = [] ∨ (ins[i]'hi).n ≠ (t.args.length : Int) then none else some (i, (ins[i]'hi).preds.map fun p => (p.cls, (t.args.map Ty.pure).getD p.ty.var.toNat (.mk [] 0 []))) := by
  rw [Ty.pure_eq]
  simp only [byQ, h, List.getElem?_eq_getElem hi, List.length_map]

set_option maxRecDepth 10000 in
set_option maxHeartbeats 8000000 in
theorem h_by (I : Option Addr) (ic : Nat) (ins : List InD) (p : Pd) (w : World) (hI : InsIn w I ins) (hp : PdIn w p) (hleg : legalT p.ty = true) (hok : ∀ x ∈ ins, instB x = true) (hlen : ins.length ≤ 1000000) (hpl : ∀ x ∈ ins, x.preds.length ≤ 40000) :
    Calls Tryz.prog 149 #[.slice I ins.length ic, pdV p] w fun e w' => (∃ i A c ds, e = .returned (.tuple #[.int .i64 i, .slice A (List.length ds) c, .bool (byQ ins p.cls p.ty.pure).isSome]) ∧ HByOk w w' p.ty.args (byQ ins p.cls p.ty.pure) i A c ds) ∧ Ext w w' := by
  obtain ⟨W, hW⟩ : ∃ W, W = w.alloc (.cells #[encStr p.cls, encStr p.ty.con, .int .i64 p.ty.var, .slice p.ty.A p.ty.args.length p.ty.cap] 55) := ⟨_, rfl⟩
  have HW := hide hW.symm
  have X0 : Hid (Ext w W) := hide (by rw [hW]; exact (Ext.refl _).alloc _)
  have B2 : Hid (PdBox W w.heap.size p) := hide (by rw [hW]; exact PdBox.new w p)
  have HF := hide (h_find I ic ins p.cls p.ty.con W (hI.ext X0.out) (by omega))
  have HI := hide (hI.ext X0.out)
  have HT := hide (hp.ty.ext X0.out)
  have Hzero : Hid (∀ w' i, HByOk w w' p.ty.args none i none 0 []) := hide (fun w' i => ⟨by simp, by simp, fun k wants h => (by cases h), ⟨RowOf.nil _ _ _, by simp⟩, Nat.le_refl _, by omega, by simp⟩)
  clear hW hp hI
  obtain ⟨e0, e1, e2, e3⟩ := B2.out.cells
  have n0 := B2.out.lt
  have Hl := hide hleg
  clear hleg
  cases hf : findH ins p.cls p.ty.con with
  | none =>
    rw [byQ_none hf]
    rw [hf] at HF
    clear hf hok hpl
    unfold pdV
    go_enter Tryz.func149, Tryz.ntmps149
    go_upto_region 1 with fail
    rw [HW.out]
    go_wp2_with fail
    refine HF.out.mono ?_
    rintro e w2 ⟨rfl, hx⟩
    have X2 := hide hx
    obtain ⟨e0, e1, e2, e3⟩ := (B2.out.ext X2.out).cells
    have n0 := (B2.out.ext X2.out).lt
    clear hx HF
    go_wp2
    go_quiet (fail)
    go_wp2
    go_ret3
    exact ⟨⟨0, none, 0, [], rfl, Hzero.out _ _⟩, X0.out.trans (X2.out.drewN _)⟩
  | some i =>
    obtain ⟨hi, -, -⟩ := find_lt hf
    rw [byQ_some hf hi]
    rw [hf] at HF
    have Hx := hide (hok _ (List.getElem_mem hi))
    have Hxp := hide (hpl _ (List.getElem_mem hi))
    have Hxi := hide (HI.out.all _ (List.getElem_mem hi))
    obtain ⟨b, o, rfl, hb, q0, q1, q2, q3⟩ := HI.out.at_ hi
    have hi' : (i : Int) < (ins.length : Int) := by omega
    have hi0 : (0 : Int) ≤ (i : Int) := by omega
    have HI2 : Hid (∀ w', Ext W w' → b < w'.heap.size ∧ w'.cell? ⟨b, o + i * 4 + 2, none⟩ = some (.int .i64 (ins[i]'hi).n) ∧ w'.cell? ⟨b, o + i * 4 + 3, none⟩ = some (.slice (ins[i]'hi).A (ins[i]'hi).preds.length (ins[i]'hi).cap)) := hide (fun w' e => ⟨Nat.lt_of_lt_of_le hb e.size, e.cell q2, e.cell q3⟩)
    clear hf hok hpl q0 q1 q2 q3 hb
    generalize ins[i]'hi = x at *
    unfold pdV
    by_cases hc : p.ty.con = []
    · rw [if_pos (.inl hc)]
      have hc2 : (p.ty.con == ([] : Str)) = true := by simpa using hc
      clear hc
      go_enter Tryz.func149, Tryz.ntmps149
      go_upto_region 1 with fail
      rw [HW.out]
      go_wp2_with fail
      refine HF.out.mono ?_
      rintro e w2 ⟨rfl, hx⟩
      have X2 := hide hx
      obtain ⟨e0, e1, e2, e3⟩ := (B2.out.ext X2.out).cells
      have n0 := (B2.out.ext X2.out).lt
      clear hx HF
      go_wp2
      go_quiet (fail)
      go_wp2
      go_ret3
      exact ⟨⟨0, none, 0, [], rfl, Hzero.out _ _⟩, X0.out.trans (X2.out.drewN _)⟩
    · have hc2 : (p.ty.con == ([] : Str)) = false := by simpa using hc
      by_cases hn : x.n = (p.ty.args.length : Int)
      · rw [if_neg (by rintro (h | h); exact hc h; exact h hn)]
        have hn2 : (x.n != (p.ty.args.length : Int)) = false := by simp [hn]
        clear hc
        have HBx : Hid (∀ w', Ext W w' → w.heap.size < w'.heap.size ∧ w'.cell? ⟨w.heap.size, 0, none⟩ = some (encStr p.cls) ∧ w'.cell? ⟨w.heap.size, 1, none⟩ = some (encStr p.ty.con) ∧ w'.cell? ⟨w.heap.size, 2, none⟩ = some (.int .i64 p.ty.var) ∧ w'.cell? ⟨w.heap.size, 3, none⟩ = some (.slice p.ty.A p.ty.args.length p.ty.cap)) := hide (fun w' e => ⟨(B2.out.ext e).lt, (B2.out.ext e).cells⟩)
        have HA : Hid (TysIn W p.ty.A p.ty.args) := hide HT.out.all
        have Hla : Hid (∀ t ∈ p.ty.args, legalT t = true) := hide (fun t ht => legal_kid Hl.out ht)
        have Hn4 : Hid (p.ty.args.length ≤ 100 ∧ x.n ≤ (p.ty.args.length : Int)) := hide (by
          have hh := Hx.out
          unfold instB at hh
          rw [Bool.and_eq_true] at hh
          have := instHd_n hh.1
          omega)
        have Hhp : Hid (∀ y ∈ x.preds, headPlB x.n y = true) := hide (by
          have hh := Hx.out
          unfold instB at hh
          rw [Bool.and_eq_true, List.all_eq_true] at hh
          exact hh.2)
        clear B2 HT Hl Hx e0 e1 e2 e3 n0 hn
        generalize p.ty.A = PA at *
        generalize p.ty.args = args at *
        generalize p.ty.cap = pc at *
        generalize p.ty.var = pv at *
        generalize p.ty.con = pcon at *
        generalize p.cls = pcls at *
        obtain ⟨n0, e0, e1, e2, e3⟩ := HBx.out W (Ext.refl _)
        go_enter Tryz.func149, Tryz.ntmps149
        go_upto_region 1 with fail
        rw [HW.out]
        clear HW
        go_wp2_with fail
        refine HF.out.mono ?_
        rintro e w2 ⟨rfl, hx⟩
        have X2 := hide hx
        clear hx HF n0 e0 e1 e2 e3
        obtain ⟨n0, e0, e1, e2, e3⟩ := HBx.out _ X2.out
        obtain ⟨m0, d2, d3⟩ := HI2.out _ X2.out
        go_upto_region 2 with fail
        go_quiet (fail)
        go_upto_region 4 with fail
        refine wp_name ?_
        intro W3 hW3
        have X3 : Hid (Ext W W3) := hide (by rw [hW3]; exact X2.out.drewN _)
        clear hW3 X2 n0 e0 e1 e2 e3 m0 d2 d3
        obtain ⟨n0, e0, e1, e2, e3⟩ := HBx.out _ X3.out
        have hs3 := X3.out.size
        go_wp2_with fail
        refine (s_new W3).mono ?_
        rintro e w4 ⟨rfl, hsub, hx⟩
        have HS4 := hide hsub
        have X4 := hide (X3.out.trans hx)
        clear hx hsub n0 e0 e1 e2 e3
        generalize hB0 : W3.heap.size = B0 at *
        clear hB0 X3
        obtain ⟨n0, e0, e1, e2, e3⟩ := HBx.out _ X4.out
        go_wp2
        go_loopw [49] (fun i wr => ∃ (k : Nat) (s : List Pr) (v : Value), k ≤ args.length ∧ i = .int .i64 k ∧ Hid (SubOwn wr B0 B0 v s) ∧ Hid (SetQ args k s) ∧ Hid (Ext W wr)) (fun i _ => args.length - (intOf i).toNat)
        case atStart => exact ⟨0, [], .slice none 0 0, Nat.zero_le _, rfl, HS4, hide (SetQ.zero _), X4⟩
        case round =>
          obtain ⟨k, s, v, hk, rfl, HS, HN, HX⟩ := hrel
          by_cases hlt : k < args.length
          · have hlt' : (k : Int) < (args.length : Int) := by omega
            have hk0 : (0 : Int) ≤ (k : Int) := by omega
            obtain ⟨b7, o7, rfl, hb7, q0, q1, q2⟩ := (HA.out.ext HX.out).at_ hlt
            have hlk := Hla.out _ (List.getElem_mem hlt)
            have HC := hide (fun w' (e : Ext wr w') => hide (s_set B0 B0 v s (k : Int) (args[k]'hlt) w' (HS.out.ext e) ((HA.out.args _ (List.getElem_mem hlt)).ext (HX.out.trans e)) (by have := (legal_parts hlk).1; omega) hlk (by have := HN.out.len; have := Hn4.out.1; omega) (fun i hl => HN.out.no hl)))
            have HNs := hide (fun i (hl : LbP s (k : Int) i) (t : Ty) (ht : t.pure = (args[k]'hlt).pure) => HN.out.step hlt hl ht)
            generalize args[k]'hlt = t at *
            unfold tyV at HC
            have hge := HS.out.ge
            have hsw := HX.out.size
            have ha100 := Hn4.out.1
            clear hlk
            go_wp2_with fail
            refine (HC.out _ ((Ext.refl _).alloc _)).out.mono ?_
            rintro e w6 ⟨rfl, i6, v6, t6, hl6, ht6, hs6, ha6, -⟩
            have HS6 := hide hs6
            have HN6 := hide (HNs.out i6 hl6 t6 ht6)
            have X6 : Hid (Ext W w6) := hide (Ext.of_below ((HX.out.alloc _).below.trans (ha6.below (by simp; omega) hs3 (fun k hk => Nat.le_trans hs3 (hge k hk)))) (Nat.le_refl _))
            clear hl6 ht6 hs6 ha6 HC HNs hge q0 q1 q2 hb7
            go_wp2
            go_roundw
            case rel => exact ⟨k + 1, _, v6, hlt, by go_num, HS6, HN6, X6⟩
            case measure => simp [intOf]; omega
          · have hge : ¬ (k : Int) < (args.length : Int) := by omega
            have HNf : Hid (SetQ args args.length s) := hide (by have := HN.out; rwa [show k = args.length by omega] at this)
            obtain ⟨m0, d2, d3⟩ := HI2.out _ HX.out
            obtain ⟨SA, sc, rfl, hsi⟩ := HS.out.sub
            have HC := hide (s_preds B0 SA sc s x.A x.cap x.preds wr hsi (HNf.out.legal Hla.out) ((Hxi.out.row).ext HX.out) Hxp.out (HNf.out.puts Hn4.out.2 Hla.out Hhp.out))
            have Hww := hide (HNf.out.with_ Hn4.out.2 Hhp.out)
            clear hsi
            go_wp2_with fail
            refine HC.out.mono ?_
            rintro e w8 ⟨⟨v, ds, rfl, hown, hds⟩, hx⟩
            obtain ⟨A9, c9, rfl, l1, l2, hrow, -⟩ := RowOf.own pdC hown
            have HX8 := hide (X0.out.trans (HX.out.trans hx))
            have HR : Hid (PdsIn w8 A9 ds) := hide ⟨hrow, fun d hd => ⟨by
              obtain ⟨j, hj, rfl⟩ := List.mem_iff_getElem.1 hd
              have h2 : j < x.preds.length := by rw [← hds.len]; exact hj
              have e := congrArg (fun l => l[j]?) hds.is
              simp only [List.getElem?_map, List.getElem?_eq_getElem hj, List.getElem?_eq_getElem h2, Option.map_some, Option.some.injEq, Prod.mk.injEq] at e
              rw [e.1]
              exact (Hxi.out.row.all _ (List.getElem_mem h2)).cls, hds.ty d hd⟩⟩
            have HY : Hid (HByOk w w8 args (some (i, x.preds.map fun y => (y.cls, (args.map Ty.pure).getD y.ty.var.toNat (.mk [] 0 [])))) (i : Int) A9 c9 ds) := hide ⟨by rw [hds.len]; exact Hxp.out, HNf.out.from_ Hn4.out.2 Hhp.out hds.is, fun k wants h => (by injection h with h; injection h with h1 h2; subst h1 h2; exact ⟨rfl, hds.is.trans Hww.out⟩), HR.out, l1, l2, fun d hd c hc => hds.away d hd c (by have := X0.out.size; have := HX.out.size; omega) (fun y hy => by
              obtain ⟨v, A, cc, e, -⟩ := head_parts (Hhp.out y hy)
              rw [e]
              exact awayB_mk (fun h => absurd rfl h) (by intro z hz; cases hz))⟩
            clear hown hds hrow hx HC d2 d3 m0
            go_wp2
            go_ret3
            exact ⟨⟨_, A9, c9, ds, rfl, HY.out⟩, HX8.out⟩
      · rw [if_pos (.inr hn)]
        have hn2 : (x.n != (p.ty.args.length : Int)) = true := by simp [hn]
        clear hc hn
        go_enter Tryz.func149, Tryz.ntmps149
        go_upto_region 1 with fail
        rw [HW.out]
        go_wp2_with fail
        refine HF.out.mono ?_
        rintro e w2 ⟨rfl, hx⟩
        have X2 := hide hx
        obtain ⟨e0, e1, e2, e3⟩ := (B2.out.ext X2.out).cells
        have n0 := (B2.out.ext X2.out).lt
        obtain ⟨m0, d2, d3⟩ := HI2.out _ X2.out
        clear hx HF
        go_wp2
        go_quiet (fail)
        go_wp2
        go_ret3
        exact ⟨⟨0, none, 0, [], rfl, Hzero.out _ _⟩, X0.out.trans (X2.out.drewN _)⟩

end Go.Proofs.YtcnkfkjgpdmebaaGreatDoor

/- Contract: the search for a predicate's proof (entail.search); who finds none panics. -/
namespace Go.Proofs.YtcnkfkjgpdmebaaGreatDoor
open Go.RowKit

/-- How the search ends. -/
def SrOut (w w' : World) (p : Pd) (e : Ending) : Except Int (Pf.Pure × Nat) → Prop
  | .ok (Q, n) => ∃ u, e = .returned (.tuple #[pfV u, .int .i64 (n : Nat)]) ∧ PfIn w' u ∧ u.pure = Q ∧ u.size = n ∧ n ≤ 4096 ∧ ∀ c, c < w.heap.size → awayB c p.ty = true → AwayF c u
  | .error k => e = .panicked [{ v := .iface 164 (.agg #[.int .i64 k]), recovered := false }]
def srEnd (k : Nat) (args : List Ty.Pure) : Except Int (List Pf.Pure × Nat) → Except Int (Pf.Pure × Nat)
  | .error e => .error e
  | .ok (l, n) => .ok (.mk 3 (k : Int) args l, n)
/-- The search's contract at types of so many parts at most. -/
def SrC (x : EnD) (G : Option Addr) (gc : Nat) (given : List Pd) (m : Nat) : Prop :=
  ∀ (p : Pd) (w : World), EnIn w x → PdsIn w G given → PdIn w p → legalT p.ty = true → p.ty.size ≤ m →
    Calls Tryz.prog 102 #[enV x, .slice G given.length gc, pdV p] w fun e w' => SrOut w w' p e (srch x.classes x.insts given m p.cls p.ty.pure) ∧ Ext w w'
/-- What is asked of what is declared. -/
structure EnOk (x : EnD) (given : List Pd) : Prop where
  gl : given.length ≤ 1000000
  l9 : x.classes.length ≤ 9
  s9 : ∀ c ∈ x.classes, c.sups.length ≤ 9
  ok : ∀ y ∈ x.insts, instB y = true
  il : x.insts.length ≤ 1000000
  pl : ∀ y ∈ x.insts, y.preds.length ≤ 40000

theorem Row.box4 {w : World} {b : Nat} {t : TypeId} {fr : Nat × Nat} (x0 x1 x2 x3 : Value) (h : w.heap[b]? = some (.cells #[x0, x1, x2, x3] t fr)) : Row w (some ⟨b, 0, none⟩) 4 1 [x0, x1, x2, x3] := by
  refine ⟨rfl, fun _ => ⟨b, 0, rfl, lt_of_obj h, fun j u hu => ?_⟩⟩
  rw [Nat.zero_add]
  simp only [World.cell?, h]
  simpa using hu
theorem flatF_snoc (us : List Pf) (y : Pf) : (us ++ [y]).flatMap pfC.f = us.flatMap pfC.f ++ [.int .i64 y.kind, .int .i64 y.n, .slice y.T y.types.length y.tc, .slice y.A y.kids.length y.cap] := by
  rw [List.flatMap_append, List.flatMap_cons, List.flatMap_nil, List.append_nil]
  rfl
/-- The proof by an instance, half made: its box, and the proofs of what is wanted so far. -/
structure KsSt (wx wr : World) (b N k : Nat) (u : Ty) (us : List Pf) (v : Value) : Prop where
  box : wr.heap[b]? = some (.cells #[.int .i64 3, .int .i64 (k : Nat), .slice u.A u.args.length u.cap, v] 34 (0, 0))
  own : wr.ownsRow (b + 1) 34 4 v us.length (us.flatMap pfC.f)
  inn : ∀ y ∈ us, PfIn wr y
  offb : ∀ y ∈ us, AwayF b y
  offr : ∀ y ∈ us, ∀ c, v.ownBlock = some c → AwayF c y
  away : ∀ y ∈ us, ∀ c, c < N → AwayF c y
  ext : Ext wx wr
theorem KsSt.snoc {wx wr w5 w6 : World} {b N k : Nat} {u : Ty} {us : List Pf} {v v6 : Value} {y : Pf} (h : KsSt wx wr b N k u us v) (hb : wx.heap.size ≤ b) (e : Ext wr w5) (hy : PfIn w5 y) (hyb : AwayF b y) (hyr : ∀ c, v.ownBlock = some c → AwayF c y) (hyN : ∀ c, c < N → AwayF c y)
    (hown : w6.ownsRow (b + 1) 34 4 v6 (us ++ [y]).length ((us ++ [y]).flatMap pfC.f)) (hg : w5.grownBy w6 v.ownBlock) (hat : v6.ownBlock = v.ownBlock ∨ ∀ c, v6.ownBlock = some c → w5.heap.size ≤ c) :
    KsSt wx (w6.setCell ⟨b, 3, none⟩ v6) b N k u (us ++ [y]) v6 := by
  have hge : ∀ c, v.ownBlock = some c → b + 1 ≤ c := fun c hc => (h.own.lt c hc).1
  have hb5 : w5.heap[b]? = _ := (e.heap (lt_of_obj h.box)).trans h.box
  have hb6 : w6.heap[b]? = _ := (hg.block b (lt_of_obj hb5) (fun e => by have := hge b e.symm; omega)).trans hb5
  have all : ∀ z ∈ us ++ [y], PfIn w5 z ∧ AwayF b z ∧ (∀ c, v.ownBlock = some c → AwayF c z) ∧ ∀ c, c < N → AwayF c z := fun z hz => by
    rcases List.mem_append.1 hz with hz | hz
    · exact ⟨(h.inn z hz).ext e, h.offb z hz, h.offr z hz, h.away z hz⟩
    · rw [List.mem_singleton] at hz; subst hz
      exact ⟨hy, hyb, hyr, hyN⟩
  refine ⟨?_, hown.kept (grown_cell _ _ _ _) (.inr (fun e => by have := (hown.lt _ e).1; omega)), fun z hz => ?_, fun z hz => (all z hz).2.1, fun z hz c hc => ?_, fun z hz => (all z hz).2.2.2, ?_⟩
  · rw [blk_setCell hb6]
    simp
  · obtain ⟨a1, a2, a3, -⟩ := all z hz
    exact (a1.grown hg a3).grown (grown_cell _ _ _ _) (fun c e => by injection e with e; subst e; exact a2)
  · obtain ⟨a1, -, a3, -⟩ := all z hz
    rcases hat with h1 | h1
    · exact a3 c (h1 ▸ hc)
    · exact awayF_new a1 (h1 c hc)
  · exact ((h.ext.trans e).grown hg (fun c hc => by have := hge c hc; omega)).setCell (show wx.heap.size ≤ b from hb) _
theorem KsSt.more {wx wr w5 : World} {b N k : Nat} {u : Ty} {us : List Pf} {v : Value} (h : KsSt wx wr b N k u us v) (e : Ext wr w5) : KsSt wx w5 b N k u us v :=
  ⟨(e.heap (lt_of_obj h.box)).trans h.box, own_extB h.own e, fun y hy => (h.inn y hy).ext e, h.offb, h.offr, h.away, h.ext.trans e⟩
theorem psum_snoc (us : List Pf) (y : Pf) {n m : Nat} (h : (us.map Pf.size).sum + 1 = n) (hy : y.size = m) : ((us ++ [y]).map Pf.size).sum + 1 = n + m := by
  rw [List.map_append, List.sum_append]
  simp [hy]
  omega

set_option maxRecDepth 10000 in
set_option maxHeartbeats 8000000 in
theorem en_search_step (x : EnD) (G : Option Addr) (gc : Nat) (given : List Pd) (hE : EnOk x given) (m : Nat) (ih : SrC x G gc given m) : SrC x G gc given (m + 1) := by
  intro p w he hg hp hleg hsz
  obtain ⟨W, hW⟩ : ∃ W, W = ((w.alloc (.cells #[.slice x.D x.datas.length x.dc, .slice x.C x.classes.length x.cc, .slice x.I x.insts.length x.ic] 26)).alloc (.cells #[encStr p.cls, encStr p.ty.con, .int .i64 p.ty.var, .slice p.ty.A p.ty.args.length p.ty.cap] 55)).alloc (.cells #[.int .i64 0, .int .i64 0, .slice none 0 0, .slice none 0 0] 34) := ⟨_, rfl⟩
  have HW := hide hW.symm
  have X0 : Hid (Ext w W) := hide (by rw [hW]; exact (((Ext.refl _).alloc _).alloc _).alloc _)
  have B1 : Hid (EnBox W w.heap.size x) := hide (by rw [hW]; exact (EnBox.new w x).ext (((Ext.refl _).alloc _).alloc _))
  have B2 : Hid (PdBox W (w.heap.size + 1) p) := hide (by rw [hW]; exact PdBox.ext (at_newB _ _ _ (by simp)) ((Ext.refl _).alloc _))
  have B3 : Hid (W.heap[w.heap.size + 1 + 1]? = some (.cells #[.int .i64 0, .int .i64 0, .slice none 0 0, .slice none 0 0] 34)) := hide (by rw [hW]; exact at_newB _ _ _ (by simp))
  have HsW : Hid (W.heap.size = w.heap.size + 3) := hide (by rw [hW]; simp)
  have HS := hide (en_super x G gc given p W (he.ext X0.out) (hg.ext X0.out) (hp.ext X0.out) hE.gl hE.l9 hE.s9)
  have HY := hide (fun w' (e : Ext W w') => hide (h_by x.I x.ic x.insts p w' (he.insts.ext (X0.out.trans e)) (hp.ext (X0.out.trans e)) hleg hE.ok hE.il hE.pl))
  have HIH := hide (fun q w' (e : Ext W w') hq hl hs => hide (ih q w' (he.ext (X0.out.trans e)) (hg.ext (X0.out.trans e)) hq hl hs))
  have HT := hide (hp.ty.ext X0.out)
  have HLg := hide hleg
  have Hsz := hide hsz
  have HR : Hid (srch x.classes x.insts given (m + 1) p.cls p.ty.pure = match supQ x.classes given p.cls p.ty.pure with
    | some (i, path) => .ok (chainQ i path, path.length + 1)
    | none => match byQ x.insts p.cls p.ty.pure with
      | none => .error 16
      | some (i, wants) => match kidsGo (srch x.classes x.insts given m) wants [] 1 with
        | .error e => .error e
        | .ok (l, n) => .ok (.mk 3 i p.ty.pure.args l, n)) := hide rfl
  have Hp0 := hide hp.ty
  obtain ⟨i0, hi, hz0, hz1, hz2⟩ := info_parts pf_info4
  clear hW he hg hp hleg hsz ih hE
  generalize srch x.classes x.insts given (m + 1) p.cls p.ty.pure = R at *
  generalize supQ x.classes given p.cls p.ty.pure = O at *
  generalize byQ x.insts p.cls p.ty.pure = O2 at *
  obtain ⟨c0, c1, c2, c3⟩ := B2.out.cells
  obtain ⟨e0, e1, e2⟩ := B1.out.cells
  have n1 := B1.out.lt
  have n2 := B2.out.lt
  unfold enV pdV at *
  go_enter Tryz.func102, Tryz.ntmps102
  go_upto_region 1 with fail
  rw [HW.out]
  clear HW
  go_wp2_with fail
  refine HS.out.mono ?_
  rintro e w2 ⟨⟨u, rfl, hu⟩, hx2⟩
  have X2 := hide hx2
  have Hu := hide hu
  clear hx2 hu HS c0 c1 c2 c3 e0 e1 e2 n1 n2
  go_upto_region 2 with fail
  refine wp_name ?_
  intro W3 hW3
  have E3 : Hid (Ext w2 W3) := hide (by rw [hW3]; exact (Ext.refl _).alloc _)
  have D1 : Hid (FBox W3 w2.heap.size u) := hide (by rw [hW3]; exact FBox.new w2 u)
  have X3 := hide (X2.out.trans E3.out)
  clear hW3
  cases O with
  | some ip =>
    obtain ⟨i, path⟩ := ip
    obtain ⟨hcp, hl9⟩ := Hu.out.yes i path rfl
    have hR : R = .ok (chainQ i path, path.length + 1) := HR.out
    clear HR HY HIH
    subst hR
    have hsz := chain_size i path.length path rfl u hcp.is
    have HCp := hide (hcp.ext E3.out)
    have B4 : Hid (W3.heap[w.heap.size + 1 + 1]? = some (.cells #[.int .i64 0, .int .i64 0, .slice none 0 0, .slice none 0 0] 34)) := hide ((X3.out.heap (lt_of_obj B3.out)).trans B3.out)
    have HSz := hide (fun w' (h : PfIn w' u) => hide (f_size24 u w' h (by omega)))
    rw [hsz] at HSz
    have Hsz2 := hide hsz
    obtain ⟨d0, d1, d2, d3⟩ := D1.out.cells
    have n4 := D1.out.lt
    obtain ⟨z0, z1, z2, z3, zf0, zf1, zf2, zf3⟩ := f0_cells B4.out
    have hz := lt_of_obj B4.out
    have hne : w2.heap.size ≠ w.heap.size + 1 + 1 := by have := X2.out.size; have := HsW.out; omega
    clear hcp Hu hsz
    go_wp2
    go_region_held3 (fun w' => w'.cell? ⟨w2.heap.size, 0, none⟩ = some (.int .i64 u.kind) ∧ w'.cell? ⟨w2.heap.size, 1, none⟩ = some (.int .i64 u.n) ∧ w'.cell? ⟨w2.heap.size, 2, none⟩ = some (.slice u.T u.types.length u.tc) ∧ w'.cell? ⟨w2.heap.size, 3, none⟩ = some (.slice u.A u.kids.length u.cap)) (first | with_reducible assumption | (obtain ⟨g0, g1, g2, g3⟩ := kS; with_reducible exact ⟨cell4 hne _ _ _ _ g0, cell4 hne _ _ _ _ g1, cell4 hne _ _ _ _ g2, cell4 hne _ _ _ _ g3⟩) | go_keep) (first
      | (go_at_call 148
         refine Calls.mono (HSz.out _ (HCp.out.inn.ext (by repeat (first | exact Ext.refl _ | exact Ext.pre (by simp) | exact Ext.alloc (by assumption) _ | refine Ext.alloc ?_ _ |  refine Ext.more ?_ _ _ | refine Ext.drew ?_ | refine Ext.drewN ?_ _)))).out ?_
         rintro e y ⟨rfl, hy⟩
         have EA : Hid (Ext W3 y) := hide (by refine Ext.trans ?_ hy; exact (by repeat (first | exact Ext.refl _ | exact Ext.pre (by simp) | exact Ext.alloc (by assumption) _ | refine Ext.alloc ?_ _ |  refine Ext.more ?_ _ _ | refine Ext.drew ?_ | refine Ext.drewN ?_ _)))
         have kS := And.intro (EA.out.cell d0) (And.intro (EA.out.cell d1) (And.intro (EA.out.cell d2) (EA.out.cell d3)))
         have B5 := hide ((EA.out.heap (lt_of_obj B4.out)).trans B4.out)
         obtain ⟨a0, a1, a2, a3, af0, af1, af2, af3⟩ := f0_cells B5.out
         have haz := lt_of_obj B5.out))
    have HF := hide ((HCp.out.ext EA.out).set (HCp.out.away (w.heap.size + 1 + 1) (by have := HsW.out; omega)) u)
    have XF := hide (setPf_ext (X0.out.trans (X3.out.trans EA.out)) (by omega : w.heap.size ≤ w.heap.size + 1 + 1) u)
    go_wp2
    refine bodyPost_ret (v := .tuple #[pfV u, .int .i64 ((path.length + 1 : Nat) : Int)]) ?_ rfl ⟨⟨u, rfl, ?_, HF.out.is, Hsz2.out, by omega, fun c hc _ => HF.out.away c (by have := X0.out.size; omega)⟩, ?_⟩
    · simp [results, Tryz.f102, go_sem, a0, a1, a2, a3, pfV]
    · exact HF.out.inn.ext (by repeat (first | exact Ext.refl _ | exact Ext.pre (by simp) | exact Ext.alloc (by assumption) _ | refine Ext.alloc ?_ _ |  refine Ext.more ?_ _ _ | refine Ext.drew ?_ | refine Ext.drewN ?_ _))
    · exact XF.out.trans (by repeat (first | exact Ext.refl _ | exact Ext.pre (by simp) | exact Ext.alloc (by assumption) _ | refine Ext.alloc ?_ _ |  refine Ext.more ?_ _ _ | refine Ext.drew ?_ | refine Ext.drewN ?_ _))
  | none =>
    have hu0 := Hu.out.no rfl
    clear Hu D1 hu0
    obtain ⟨c0, c1, c2, c3⟩ := (B2.out.ext X3.out).cells
    obtain ⟨e0, e1, e2⟩ := (B1.out.ext X3.out).cells
    have n1 := (B1.out.ext X3.out).lt
    have n2 := (B2.out.ext X3.out).lt
    go_wp2_with fail
    refine (HY.out _ X3.out).out.mono ?_
    rintro e w4 ⟨⟨i, A, ca, ds, rfl, hby⟩, hx4⟩
    have X4 := hide (X3.out.trans hx4)
    have hx4s := hx4.size
    have Hby := hide hby
    clear hx4 hby HY c0 c1 c2 c3 e0 e1 e2 n1 n2
    cases O2 with
    | none =>
      have hR : R = .error 16 := HR.out
      clear HR
      subst hR
      go_wp2
      exact ⟨rfl, rfl, X0.out.trans X4.out⟩
    | some iw =>
      obtain ⟨k, wants⟩ := iw
      obtain ⟨hi, hds⟩ := Hby.out.yes k wants rfl
      subst hi
      have HD := hide Hby.out.inn
      have hdl := Hby.out.le
      have hdn := Hby.out.len
      have Hda := hide Hby.out.args
      have hca := Hby.out.max
      have HDa := hide Hby.out.away
      have Hds := hide hds
      have hw3 := X3.out.size
      clear Hby hds
      go_upto_region 7 with fail
      refine wp_name ?_
      intro W5 hW5
      have E5 : Hid (Ext w4 W5) := hide (by rw [hW5]; exact Ext.refl _)
      have X5 := hide (X4.out.trans E5.out)
      clear hW5
      obtain ⟨c0, c1, c2, c3⟩ := (B2.out.ext X5.out).cells
      have n2 := (B2.out.ext X5.out).lt
      have HSS := hide (fun w' (e : Ext W5 w') => And.intro (e.cell c1) (And.intro (e.cell c2) (e.cell c3)))
      have hne0 : w.heap.size + 1 ≠ W5.heap.size := by omega
      have HT5 := hide (HT.out.ext X5.out)
      have hsz9 : p.ty.size ≤ 900000 := by have := (legal_parts HLg.out).1; omega
      go_cut [13, 14] (fun s13 s14 wx => ∃ (b11 : Nat) (u : Ty), s13 = .pointer (some ⟨b11, 0, none⟩) ∧ Hid (AppAt w W5 wx b11 p.ty u))
      case first =>
        go_region_held3 (fun w' => w'.cell? ⟨w.heap.size + 1, 1, none⟩ = some (encStr p.ty.con) ∧ w'.cell? ⟨w.heap.size + 1, 2, none⟩ = some (.int .i64 p.ty.var) ∧ w'.cell? ⟨w.heap.size + 1, 3, none⟩ = some (.slice p.ty.A p.ty.args.length p.ty.cap)) (first | with_reducible assumption | (obtain ⟨g1, g2, g3⟩ := kS; with_reducible exact ⟨cell3 hnk _ _ _ g1, cell3 hnk _ _ _ g2, cell3 hnk _ _ _ g3⟩) | go_keep) (first
          | (go_at_call 81
             refine Calls.mono (s_new _) ?_
             rintro e y1 ⟨rfl, hsub, hx1⟩
             have HSub := hide (sub_none hsub)
             first
               | (have HSub : Hid (SubIn y1 (W5.heap.size + 1) none 0 []) := hide (by have h := HSub.out; have e : ∀ o, (W5.alloc o).drew.heap.size = W5.heap.size + 1 := fun o => World.size_alloc W5 o; rw [e] at h; exact h))
               | skip
             have E1 : Hid (Ext W5 y1) := hide (by refine Ext.trans ?_ hx1; exact (by repeat (first | exact Ext.refl _ | exact Ext.pre (by simp) | exact Ext.alloc (by assumption) _ | refine Ext.alloc ?_ _ |  refine Ext.more ?_ _ _ | refine Ext.drew ?_ | refine Ext.drewN ?_ _)))
             have kS := HSS.out y1 E1.out
             (try (have hz1 := hide ((hx1.heap (lt_of_obj (at_newD W5 _))).trans (at_newD W5 _))))
             clear hsub hx1)
          | (go_at_call 82
             refine Calls.mono (s_apply _ none 0 [] p.ty _ (HSub.out.ext (by repeat (first | exact Ext.refl _ | exact Ext.pre (by simp) | exact Ext.alloc (by assumption) _ | refine Ext.alloc ?_ _ |  refine Ext.more ?_ _ _ | refine Ext.drew ?_ | refine Ext.drewN ?_ _))) (by simp) (HT5.out.ext (E1.out.trans (by repeat (first | exact Ext.refl _ | exact Ext.pre (by simp) | exact Ext.alloc (by assumption) _ | refine Ext.alloc ?_ _ |  refine Ext.more ?_ _ _ | refine Ext.drew ?_ | refine Ext.drewN ?_ _)))) hsz9) ?_
             rintro e y2 ⟨⟨u, n, rfl, hu⟩, hx2⟩
             have Ec : Hid (Ext y1 y2) := hide (by refine Ext.trans ?_ hx2; exact (by repeat (first | exact Ext.refl _ | exact Ext.pre (by simp) | exact Ext.alloc (by assumption) _ | refine Ext.alloc ?_ _ |  refine Ext.more ?_ _ _ | refine Ext.drew ?_ | refine Ext.drewN ?_ _)))
             have kS := HSS.out y2 (E1.out.trans Ec.out)
             first
               | (have hz : Hid (y2.heap[y1.heap.size]? = some (.cells #[.string ⟨#[]⟩, .int .i64 0, .slice none 0 0] 53 (0, 0))) := hide (by with_reducible exact (hx2.heap (lt_of_obj (at_newB y1 _ _ rfl))).trans (at_newB y1 _ _ rfl)); have hnk : w.heap.size + 1 ≠ y1.heap.size := by have := E1.out.size; omega)
               | (have hz := hide ((Ec.out.heap (lt_of_obj hz1.out)).trans hz1.out); have hnk := hne0)
               | skip
             try (have z0 := bytes_block hz.out 0; have z1 := bytes_block hz.out 1; have z2 := bytes_block hz.out 2; have z3 := free_block hz.out 0; have z4 := free_block hz.out 1; have z5 := free_block hz.out 2; simp only [List.getElem?_toArray, List.getElem?_cons_zero, List.getElem?_cons_succ] at z0 z1 z2)))
        all_goals (go_wp2_with fail; go_meet; first
          | exact ⟨y2.heap.size, u, rfl, hide (AppAt.behind E1.out hx2 hu.ty (app_nil HLg.out hu).2 hu.away)⟩
          | exact ⟨y1.heap.size, u, rfl, hide (AppAt.ahead (E1.out.trans ((Ext.refl _).alloc _)) hx2 E1.out.size (at_newB y1 _ _ rfl) HT5.out hu.ty (app_nil HLg.out hu).2 hu.away)⟩
          | exact ⟨W5.heap.size, u, rfl, hide (AppAt.ahead E1.out hx2 (Nat.le_refl _) hz1.out HT5.out hu.ty (app_nil HLg.out hu).2 hu.away)⟩)
      case rest =>
        obtain ⟨b11, u, rfl, HA⟩ := hcut
        have XA := hide (X5.out.trans HA.out.x)
        have t2 := HA.out.box.c2
        have tl := HA.out.box.lt
        obtain ⟨KR, hKR⟩ : ∃ KR, KR = kidsGo (srch x.classes x.insts given m) wants [] 1 := ⟨_, rfl⟩
        have HRk : Hid (R = srEnd k p.ty.pure.args KR) := hide (by rw [hKR]; exact HR.out)
        have HK0 : Hid (kidsGo (srch x.classes x.insts given m) (wants.drop 0) ([].map Pf.pure) 1 = KR) := hide (by rw [hKR, List.drop_zero]; rfl)
        have Hwl : Hid (wants.length = ds.length ∧ ∀ (j : Nat) (h1 : j < wants.length) (h2 : j < ds.length), wants[j]'h1 = ((ds[j]'h2).cls, (ds[j]'h2).ty.pure)) := hide ⟨by rw [← Hds.out]; simp, fun j h1 h2 => by
          have := Hds.out
          subst this
          simp⟩
        have hxw : W3.heap.size ≤ w4.heap.size := hx4s
        have hx5 := XA.out.size
        have HD5 := hide (HD.out.ext (E5.out.trans HA.out.x))
        have hw45 := (E5.out.trans HA.out.x).size
        have Hd4 : Hid (∀ d ∈ ds, ∀ c, w4.heap.size ≤ c → awayB c d.ty = true) := hide (fun d hd c hc => away_new (HD.out.all d hd).ty hc)
        clear hKR HR HSS c1 c2 c3 c0 n2 Hds E5 HT5 hsz9 hne0
        go_wp2
        go_loopw [16, 57] (fun nn i wr => ∃ (j n : Nat) (us : List Pf) (v : Value), j ≤ ds.length ∧ i = .int .i64 j ∧ nn = .int .i64 n ∧ us.length ≤ j ∧ n ≤ 4096 ∧ Hid (KsSt wc wr wc.heap.size W3.heap.size k u us v) ∧ Hid ((us.map Pf.size).sum + 1 = n) ∧ Hid (kidsGo (srch x.classes x.insts given m) (wants.drop j) (us.map Pf.pure) n = KR)) (fun _ i _ => ds.length - (intOf i).toNat)
        case atStart => exact ⟨0, 1, [], .slice none 0 0, Nat.zero_le _, rfl, rfl, Nat.le_refl _, by omega, hide ⟨at_newB _ _ _ rfl, World.ownsRow_nil _ _ _ _, by simp, by simp, by simp, by simp, (Ext.refl _).alloc _⟩, hide rfl, HK0⟩
        case round =>
          obtain ⟨j, n, us, v, hj, rfl, rfl, hul, hn, HK, HSm, HG⟩ := hrel
          have XR := hide (XA.out.trans HK.out.ext)
          by_cases hlt : j < ds.length
          · have hlt' : (j : Int) < (ds.length : Int) := by omega
            have hj0 : (0 : Int) ≤ (j : Int) := by omega
            obtain ⟨bq, oq, rfl, hbq, q0, q1, q2, q3⟩ := (HD5.out.ext HK.out.ext).at_ hlt
            have hmem := List.getElem_mem hlt
            have hPd := HD5.out.all _ hmem
            have hwj := Hwl.out.2 j (by rw [Hwl.out.1]; exact hlt) hlt
            have Hstep := hide (fun (Q : Pf.Pure) (sz : Nat) (h : srch x.classes x.insts given m (ds[j]'hlt).cls (ds[j]'hlt).ty.pure = .ok (Q, sz)) => (kids_drop (f := srch x.classes x.insts given m) (l := us.map Pf.pure) (n := n) (by rw [Hwl.out.1]; exact hlt) (by rw [hwj]; exact h)).symm.trans HG.out)
            have Hstop := hide (fun (kk : Int) (h : srch x.classes x.insts given m (ds[j]'hlt).cls (ds[j]'hlt).ty.pure = .error kk) => (kids_drop_err (f := srch x.classes x.insts given m) (l := us.map Pf.pure) (n := n) (by rw [Hwl.out.1]; exact hlt) (by rw [hwj]; exact h)).symm.trans HG.out)
            obtain ⟨a, ham, hap⟩ := Hda.out _ hmem
            have hla : legalT (ds[j]'hlt).ty = true := (legal_pure hap).trans (legal_kid HLg.out ham)
            have hsa : (ds[j]'hlt).ty.size ≤ m := by
              have h1 := (ty_sd _ _ hap).1
              have h2 := Ty.size_arg ham
              have h3 := Hsz.out
              omega
            have HC := hide (fun w' (e : Ext wc w') => (HIH.out (ds[j]'hlt) w' (XA.out.trans e) (hPd.ext e) hla hsa).out)
            have Haw := hide (HDa.out _ hmem)
            have Haw4 := hide (Hd4.out _ hmem)
            generalize ds[j]'hlt = d at *
            obtain ⟨n1, e0, e1, e2⟩ := And.intro (B1.out.ext XR.out).lt (B1.out.ext XR.out).cells
            clear hPd hwj hap ham hla hsa hmem t2 tl
            go_wp2_with fail
            refine (HC.out _ (HK.out.ext.alloc (.cells #[encStr d.cls, encStr d.ty.con, .int .i64 d.ty.var, .slice d.ty.A d.ty.args.length d.ty.cap] 55))).mono ?_
            rintro e w6 ⟨hout, hx6⟩
            have X6 : Hid (Ext wr w6) := hide (((Ext.refl wr).alloc (.cells #[encStr d.cls, encStr d.ty.con, .int .i64 d.ty.var, .slice d.ty.A d.ty.args.length d.ty.cap] 55)).trans hx6)
            have XT := hide (X0.out.trans (XR.out.trans X6.out))
            clear q0 q1 q2 q3 hbq n1 e0 e1 e2 HC
            cases hr : srch x.classes x.insts given m d.cls d.ty.pure with
            | error kk =>
              rw [hr] at hout
              have hout : e = .panicked [{ v := .iface 164 (.agg #[.int .i64 kk]), recovered := false }] := hout
              have hKe := Hstop.out kk hr
              subst hout hKe
              have hR : R = .error kk := HRk.out
              clear HRk Hstep Hstop hr
              subst hR
              go_wp2
              exact ⟨rfl, rfl, XT.out⟩
            | ok r =>
              obtain ⟨Q, sz⟩ := r
              rw [hr] at hout
              obtain ⟨y, rfl, hy1, hy2, hy3, hy4, hy5⟩ := hout
              have HY1 := hide hy1
              have HG2 := hide (Hstep.out Q sz hr)
              have HY4 := hide hy4
              have hyb : AwayF wc.heap.size y := hy5 _ (by have := HK.out.ext.size; have := lt_of_obj HK.out.box; simp; omega) (Haw4 _ (by omega))
              obtain ⟨A6, c6, hv, -, -, -, -⟩ := RowOf.own pfC (l := us) HK.out.own
              subst hv
              have hwr := HK.out.ext.size
              have hbr := lt_of_obj HK.out.box
              have hr6 := X6.out.size
              have Hyr : Hid (∀ c, (Value.slice A6 us.length c6).ownBlock = some c → AwayF c y) := hide (fun c hc => by
                have := HK.out.own.lt c hc
                exact hy5 c (by simp; omega) (Haw4 c (by omega)))
              have HyN : Hid (∀ c, c < W3.heap.size → AwayF c y) := hide (fun c hc => hy5 c (by simp; omega) (Haw c hc))
              have O6 := hide (own_extB HK.out.own X6.out)
              have hb6 := hide ((X6.out.heap hbr).trans HK.out.box)
              have kb0 := bytes_block hb6.out 3
              have kf0 := free_block hb6.out 3
              simp only [List.getElem?_toArray, List.getElem?_cons_zero, List.getElem?_cons_succ] at kb0
              have hbr6 : wc.heap.size < w6.heap.size := by omega
              have E67 : Hid (Ext wr ((w6.alloc (.cells #[.int .i64 y.kind, .int .i64 y.n, .slice y.T y.types.length y.tc, .slice y.A y.kids.length y.cap] 34)).alloc (.cells #[.int .i64 y.kind, .int .i64 y.n, .slice y.T y.types.length y.tc, .slice y.A y.kids.length y.cap] 34))) := hide ((X6.out.alloc _).alloc _)
              have HY2 := hide (hy1.ext (((Ext.refl w6).alloc (.cells #[.int .i64 y.kind, .int .i64 y.n, .slice y.T y.types.length y.tc, .slice y.A y.kids.length y.cap] 34)).alloc (.cells #[.int .i64 y.kind, .int .i64 y.n, .slice y.T y.types.length y.tc, .slice y.A y.kids.length y.cap] 34)))
              have hw1 : IntKind.i64.wrap ((n : Int) + (sz : Int)) = ((n + sz : Nat) : Int) := by rw [IntKind.wrap_i64]; omega
              have HSz2 := hide (psum_snoc us y HSm.out hy3)
              have Hyp := hide hy2
              have h40 : us.length ≤ 40000 := by omega
              clear hy1 hy2 hy3 hy5 Haw Haw4 Hstop Hstep hr hx6
              go_wp2_with (at_builtin; refine wpList_append_row _ rfl _ _ 32 rfl (wc.heap.size + 1) 34 i0 _ 4 64 Tryz.underlying32 hi hz0 hz1 hz2 rfl (by decide) (.slice A6 us.length c6) us.length (us.flatMap pfC.f) rfl ((O6.out.alloc _).alloc _) _ 1 1 [.int .i64 y.kind, .int .i64 y.n, .slice y.T y.types.length y.tc, .slice y.A y.kids.length y.cap] rfl ?c2 ?c3 ?c4 ?c5 ?c6 ?_)
              case c2 => exact Row.box4 _ _ _ _ (at_newB _ _ _ (by simp))
              case c3 => first | exact ⟨rfl, rfl, rfl, rfl⟩ | (intro z hz; simp at hz; rcases hz with rfl | rfl | rfl | rfl <;> rfl)
              case c4 => unfold maxLen; omega
              case c5 => omega
              case c6 => simp; omega
              intro v4 w7 hown4 hg4 hat4
              have HK2 := hide (HK.out.snoc (Nat.le_refl _) E67.out HY2.out hyb Hyr.out HyN.out (by rw [flatF_snoc, List.length_append]; exact hown4) hg4 (by
                rcases hat4 with e | e
                · exact .inl e
                · exact .inr (fun c hc => by rw [e] at hc; injection hc with hc; simp at hc ⊢; omega)))
              have hb7 : Hid (w7.heap[wc.heap.size]? = some (.cells #[.int .i64 3, .int .i64 (k : Nat), .slice u.A u.args.length u.cap, .slice A6 us.length c6] 34 (0, 0))) := hide ((hg4.block _ (by simp; omega) (fun e => by have := (HK.out.own.lt _ e.symm).1; omega)).trans ((((Ext.refl w6).alloc (.cells #[.int .i64 y.kind, .int .i64 y.n, .slice y.T y.types.length y.tc, .slice y.A y.kids.length y.cap] 34)).alloc (.cells #[.int .i64 y.kind, .int .i64 y.n, .slice y.T y.types.length y.tc, .slice y.A y.kids.length y.cap] 34)).heap hbr6 |>.trans hb6.out))
              have kb7 := bytes_block hb7.out 3
              have kf7 := free_block hb7.out 3
              simp only [List.getElem?_toArray, List.getElem?_cons_zero, List.getElem?_cons_succ] at kb7
              have hbr7 := lt_of_obj hb7.out
              clear hown4 hg4 hat4 kb0 kf0 hb6 O6 E67 HY2 hyb Hyr HyN HK hbr6
              have HG9 : Hid ((if n + sz > 4096 then .error 2 else kidsGo (srch x.classes x.insts given m) (wants.drop (j + 1)) ((us ++ [y]).map Pf.pure) (n + sz)) = KR) := hide (by
                have := HG2.out
                rw [← Hyp.out] at this
                rw [List.map_append]
                exact this)
              have hul2 : (us ++ [y]).length ≤ j + 1 := by simp; omega
              clear HG2 HG HSm Hyp
              generalize us ++ [y] = us2 at *
              obtain ⟨A8, c8, rfl, -, -, -, -⟩ := RowOf.own pfC (l := us2) HK2.out.own
              by_cases hle : n + sz ≤ 4096
              · have hle' : ¬ (((n + sz : Nat) : Int) > 4096) := by omega
                have HG3 : Hid (kidsGo (srch x.classes x.insts given m) (wants.drop (j + 1)) (us2.map Pf.pure) (n + sz) = KR) := hide (by
                  rw [← HG9.out, if_neg (by omega)])
                clear HG9
                go_wp2
                go_roundw
                case rel => exact ⟨j + 1, n + sz, us2, _, hlt, by go_num, rfl, hul2, hle, HK2, HSz2, HG3⟩
                case measure => simp [intOf]; omega
              · have hle' : (((n + sz : Nat) : Int) > 4096) := by omega
                have hKR : KR = .error 2 := by rw [← HG9.out, if_pos (by omega)]
                clear HG9
                subst hKR
                have hR : R = .error 2 := HRk.out
                clear HRk
                subst hR
                have XT7 := hide (X0.out.trans (XA.out.trans HK2.out.ext))
                go_wp2
                exact ⟨rfl, rfl, XT7.out⟩
          · have hge : ¬ (j : Int) < (ds.length : Int) := by omega
            have hKR : KR = .ok (us.map Pf.pure, n) := by rw [← HG.out, kids_end (by rw [Hwl.out.1]; omega)]
            clear HG
            subst hKR
            have hR : R = .ok (.mk 3 (k : Int) p.ty.pure.args (us.map Pf.pure), n) := HRk.out
            clear HRk
            subst hR
            obtain ⟨A6, c6, rfl, l1, l2, hrow, hrb⟩ := RowOf.own pfC (l := us) HK.out.own
            have B6 : Hid (wr.heap[w.heap.size + 1 + 1]? = some (.cells #[.int .i64 0, .int .i64 0, .slice none 0 0, .slice none 0 0] 34)) := hide ((XR.out.heap (lt_of_obj B3.out)).trans B3.out)
            obtain ⟨U, hU⟩ : ∃ U : Pf, U = .mk 3 (k : Int) u.A u.cap u.args A6 c6 us := ⟨_, rfl⟩
            have hty := (HA.out.ty.ext HK.out.ext)
            have HIn : Hid (PfIn wr U) := hide (by
              rw [hU]
              exact .mk ⟨hty.le, hty.max, l1, l2, hty.all, hrow⟩ HK.out.inn)
            have HAw : Hid (∀ c, c < W.heap.size → awayB c p.ty = true → AwayF c U) := hide (fun c hc ha => by
              have ha2 := HA.out.away c (by have := X5.out.size; omega) ha
              rw [hU]
              refine .mk (fun hn a e => awayB_own ha2 (by rintro h; exact hn (by show u.args.length = 0; rw [h]; rfl)) e) (fun z hz => awayB_arg ha2 hz) (fun hn a e => ?_) (fun z hz => HK.out.away z hz c (by omega))
              obtain ⟨b, o, e2, -, -⟩ := hrow.2 (Nat.pos_of_ne_zero hn)
              have e : A6 = some a := e
              rw [e2] at e
              injection e with e
              subst e
              have := (hrb b o e2).1
              have := HA.out.x.size
              have := X5.out.size
              show b ≠ c
              omega)
            have HA3 := hide (HAw.out (w.heap.size + 1 + 1) (by have := HsW.out; omega) (away_new Hp0.out (by omega)))
            have HUp : Hid (U.pure = .mk 3 (k : Int) p.ty.pure.args (us.map Pf.pure)) := hide (by
              rw [hU, Pf.pure_eq, ← HA.out.is, pure_args]; rfl)
            have HUs : Hid (U.size = n) := hide (by rw [hU, Pf.size_eq]; exact HSm.out)
            have HIn2 := hide (HIn.out.grown (setPf_grown wr (w.heap.size + 1 + 1) U) (fun c e => by injection e with e; subst e; exact HA3.out))
            have XF := hide (setPf_ext (X0.out.trans XR.out) (by omega : w.heap.size ≤ w.heap.size + 1 + 1) U)
            have kb0 := bytes_block HK.out.box 0
            have kb1 := bytes_block HK.out.box 1
            have kb2 := bytes_block HK.out.box 2
            have kb3 := bytes_block HK.out.box 3
            simp only [List.getElem?_toArray, List.getElem?_cons_zero, List.getElem?_cons_succ] at kb0 kb1 kb2 kb3
            obtain ⟨z0, z1, z2, z3, zf0, zf1, zf2, zf3⟩ := f0_cells B6.out
            have hz := lt_of_obj B6.out
            have hbr := lt_of_obj HK.out.box
            have HAf : Hid (∀ c, c < w.heap.size → awayB c p.ty = true → AwayF c U) := hide (fun c hc ha => HAw.out c (by have := HsW.out; omega) ha)
            have HVv : Hid (pfV U = .agg #[.int .i64 3, .int .i64 (k : Nat), .slice u.A u.args.length u.cap, .slice A6 us.length c6]) := hide (by rw [hU]; rfl)
            have HX : Hid (setPf wr (w.heap.size + 1 + 1) U = (((wr.setCell ⟨w.heap.size + 1 + 1, 0, none⟩ (.int .i64 3)).setCell ⟨w.heap.size + 1 + 1, 1, none⟩ (.int .i64 (k : Nat))).setCell ⟨w.heap.size + 1 + 1, 2, none⟩ (.slice u.A u.args.length u.cap)).setCell ⟨w.heap.size + 1 + 1, 3, none⟩ (.slice A6 us.length c6)) := hide (by rw [hU]; rfl)
            rw [HX.out] at HIn2 XF
            clear hU hrow hrb hty HK HA HAw HIn
            go_wp2
            refine bodyPost_ret (v := .tuple #[pfV U, .int .i64 (n : Nat)]) ?_ rfl ⟨⟨U, rfl, HIn2.out, HUp.out, HUs.out, hn, HAf.out⟩, XF.out⟩
            rw [HVv.out]
            simp [results, Tryz.f102, go_sem, z0, z1, z2, z3]

theorem en_search (x : EnD) (G : Option Addr) (gc : Nat) (given : List Pd) (hE : EnOk x given) : ∀ m, SrC x G gc given m
  | 0 => fun p w _ _ _ _ hsz => absurd hsz (by have := Ty.size_pos p.ty; omega)
  | m + 1 => en_search_step x G gc given hE m (en_search x G gc given hE m)

end Go.Proofs.YtcnkfkjgpdmebaaGreatDoor
