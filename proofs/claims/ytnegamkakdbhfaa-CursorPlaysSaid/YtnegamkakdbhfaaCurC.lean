/- The program's cursor, function by function, against the plain model: reading. -/
import Derived.Test.YtnegamkakdbhfaaProg
import Derived.Test.YtnegamkakdbhfaaTok
import Derived.WalkSpells
import Derived.WalkLawsBesides
import Derived.Deep.QuietTactic
import Derived.BigQuiet
namespace Go.Proofs.Ytnegamkakdbhfaa
open Go.RowKit

/-- The cells of a cursor. -/
def curCells (A : Option Addr) (cap n k : Nat) (m : M) : Array Value :=
  #[.slice A n cap, .int .i64 0, .int .i64 m.ep, .int .i64 0, .string ⟨#[]⟩, .int .i64 k, .int .i64 m.nest, .int .i64 m.err, .int .i64 m.pos]

/-- What holds of a cursor's data. -/
structure CD (ts : List Tok) (k : Nat) (m : M) : Prop where
  le : k ≤ ts.length
  nest : m.nest ≤ 200
  rest : Hid (m.rest = ts.drop k)

/-- A cursor in memory. -/
structure Cur (w : World) (c : Nat) (A : Option Addr) (cap : Nat) (ts : List Tok) (k : Nat) (m : M) : Prop where
  blk : w.heap[c]? = some (.cells (curCells A cap ts.length k m) 98 (0, 0))
  ne : ∀ o, A ≠ some ⟨c, o, none⟩
  row : Toks w A ts
  le : ts.length ≤ cap
  max : cap ≤ 9223372036854775807
  cd : CD ts k m

/-- `w'` is `w`, grown, with the cells `cs` in block `c`. -/
def Upd (w : World) (c : Nat) (cs : Array Value) (w' : World) : Prop := ∃ l d, w' = more (setBlk w c cs) l d

theorem setBlk_same {w : World} {c : Nat} {cs : Array Value} {t : TypeId} {fr : Nat × Nat} (h : w.heap[c]? = some (.cells cs t fr)) : setBlk w c cs = w := by
  unfold setBlk
  have : w.heap.modify c (reCells cs) = w.heap := by
    apply Array.ext_getElem?
    intro k
    rw [Array.getElem?_modify]
    by_cases hk : c = k
    · subst hk; rw [if_pos rfl, h]; rfl
    · rw [if_neg hk]
  rw [this]
theorem setBlk_setCell (w : World) (c i : Nat) (cs : Array Value) (v : Value) : (setBlk w c cs).setCell ⟨c, i, none⟩ v = setBlk w c (cs.setIfInBounds i v) := by
  unfold World.setCell setBlk
  congr 1
  apply Array.ext_getElem?
  intro k
  simp only [Array.getElem?_modify]
  by_cases hk : c = k
  · subst hk
    simp only [↓reduceIte]
    cases w.heap[c]? with
    | none => rfl
    | some o => cases o <;> rfl
  · simp only [if_neg hk]
theorem setBlk_setBlk (w : World) (c : Nat) (cs cs' : Array Value) : setBlk (setBlk w c cs) c cs' = setBlk w c cs' := by
  unfold setBlk
  congr 1
  apply Array.ext_getElem?
  intro k
  simp only [Array.getElem?_modify]
  by_cases hk : c = k
  · subst hk
    simp only [↓reduceIte]
    cases w.heap[c]? with
    | none => rfl
    | some o => cases o <;> rfl
  · simp only [if_neg hk]

section
variable {w w' : World} {c : Nat} {cs : Array Value}
theorem Upd.refl {t : TypeId} {fr : Nat × Nat} (h : w.heap[c]? = some (.cells cs t fr)) : Upd w c cs w := ⟨[], w.drawn, by rw [setBlk_same h]; simp [more]⟩
theorem Upd.ext {b b' : World} (h : Upd w c cs b) (k : Ext b b') : Upd w c cs b' := by
  obtain ⟨l, d, rfl⟩ := h; obtain ⟨l', d', rfl⟩ := k
  exact ⟨_, _, more_more ..⟩
theorem Upd.alloc {b : World} (h : Upd w c cs b) (o : Obj) : Upd w c cs (b.alloc o) := h.ext ((Ext.refl _).alloc o)
theorem Upd.drew {b : World} (h : Upd w c cs b) : Upd w c cs b.drew := h.ext (Ext.refl _).drew
theorem Upd.drewN {b : World} (h : Upd w c cs b) (n : Nat) : Upd w c cs (b.drewN n) := h.ext ((Ext.refl _).drewN n)
theorem Upd.more_ {b : World} (h : Upd w c cs b) (l : List Obj) (d : Nat) : Upd w c cs (more b l d) := h.ext ⟨l, d, rfl⟩
theorem Upd.cast {cs' : Array Value} (h : Upd w c cs w') (e : cs = cs') : Upd w c cs' w' := e ▸ h
theorem Upd.same {t : TypeId} {fr : Nat × Nat} (h : w.heap[c]? = some (.cells cs t fr)) (k : Ext w w') : Upd w c cs w' := (Upd.refl h).ext k
theorem Upd.size (h : Upd w c cs w') : w.heap.size ≤ w'.heap.size := by obtain ⟨l, d, rfl⟩ := h; simp
theorem Upd.heap (h : Upd w c cs w') {n : Nat} (hn : n < w.heap.size) (hne : n ≠ c) : w'.heap[n]? = w.heap[n]? := by
  obtain ⟨l, d, rfl⟩ := h
  rw [heap_more _ _ _ _ (by simpa using hn), heap_setBlk _ _ _ _ hne]
theorem Upd.block (h : Upd w c cs w') {t : TypeId} {fr : Nat × Nat} {cs0 : Array Value} (hb : w.heap[c]? = some (.cells cs0 t fr)) : w'.heap[c]? = some (.cells cs t fr) := by
  obtain ⟨l, d, rfl⟩ := h
  have hc : c < w.heap.size := lt_of_block hb
  rw [heap_more _ _ _ _ (by simpa using hc)]
  simp [setBlk, Array.getElem?_modify, hb, reCells]
end
theorem lt_of_blk {w : World} {b : Nat} {o : Obj} (h : w.heap[b]? = some o) : b < w.heap.size := by
  rcases Nat.lt_or_ge b w.heap.size with h' | h'
  · exact h'
  · rw [Array.getElem?_eq_none h'] at h; cases h
theorem Upd.set {w b : World} {c : Nat} {cs : Array Value} (h : Upd w c cs b) (hc : c < w.heap.size) (i : Nat) (v : Value) : Upd w c (cs.setIfInBounds i v) (b.setCell ⟨c, i, none⟩ v) := by
  obtain ⟨l, d, rfl⟩ := h
  exact ⟨l, d, by rw [setCell_more _ _ _ _ _ _ (by simpa using hc), setBlk_setCell]⟩
theorem Upd.trans {w a b : World} {c : Nat} {cs cs' : Array Value} (h : Upd w c cs a) (k : Upd a c cs' b) (hc : c < w.heap.size) : Upd w c cs' b := by
  obtain ⟨l, d, rfl⟩ := h; obtain ⟨l', d', rfl⟩ := k
  have : setBlk (more (setBlk w c cs) l d) c cs' = more (setBlk w c cs') l d := by
    have e1 : setBlk (more (setBlk w c cs) l d) c cs' = more (setBlk (setBlk w c cs) c cs') l d := by
      unfold setBlk more
      congr 1
      apply Array.ext_getElem?
      intro k
      by_cases hk : k < w.heap.size
      · rw [Array.getElem?_append_left (by simpa using hk)]
        simp only [Array.getElem?_modify]
        rw [Array.getElem?_append_left (by simpa using hk)]
        simp only [Array.getElem?_modify]
      · simp only [Array.getElem?_modify]
        rw [if_neg (by omega), Array.getElem?_append_right (by simpa using Nat.le_of_not_lt hk), Array.getElem?_append_right (by simpa using Nat.le_of_not_lt hk)]
        simp
    rw [e1, setBlk_setBlk]
  rw [this]
  exact ⟨_, _, more_more ..⟩

def Lax (w : World) (c : Nat) (b : World) : Prop := ∃ cs, Upd w c cs b
theorem Upd.blk {w b : World} {c : Nat} (h : Lax w c b) (hc : c < w.heap.size) (cs : Array Value) : Upd w c cs (setBlk b c cs) := by
  obtain ⟨cs0, h⟩ := h
  exact h.trans ⟨[], b.drawn, by
    show setBlk b c cs = { setBlk b c cs with heap := (setBlk b c cs).heap ++ [].toArray, drawn := b.drawn }
    simp [setBlk]⟩ hc
section
variable {w b : World} {c : Nat}
theorem Lax.refl {t : TypeId} {fr : Nat × Nat} {cs : Array Value} (h : w.heap[c]? = some (.cells cs t fr)) : Lax w c w := ⟨_, Upd.refl h⟩
theorem Lax.alloc (h : Lax w c b) (o : Obj) : Lax w c (b.alloc o) := h.imp fun _ h => h.alloc o
theorem Lax.drew (h : Lax w c b) : Lax w c b.drew := h.imp fun _ h => h.drew
theorem Lax.drewN (h : Lax w c b) (n : Nat) : Lax w c (b.drewN n) := h.imp fun _ h => h.drewN n
theorem Lax.more_ (h : Lax w c b) (l : List Obj) (d : Nat) : Lax w c (more b l d) := h.imp fun _ h => h.more_ l d
theorem Lax.blk (h : Lax w c b) (hc : c < w.heap.size) (cs : Array Value) : Lax w c (setBlk b c cs) := ⟨_, Upd.blk h hc cs⟩
end

section
variable {w w' : World} {c cap k : Nat} {A : Option Addr} {ts : List Tok} {m : M}
theorem Cur.lt (h : Cur w c A cap ts k m) : c < w.heap.size := lt_of_blk h.blk
theorem Cur.ext (h : Cur w c A cap ts k m) (e : Ext w w') : Cur w' c A cap ts k m :=
  ⟨(e.heap h.lt).trans h.blk, h.ne, h.row.ext e, h.le, h.max, h.cd⟩
theorem Cur.upd (h : Cur w c A cap ts k m) {k' : Nat} {m' : M} (d : CD ts k' m') (u : Upd w c (curCells A cap ts.length k' m') w') : Cur w' c A cap ts k' m' :=
  ⟨u.block h.blk, h.ne, Row.keep h.row u.size fun b o e hb => u.heap hb (fun hbc => h.ne o (by rw [e, hbc])), h.le, h.max, d⟩
theorem Cur.far (h : Cur w c A cap ts k m) {c' : Nat} {cs : Array Value} (u : Upd w c' cs w') (hc : c ≠ c') (hA : ∀ o, A ≠ some ⟨c', o, none⟩) : Cur w' c A cap ts k m :=
  ⟨(u.heap h.lt hc).trans h.blk, h.ne, Row.keep h.row u.size fun b o e hb => u.heap hb (fun hbc => hA o (by rw [e, hbc])), h.le, h.max, h.cd⟩
theorem Cur.cell (h : Cur w c A cap ts k m) (i : Nat) : w.cell? ⟨c, i, none⟩ = (curCells A cap ts.length k m)[i]? := by simp [World.cell?, h.blk]
theorem Cur.free (h : Cur w c A cap ts k m) (i : Nat) : w.frozen? ⟨c, i, none⟩ = false := by simp [World.frozen?, h.blk]
end

set_option maxHeartbeats 400000 in
theorem cur_failed {w : World} {c cap k : Nat} {A : Option Addr} {ts : List Tok} {m : M} (h : Cur w c A cap ts k m) :
    Calls Try.prog 71 #[.pointer (some ⟨c, 0, none⟩)] w fun e w' => e = .returned (.bool (m.err != 0)) ∧ w' = w := by
  have h7 : w.cell? ⟨c, 7, none⟩ = some (.int .i64 m.err) := h.cell 7
  clear h
  go_enter Try.func71, Try.ntmps71
  go_wp2
  go_ret
  exact ⟨rfl, rfl⟩

set_option maxHeartbeats 400000 in
theorem cur_peek {w : World} {c cap k : Nat} {A : Option Addr} {ts : List Tok} {m : M} (h : Cur w c A cap ts k m) :
    Calls Try.prog 39 #[.pointer (some ⟨c, 0, none⟩)] w fun e w' => e = .returned (tokV m.peek) ∧ Ext w w' := by
  have Hf := hide fun W (hW : Ext w W) => cur_failed (h.ext hW)
  have h0 : w.cell? ⟨c, 0, none⟩ = some (.slice A ts.length cap) := h.cell 0
  have h1 : w.cell? ⟨c, 1, none⟩ = some (.int .i64 0) := h.cell 1
  have h2 : w.cell? ⟨c, 2, none⟩ = some (.int .i64 m.ep) := h.cell 2
  have h3 : w.cell? ⟨c, 3, none⟩ = some (.int .i64 0) := h.cell 3
  have h4 : w.cell? ⟨c, 4, none⟩ = some (.string ⟨#[]⟩) := h.cell 4
  have h5 : w.cell? ⟨c, 5, none⟩ = some (.int .i64 k) := h.cell 5
  have hc := h.lt
  have hcd := h.cd
  by_cases he : m.err = 0
  · have he' : (m.err != 0) = false := by simpa using he
    by_cases hk : k < ts.length
    · obtain ⟨b, o, rfl, hb, c0, c1, c2, c3⟩ := h.row.at_ hk
      have ev : m.peek = tokAt ts k := by
        have := hcd.rest.out
        rw [List.drop_eq_getElem_cons hk] at this
        unfold M.peek
        rw [if_pos he, this]
        simp [tokAt, hk]
      rw [ev]
      have hle := h.le
      have hmax := h.max
      have hk' : (k : Int) < (ts.length : Int) := by omega
      clear h hcd ev he
      generalize tokAt ts k = t at *
      go_enter Try.func39, Try.ntmps39
      go_wp2_with fail
      refine (Hf.out _ (by repeat (first | exact Ext.refl _ | exact Ext.alloc (by assumption) _ | refine Ext.alloc ?_ _ | refine Ext.more ?_ _ _ | refine Ext.drew ?_ | refine Ext.drewN ?_ _))).mono ?_
      rintro e w' ⟨rfl, rfl⟩
      go_wp2
      go_quiet (fail)
      go_wp2
      go_region
      go_wp2
      exact bodyPost_ret (v := tokV t) (by simp [results, Try.results39, go_sem]) rfl ⟨rfl, (by repeat (first | exact Ext.refl _ | exact Ext.alloc (by assumption) _ | refine Ext.alloc ?_ _ | refine Ext.more ?_ _ _ | refine Ext.drew ?_ | refine Ext.drewN ?_ _))⟩
    · have ev : m.peek = ⟨0, m.ep, 0, ⟨#[]⟩⟩ := by
        have := hcd.rest.out
        rw [List.drop_of_length_le (by omega)] at this
        unfold M.peek
        rw [if_pos he, this]
      rw [ev]
      have hk' : ¬ ((k : Int) < (ts.length : Int)) := by omega
      have hk2 : (ts.length : Int) ≤ (k : Int) := by omega
      clear h hcd ev he
      go_enter Try.func39, Try.ntmps39
      go_wp2_with fail
      refine (Hf.out _ (by repeat (first | exact Ext.refl _ | exact Ext.alloc (by assumption) _ | refine Ext.alloc ?_ _ | refine Ext.more ?_ _ _ | refine Ext.drew ?_ | refine Ext.drewN ?_ _))).mono ?_
      rintro e w' ⟨rfl, rfl⟩
      go_wp2
      go_quiet (fail)
      go_wp2
      exact bodyPost_ret (v := tokV ⟨0, m.ep, 0, ⟨#[]⟩⟩) (by simp [results, Try.results39, go_sem]) rfl ⟨rfl, (by repeat (first | exact Ext.refl _ | exact Ext.alloc (by assumption) _ | refine Ext.alloc ?_ _ | refine Ext.more ?_ _ _ | refine Ext.drew ?_ | refine Ext.drewN ?_ _))⟩
  · have he' : (m.err != 0) = true := by simpa using he
    have ev : m.peek = Tok.zero := by simp [M.peek, he]
    rw [ev]
    clear h hcd ev he
    go_enter Try.func39, Try.ntmps39
    go_wp2_with fail
    refine (Hf.out _ (by repeat (first | exact Ext.refl _ | exact Ext.alloc (by assumption) _ | refine Ext.alloc ?_ _ | refine Ext.more ?_ _ _ | refine Ext.drew ?_ | refine Ext.drewN ?_ _))).mono ?_
    rintro e w' ⟨rfl, rfl⟩
    go_wp2
    exact bodyPost_ret (v := tokV Tok.zero) (by simp [results, Try.results39, go_sem, Tok.zero]) rfl ⟨rfl, (by repeat (first | exact Ext.refl _ | exact Ext.alloc (by assumption) _ | refine Ext.alloc ?_ _ | refine Ext.more ?_ _ _ | refine Ext.drew ?_ | refine Ext.drewN ?_ _))⟩

end Go.Proofs.Ytnegamkakdbhfaa
