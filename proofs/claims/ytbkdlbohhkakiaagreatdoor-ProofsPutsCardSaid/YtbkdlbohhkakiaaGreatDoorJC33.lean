/- Contract of the reference: others put in for the given. -/
import Derived.Test.YtbkdlbohhkakiaaGreatDoorJC32
import Derived.Deep.QuietTactic
import Derived.BigQuiet
import Derived.Deep.DeepCutAuto
import Derived.Deep.RegionHeld3
/- Contract of the reference: others put in for the given. -/
namespace Go.Proofs.YtbkdlbohhkakiaaGreatDoor
open Go.RowKit

theorem set4_grown (w : World) (b : Nat) (v0 v1 v2 v3 : Value) : w.grownBy ((((w.setCell ⟨b, 0, none⟩ v0).setCell ⟨b, 1, none⟩ v1).setCell ⟨b, 2, none⟩ v2).setCell ⟨b, 3, none⟩ v3) (some b) :=
  grown_trans (grown_trans (grown_trans (grown_cell _ _ _ _) (grown_cell _ _ _ _)) (grown_cell _ _ _ _)) (grown_cell _ _ _ _)
theorem one_pfs (l : List Pf) : ∀ u ∈ l.flatMap pfC.f, u.oneCell' = true := by
  intro u hu
  obtain ⟨p, -, hp⟩ := List.mem_flatMap.1 hu
  have hp' : u ∈ [Value.int .i64 p.kind, .int .i64 p.n, .slice p.T p.types.length p.tc, .slice p.A p.kids.length p.cap] := hp
  simp at hp'
  rcases hp' with rfl | rfl | rfl | rfl <;> rfl
theorem pf_row1 {w : World} {vb : Nat} {x : Pf} (h : w.heap[vb]? = some (.cells (pfC.f x).toArray 31 (0, 0))) : Row w (some ⟨vb, 0, none⟩) 4 1 (pfC.f x) := by
  have h1 : w.heap[vb]? = some (.cells ([x].flatMap pfC.f).toArray 31 (0, 0)) := by simpa using h
  have := RowOf.block pfC [x] h1
  unfold RowOf at this
  exact (by simpa using this : Row w (some ⟨vb, 0, none⟩) pfC.k 1 (pfC.f x))
/-- What the reference tells: in parts the old memory. -/
structure RwOk (N : Nat) (w' : World) (l : List Pf) (p : Pf) (X : Pf.Pure) (u : Pf) : Prop where
  inn : PfIn w' u
  is : u.pure = X
  away : ∀ c, c < N → (∀ x ∈ l, AwayF c x) → AwayF c p → AwayF c u
/-- Some of them, away from their own row. -/
structure RusOk (N : Nat) (w' : World) (row : Option Nat) (l ks : List Pf) (Xs : List Pf.Pure) (us : List Pf) : Prop where
  inn : ∀ u ∈ us, PfIn w' u
  off : ∀ u ∈ us, ∀ c, row = some c → AwayF c u
  is : us.map Pf.pure = Xs
  len : us.length = ks.length
  away : ∀ u ∈ us, ∀ c, c < N → (∀ x ∈ l, AwayF c x) → (∀ x ∈ ks, AwayF c x) → AwayF c u
theorem RusOk.nil (N : Nat) (w' : World) (l : List Pf) : RusOk N w' none l [] [] [] := ⟨by simp, by simp, rfl, rfl, by simp⟩
theorem RusOk.snoc {N n : Nat} {w0 wc wx w1 w2 : World} {v v2 : Value} {l ks : List Pf} {Xs : List Pf.Pure} {us : List Pf} {xs : List Value} {k u : Pf} {X : Pf.Pure}
    (h : RusOk N w0 v.ownBlock l ks Xs us) (ho : w0.ownsRow N 31 4 v n xs) (e0 : Ext w0 wc) (hN : N ≤ w0.heap.size) (e1 : Ext wc wx) (hp : RwOk wc.heap.size wx l k X u) (hl : ∀ c, N ≤ c → (∀ x ∈ l, AwayF c x) ∧ AwayF c k)
    (hx : Ext wx w1) (hg : w1.grownBy w2 v.ownBlock) (hor : v2.ownBlock = v.ownBlock ∨ ∃ g, v2.ownBlock = some g ∧ w1.heap.size ≤ g) : RusOk N w2 v2.ownBlock l (ks ++ [k]) (Xs ++ [X]) (us ++ [u]) := by
  have hoff : ∀ c, v.ownBlock = some c → AwayF c u := fun c hc => hp.away c (by have := (ho.lt c hc).2; have := e0.size; omega) (hl c (ho.lt c hc).1).1 (hl c (ho.lt c hc).1).2
  have hin1 : ∀ d ∈ us ++ [u], PfIn w1 d ∧ ∀ c, v.ownBlock = some c → AwayF c d := by
    intro d hd
    rcases List.mem_append.1 hd with hd | hd
    · exact ⟨(h.inn d hd).ext (e0.trans (e1.trans hx)), fun c hc => h.off d hd c hc⟩
    · rw [List.mem_singleton] at hd
      subst hd
      exact ⟨hp.inn.ext hx, hoff⟩
  refine ⟨fun d hd => (hin1 d hd).1.grown hg (hin1 d hd).2, fun d hd c hc => ?_, by rw [List.map_append, h.is]; simp [hp.is], by simp [h.len], fun d hd c hc hlc hkc => ?_⟩
  · rcases hor with e | ⟨g, e, hge⟩
    · exact (hin1 d hd).2 c (e ▸ hc)
    · rw [e] at hc; injection hc with hc; subst hc; exact awayF_new (hin1 d hd).1 hge
  · rcases List.mem_append.1 hd with hd | hd
    · exact h.away d hd c hc hlc (fun x hx => hkc x (by simp [hx]))
    · rw [List.mem_singleton] at hd
      subst hd
      exact hp.away c (by have := e0.size; omega) hlc (hkc k (by simp))
def RwC (L : Option Addr) (cap : Nat) (l : List Pf) (p : Pf) : Prop := ∀ (w : World), PfsIn w L l → PfIn w p → p.size ≤ 100000 →
  Calls Tryz.prog 33 #[pfV p, .slice L l.length cap] w fun e w' => (∃ u, e = .returned (.tuple #[pfV u, .bool (putK l p).isSome]) ∧ ∀ X, putK l p = some X → RwOk w.heap.size w' l p X u) ∧ Ext w w'

set_option maxRecDepth 10000 in
set_option maxHeartbeats 8000000 in
theorem r_with_given (L : Option Addr) (cap : Nat) (l : List Pf) (hln : l.length ≤ 9223372036854775807) (p : Pf) (hk : (p.kind == 1) = true) : RwC L cap l p := by
  intro w hl hp hsz
  obtain ⟨W, hW⟩ : ∃ W, W = (w.alloc (.cells #[.int .i64 p.kind, .int .i64 p.n, .slice p.T p.types.length p.tc, .slice p.A p.kids.length p.cap] 31)).alloc (.cells #[.int .i64 0, .int .i64 0, .slice none 0 0, .slice none 0 0] 31) := ⟨_, rfl⟩
  have HW := hide hW.symm
  have X0 : Hid (Ext w W) := hide (by rw [hW]; exact ((Ext.refl _).alloc _).alloc _)
  have B1 : Hid (FBox W w.heap.size p) := hide (by rw [hW]; exact (FBox.new w p).ext ((Ext.refl _).alloc _))
  have B2 : Hid (W.heap[w.heap.size + 1]? = some (.cells #[.int .i64 0, .int .i64 0, .slice none 0 0, .slice none 0 0] 31)) := hide (by rw [hW]; exact at_newB _ _ _ (by simp))
  have HsW : Hid (W.heap.size = w.heap.size + 2) := hide (by rw [hW]; simp)
  obtain ⟨c0, c1, c2, c3⟩ := B1.out.cells
  obtain ⟨y0, y1, y2, y3, yf0, yf1, yf2, yf3⟩ := f0_cells B2.out
  have HK : Hid (p.kind = 1) := hide (by simpa using hk)
  have HPk : Hid (putK l p = (atZ l p.n).map Pf.pure) := hide (by rw [putK_eq, if_pos HK.out])
  have XE := hide (ext_set4 X0.out (b := w.heap.size + 1) (by omega))
  clear hW hp hsz
  generalize putK l p = K0 at *
  unfold pfV
  by_cases h3 : p.n < 0
  · have hK : K0 = none := by rw [HPk.out, atZ_none (by omega)]; rfl
    clear HPk
    subst hK
    go_enter Tryz.func33, Tryz.ntmps33
    go_upto_region 1 with fail
    rw [HW.out]
    clear HW
    go_wp2
    refine bodyPost_ret (v := .tuple #[.agg #[.int .i64 p.kind, .int .i64 p.n, .slice p.T p.types.length p.tc, .slice p.A p.kids.length p.cap], .bool false]) ?_ rfl ?_
    · simp [results, Tryz.f33, go_sem, y0, y1, y2, y3]
    · first | exact ⟨⟨p, rfl, fun X h => (by cases h)⟩, XE.out _ _ _ _⟩ | exact ⟨⟨p, rfl⟩, XE.out _ _ _ _⟩
  by_cases h4 : p.n ≥ (l.length : Int)
  · have hK : K0 = none := by rw [HPk.out, atZ_none (by omega)]; rfl
    clear HPk
    subst hK
    go_enter Tryz.func33, Tryz.ntmps33
    go_upto_region 1 with fail
    rw [HW.out]
    clear HW
    go_wp2
    refine bodyPost_ret (v := .tuple #[.agg #[.int .i64 p.kind, .int .i64 p.n, .slice p.T p.types.length p.tc, .slice p.A p.kids.length p.cap], .bool false]) ?_ rfl ?_
    · simp [results, Tryz.f33, go_sem, y0, y1, y2, y3]
    · first | exact ⟨⟨p, rfl, fun X h => (by cases h)⟩, XE.out _ _ _ _⟩ | exact ⟨⟨p, rfl⟩, XE.out _ _ _ _⟩
  obtain ⟨m, hm⟩ : ∃ m : Nat, p.n = (m : Int) := ⟨p.n.toNat, by omega⟩
  have hml : m < l.length := by omega
  have hm1 : (m : Int) < (l.length : Int) := by omega
  have hm0 : (0 : Int) ≤ (m : Int) := by omega
  obtain ⟨b, o, eL, hbl, q0, q1, q2, q3⟩ := (hl.ext X0.out).at_ hml
  have Hx := hide (hl.kids _ (List.getElem_mem hml))
  have Hmem := hide (List.getElem_mem hml)
  have hK : K0 = some (l[m]'hml).pure := by rw [HPk.out, hm, atZ_nat _ _ hml]; rfl
  have hno : ¬ ((m : Int) < 0) := by omega
  have hno2 : ¬ ((m : Int) ≥ (l.length : Int)) := by omega
  clear HPk
  rw [hm] at c1 HW ⊢
  subst eL
  clear hl h3 h4 hm
  generalize l[m]'hml = x at *
  subst hK
  have HR : Hid (∀ X, some x.pure = some X → RwOk w.heap.size (((((W.setCell ⟨w.heap.size + 1, 0, none⟩ (.int .i64 x.kind)).setCell ⟨w.heap.size + 1, 1, none⟩ (.int .i64 x.n)).setCell ⟨w.heap.size + 1, 2, none⟩ (.slice x.T x.types.length x.tc)).setCell ⟨w.heap.size + 1, 3, none⟩ (.slice x.A x.kids.length x.cap))) l p X x) := hide (fun X h => by
    injection h with h
    exact ⟨Hx.out.ext (XE.out _ _ _ _), h, fun c _ hl _ => hl x Hmem.out⟩)
  go_enter Tryz.func33, Tryz.ntmps33
  go_upto_region 1 with fail
  rw [HW.out]
  clear HW
  go_wp2
  refine bodyPost_ret (v := .tuple #[.agg #[.int .i64 x.kind, .int .i64 x.n, .slice x.T x.types.length x.tc, .slice x.A x.kids.length x.cap], .bool true]) ?_ rfl ?_
  · simp [results, Tryz.f33, go_sem, y0, y1, y2, y3]
  · first | exact ⟨⟨x, rfl, HR.out _ rfl⟩, XE.out _ _ _ _⟩ | exact ⟨⟨x, rfl, HR.out⟩, XE.out _ _ _ _⟩

set_option maxRecDepth 10000 in
set_option maxHeartbeats 8000000 in
theorem r_with_kids (L : Option Addr) (cap : Nat) (l : List Pf) (p : Pf) (hk : (p.kind == 1) = false) (ih : ∀ k ∈ p.kids, RwC L cap l k) : RwC L cap l p := by
  intro w hl hp hsz
  obtain ⟨i0, hi, hz0, hz1, hz2⟩ := info_parts pf_info4
  obtain ⟨W, hW⟩ : ∃ W, W = (w.alloc (.cells #[.int .i64 p.kind, .int .i64 p.n, .slice p.T p.types.length p.tc, .slice p.A p.kids.length p.cap] 31)).alloc (.cells #[.int .i64 0, .int .i64 0, .slice none 0 0, .slice none 0 0] 31) := ⟨_, rfl⟩
  have HW := hide hW.symm
  have X0 : Hid (Ext w W) := hide (by rw [hW]; exact ((Ext.refl _).alloc _).alloc _)
  have B1 : Hid (FBox W w.heap.size p) := hide (by rw [hW]; exact (FBox.new w p).ext ((Ext.refl _).alloc _))
  have B2 : Hid (W.heap[w.heap.size + 1]? = some (.cells #[.int .i64 0, .int .i64 0, .slice none 0 0, .slice none 0 0] 31)) := hide (by rw [hW]; exact at_newB _ _ _ (by simp))
  have HsW : Hid (W.heap.size = w.heap.size + 2) := hide (by rw [hW]; simp)
  obtain ⟨c0, c1, c2, c3⟩ := B1.out.cells
  have HK : Hid (p.kind ≠ 1) := hide (by simpa using hk)
  have HPk : Hid (putK l p = (allSome (p.kids.map (putK l))).map fun ks => .mk p.kind p.n (p.types.map Ty.pure) ks) := hide (by rw [putK_eq, if_neg HK.out])
  have hlen : p.kids.length < p.size := p.kids_len
  have hle := hp.hd.le
  have hmx := hp.hd.max
  have H := hide hp
  have HL := hide hl
  have IH := hide (fun k (hk : k ∈ p.kids) => ih k hk)
  have HSz := hide (fun k (hk : k ∈ p.kids) => Pf.size_kid hk)
  clear hW hp ih hl
  generalize putK l p = K0 at *
  unfold pfV
  go_enter Tryz.func33, Tryz.ntmps33
  go_upto_region 1 with fail
  rw [HW.out]
  clear HW
  go_wp2
  clear c0 c1 c2 c3
  go_loopw [6, 7] (fun v i wr => ∃ (k : Nat) (us : List Pf) (Xs : List Pf.Pure), k ≤ p.kids.length ∧ i = .int .i64 k ∧ Hid (allSome ((p.kids.take k).map (putK l)) = some Xs) ∧ Hid (Ext W wr) ∧ Hid (wr.ownsRow W.heap.size 31 4 v us.length (us.flatMap pfC.f)) ∧ Hid (RusOk W.heap.size wr v.ownBlock l (p.kids.take k) Xs us)) (fun _ i _ => p.kids.length - (intOf i).toNat)
  case atStart => exact ⟨0, [], [], Nat.zero_le _, rfl, hide rfl, hide (Ext.refl _), hide (World.ownsRow_nil _ _ _ _), hide (RusOk.nil _ _ _)⟩
  case round =>
    obtain ⟨k, us, Xs, hk, rfl, HA, HX, HO, HU⟩ := hrel
    have XR := hide (X0.out.trans HX.out)
    have B1r := hide (B1.out.ext HX.out)
    obtain ⟨c0, c1, c2, c3⟩ := B1r.out.cells
    have lc := B1r.out.lt
    by_cases hlt : k < p.kids.length
    · have hlt' : (k : Int) < (p.kids.length : Int) := by omega
      have hk0 : (0 : Int) ≤ (k : Int) := by omega
      obtain ⟨b, o, hA, hb, q0, q1, q2, q3⟩ := (H.out.all.ext XR.out).at_ hlt
      have hkm := List.getElem_mem hlt
      have hszk := HSz.out _ hkm
      have HIH := hide (fun w' (e : Ext wr w') => hide (IH.out _ hkm w' (HL.out.ext (XR.out.trans e)) ((H.out.all.kids _ hkm).ext (XR.out.trans e)) (by omega)))
      have Hkin := hide (H.out.all.kids _ hkm)
      have Htk0 : Hid (p.kids.take (k + 1) = p.kids.take k ++ [p.kids[k]'hlt]) := hide (List.take_succ_eq_append_getElem hlt)
      have Htk : Hid ((p.kids.take (k + 1)).map (putK l) = (p.kids.take k).map (putK l) ++ [putK l (p.kids[k]'hlt)]) := hide (by rw [List.take_succ_eq_append_getElem hlt, List.map_append]; rfl)
      have HNo : Hid (putK l (p.kids[k]'hlt) = none → K0 = none) := hide (fun e => by
        rw [HPk.out, allSome_take_none (k + 1) (by rw [← List.map_take, Htk.out, e]; exact allSome_snoc_none _)]
        rfl)
      have hul : us.length ≤ 100000 := by have := HU.out.len; rw [List.length_take] at this; omega
      generalize p.kids[k]'hlt = x at *
      clear hkm
      rw [hA] at c3
      clear hA
      unfold pfV at HIH
      obtain ⟨Kx, hKx⟩ : ∃ Kx, Kx = putK l x := ⟨_, rfl⟩
      rw [← hKx] at HIH HNo Htk
      clear hKx
      rename World => wr
      go_wp2_with fail
      refine (HIH.out _ (Ext.refl _)).out.mono ?_
      rintro e y ⟨⟨u, rfl, hu⟩, hx⟩
      have Hu := hide hu
      have E1 := hide hx
      have By := hide (B1r.out.ext hx)
      have D2 := hide (((HX.out.trans hx).heap (lt_of_obj B2.out)).trans B2.out)
      have Xy := hide (XR.out.trans hx)
      clear hu hx c0 c1 c2 c3 lc q0 q1 q2 q3 HIH
      cases Kx with
      | none =>
        have hK := HNo.out rfl
        obtain ⟨d0, d1, d2, d3⟩ := By.out.cells
        have ld := By.out.lt
        have hy1 := lt_of_obj D2.out
        obtain ⟨y0, y1, y2, y3, yf0, yf1, yf2, yf3⟩ := f0_cells D2.out
        simp only [Option.isSome_none]
        clear HNo HPk Hu HU HO HA
        subst hK
        go_upto_region 10 with fail
        refine wp_named ?_
        intro Wn hWn
        have En : Hid (Ext y Wn) := hide (by rw [hWn]; exact (Ext.refl _).alloc _)
        have XE := hide (ext_set4 (Xy.out.trans En.out) (b := w.heap.size + 1) (by omega))
        have By := hide (By.out.ext En.out)
        have D2 := hide ((En.out.heap (lt_of_obj D2.out)).trans D2.out)
        clear hWn d0 d1 d2 d3 ld hy1 y0 y1 y2 y3 yf0 yf1 yf2 yf3
        obtain ⟨d0, d1, d2, d3⟩ := By.out.cells
        have ld := By.out.lt
        have hy1 := lt_of_obj D2.out
        obtain ⟨y0, y1, y2, y3, yf0, yf1, yf2, yf3⟩ := f0_cells D2.out
        go_wp2
        refine bodyPost_ret (v := .tuple #[.agg #[.int .i64 p.kind, .int .i64 p.n, .slice p.T p.types.length p.tc, .slice p.A p.kids.length p.cap], .bool false]) ?_ rfl ?_
        · simp [results, Tryz.f33, go_sem, y0, y1, y2, y3]
        · first | exact ⟨⟨p, rfl, fun X h => (by cases h)⟩, XE.out _ _ _ _⟩ | exact ⟨⟨p, rfl⟩, XE.out _ _ _ _⟩
      | some X =>
        have Hu1 := hide (Hu.out X rfl)
        have HA2 : Hid (allSome ((p.kids.take (k + 1)).map (putK l)) = some (Xs ++ [X])) := hide (by rw [Htk.out]; exact allSome_snoc_some HA.out)
        simp only [Option.isSome_some]
        clear HNo HPk Hu HA
        go_upto_region 10 with fail
        refine wp_named ?_
        intro Wn hWn
        have En : Hid (Ext y Wn) := hide (by rw [hWn]; exact (Ext.refl _).alloc _)
        have BU : Hid (FBox Wn y.heap.size u) := hide (by rw [hWn]; exact FBox.new y u)
        clear hWn
        obtain ⟨d0, d1, d2, d3⟩ := BU.out.cells
        have ld := BU.out.lt
        go_wp2_with (at_builtin; refine wpList_append_row _ rfl _ _ 29 rfl W.heap.size 31 i0 _ 4 64 Tryz.underlying29 hi hz0 hz1 hz2 rfl (by decide) _ us.length (us.flatMap pfC.f) rfl (own_extB HO.out ?c1) (some ⟨Wn.heap.size, 0, none⟩) 1 1 (pfC.f u) rfl ?c2 ?c3 ?c4 ?c5 ?c6 ?_)
        case c1 => exact (E1.out.trans En.out).alloc _
        case c2 => exact pf_row1 (at_newB _ _ _ rfl)
        case c3 => have := one_pfs [u]; simpa using this
        case c4 => unfold maxLen; omega
        case c5 => omega
        case c6 => exact Nat.le_trans (HX.out.trans (E1.out.trans En.out)).size (by simp)
        intro v5 w5 hown5 hg5 hor5
        have X5 := hide (Ext.app ((HX.out.trans (E1.out.trans En.out)).alloc _) hg5 (own_extB HO.out ((E1.out.trans En.out).alloc _)) (Nat.le_refl _))
        have O5 : Hid (w5.ownsRow W.heap.size 31 4 v5 (us ++ [u]).length ((us ++ [u]).flatMap pfC.f)) := hide (by rw [List.length_append, List.flatMap_append]; simpa using hown5)
        have M5 : Hid (RusOk W.heap.size w5 v5.ownBlock l (p.kids.take (k + 1)) (Xs ++ [X]) (us ++ [u])) := hide (by
          rw [Htk0.out]
          exact RusOk.snoc HU.out HO.out (Ext.refl _) HX.out.size E1.out Hu1.out (fun c hc => ⟨fun x hx => awayF_new (HL.out.kids x hx) (Nat.le_trans X0.out.size hc), awayF_new Hkin.out (Nat.le_trans X0.out.size hc)⟩) (En.out.alloc _) hg5 (by
            rcases hor5 with h1 | h1
            · exact .inl h1
            · exact .inr ⟨_, h1, by simp⟩))
        clear hown5 hg5 hor5 d0 d1 d2 d3 ld
        go_wp2
        go_roundw
        case rel => exact ⟨k + 1, _, _, hlt, by go_num, HA2, X5, O5, M5⟩
        case measure => simp [intOf]; omega
    · have hge : ¬ (k : Int) < (p.kids.length : Int) := by omega
      have Htl : Hid (p.kids.take k = p.kids) := hide (List.take_of_length_le (by omega))
      have hK : K0 = some (.mk p.kind p.n (p.types.map Ty.pure) Xs) := by
        have := HA.out
        rw [Htl.out] at this
        rw [HPk.out, this]
        rfl
      have HU2 : Hid (RusOk W.heap.size wr _ l p.kids Xs us) := hide (by have := HU.out; rwa [Htl.out] at this)
      obtain ⟨A9, c9, rfl, r1, r2, hrow, hA9⟩ := RowOf.own pfC HO.out
      have D2 := hide ((HX.out.heap (lt_of_obj B2.out)).trans B2.out)
      have hy1 := lt_of_obj D2.out
      obtain ⟨y0, y1, y2, y3, yf0, yf1, yf2, yf3⟩ := f0_cells D2.out
      have f3 := B1r.out.free 3
      have HoffA : Hid (∀ c, c < W.heap.size → OffF c A9 us.length) := hide (fun c hc hn a ha => by
        obtain ⟨b', o', e', hb', -⟩ := hrow.2 (by omega)
        rw [ha] at e'
        injection e' with e'
        subst e'
        have := (hA9 b' o' ha).1
        show b' ≠ c
        omega)
      have hW0 := HsW.out
      obtain ⟨u, hu⟩ : ∃ u, u = Pf.mk p.kind p.n p.T p.tc p.types A9 c9 us := ⟨_, rfl⟩
      have HU3 : Hid (PfIn wr u) := hide (by
        rw [hu]
        exact .mk ⟨H.out.hd.tle, H.out.hd.tmax, r1, r2, H.out.hd.types.ext XR.out, hrow⟩ (fun x hx => HU2.out.inn x hx))
      have HUa : Hid (∀ c, c < W.heap.size → (∀ x ∈ l, AwayF c x) → AwayF c p → AwayF c u) := hide (fun c hc hlc hpc => by
        rw [hu]
        exact .mk hpc.ty hpc.tys (HoffA.out c hc) (fun x hx => HU2.out.away x hx c hc hlc hpc.kids))
      have HUn : Hid (∀ c, w.heap.size ≤ c → c < W.heap.size → AwayF c u) := hide (fun c h1 h2 => HUa.out c h2 (fun x hx => awayF_new (HL.out.kids x hx) h1) (awayF_new H.out h1))
      have HUp : Hid (u.pure = .mk p.kind p.n (p.types.map Ty.pure) Xs) := hide (by rw [hu, Pf.pure_eq]; show Pf.Pure.mk p.kind p.n (p.types.map Ty.pure) (us.map Pf.pure) = _; rw [HU2.out.is])
      have HR : Hid (RwOk w.heap.size (((((wr.setCell ⟨w.heap.size, 3, none⟩ (.slice A9 us.length c9)).setCell ⟨w.heap.size + 1, 0, none⟩ (.int .i64 p.kind)).setCell ⟨w.heap.size + 1, 1, none⟩ (.int .i64 p.n)).setCell ⟨w.heap.size + 1, 2, none⟩ (.slice p.T p.types.length p.tc)).setCell ⟨w.heap.size + 1, 3, none⟩ (.slice A9 us.length c9)) l p (.mk p.kind p.n (p.types.map Ty.pure) Xs) u) := hide
        ⟨(HU3.out.grown (grown_cell wr w.heap.size 3 (.slice A9 us.length c9)) (fun c e => HUn.out c (by injection e with e; omega) (by injection e with e; omega))).grown (set4_grown _ (w.heap.size + 1) (.int .i64 p.kind) (.int .i64 p.n) (.slice p.T p.types.length p.tc) (.slice A9 us.length c9)) (fun c e => HUn.out c (by injection e with e; omega) (by injection e with e; omega)), HUp.out, fun c hc => HUa.out c (by omega)⟩
      have XF := hide (ext_set4 (XR.out.setCell (p := ⟨w.heap.size, 3, none⟩) (Nat.le_refl _) (.slice A9 us.length c9)) (b := w.heap.size + 1) (by omega))
      clear hA9 hrow HO HU HA HPk
      subst hK
      go_wp2
      refine bodyPost_ret (v := .tuple #[.agg #[.int .i64 p.kind, .int .i64 p.n, .slice p.T p.types.length p.tc, .slice A9 us.length c9], .bool true]) ?_ rfl ?_
      · simp [results, Tryz.f33, go_sem, y0, y1, y2, y3]
      · refine ⟨⟨u, ?_, ?_⟩, ?_⟩
        · rw [hu]; rfl
        · first | exact HR.out | (intro X h; injection h with h; subst h; exact HR.out)
        · exact XF.out _ _ _ _
theorem r_with24 (L : Option Addr) (cap : Nat) (l : List Pf) (hln : l.length ≤ 9223372036854775807) (p : Pf) : RwC L cap l p := by
  induction p using Pf.ind with
  | h p ih =>
  cases h1 : (p.kind == 1)
  · exact r_with_kids L cap l p h1 ih
  · exact r_with_given L cap l hln p h1

end Go.Proofs.YtbkdlbohhkakiaaGreatDoor

/- Contract: rows of types that are the same; of the reference. -/
namespace Go.Proofs.YtbkdlbohhkakiaaGreatDoor
open Go.RowKit

set_option maxRecDepth 10000 in
set_option maxHeartbeats 4000000 in
theorem r_all16T (A B : Option Addr) (ca cb : Nat) (l m : List Ty) (w : World) (hl : TysIn w A l) (hm : TysIn w B m) (h : l.map Ty.pure = m.map Ty.pure) (hn : l.length ≤ 9223372036854775807) :
    Calls Tryz.prog 35 #[.slice A l.length ca, .slice B m.length cb] w fun e w' => e = .returned (.bool true) ∧ Ext w w' := by
  have hlen : l.length = m.length := by simpa using congrArg List.length h
  have HP : Hid (∀ i (h1 : i < l.length) (h2 : i < m.length), sameB (l[i]'h1) (m[i]'h2) = true) := hide (fun i h1 h2 => by
    rw [sameB_iff]
    have : (l.map Ty.pure)[i]? = (m.map Ty.pure)[i]? := by rw [h]
    rw [List.getElem?_map, List.getElem?_map, List.getElem?_eq_getElem h1, List.getElem?_eq_getElem h2] at this
    simpa using this)
  have HL := hide hl
  have HM := hide hm
  have HLn := hide hlen
  rw [← hlen]
  clear hl hm h hlen
  go_enter Tryz.func35, Tryz.ntmps35
  go_wp2
  go_loopw [5] (fun i wr => ∃ k : Nat, k ≤ l.length ∧ i = .int .i64 k ∧ Hid (Ext w wr)) (fun i _ => l.length - (intOf i).toNat)
  case atStart => exact ⟨0, Nat.zero_le _, rfl, hide (by repeat (first | exact Ext.refl _ | exact Ext.pre (by simp) | exact Ext.alloc (by assumption) _ | refine Ext.alloc ?_ _ |  refine Ext.more ?_ _ _ | refine Ext.drew ?_ | refine Ext.drewN ?_ _))⟩
  case round =>
    obtain ⟨k, hk, rfl, HX⟩ := hrel
    by_cases hlt : k < l.length
    · have hltb : k < m.length := by rw [← HLn.out]; exact hlt
      have hlt' : (k : Int) < (l.length : Int) := by omega
      have hk0 : (0 : Int) ≤ (k : Int) := by omega
      obtain ⟨p, o, hA, hp, q0, q1, q2⟩ := (HL.out.ext HX.out).at_ hlt
      obtain ⟨p', o', hB, hp', r0, r1, r2⟩ := (HM.out.ext HX.out).at_ hltb
      have HC := hide (fun w' (e : Ext w w') => hide (r_same16 (l[k]'hlt) (m[k]'hltb) w' ((HL.out.args _ (List.getElem_mem hlt)).ext e) ((HM.out.args _ (List.getElem_mem hltb)).ext e)))
      rw [HP.out k hlt hltb] at HC
      have HSa := hide (fun w' (e : Ext wr w') => And.intro (e.cell q0) (And.intro (e.cell q1) (And.intro (e.cell q2) (And.intro (e.cell r0) (And.intro (e.cell r1) (e.cell r2))))))
      generalize l[k]'hlt = x at *
      generalize m[k]'hltb = y at *
      rw [hA, hB]
      clear hA hB
      unfold tyV at HC
      go_wp2
      go_region_held3 (fun w' => w'.cell? ⟨p, o + k * 3, none⟩ = some (.string ⟨x.con.toArray⟩) ∧ w'.cell? ⟨p, o + k * 3 + 1, none⟩ = some (.int .i64 x.var) ∧ w'.cell? ⟨p, o + k * 3 + 2, none⟩ = some (.slice x.A x.args.length x.cap) ∧ w'.cell? ⟨p', o' + k * 3, none⟩ = some (.string ⟨y.con.toArray⟩) ∧ w'.cell? ⟨p', o' + k * 3 + 1, none⟩ = some (.int .i64 y.var) ∧ w'.cell? ⟨p', o' + k * 3 + 2, none⟩ = some (.slice y.A y.args.length y.cap)) (first | assumption | go_keep) (first
        | (go_at_call 31
           refine Calls.mono (HC.out _ (HX.out.trans ((Ext.refl _).drew))).out ?_
           rintro e w5 ⟨rfl, hx5⟩
           have X5 := hide (HX.out.trans (((Ext.refl wr).drew).trans hx5))
           have k5 := HSa.out _ (((Ext.refl wr).drew).trans hx5)
           clear hx5))
      clear k5
      go_wp2
      go_roundw
      case rel => exact ⟨k + 1, hlt, by go_num, X5⟩
      case measure => simp [intOf]; omega
    · have hge : ¬ (k : Int) < (l.length : Int) := by omega
      go_wp2
      go_ret
      exact ⟨rfl, HX.out⟩

end Go.Proofs.YtbkdlbohhkakiaaGreatDoor

/- Contracts of the reference: Put; proofs that are the same. -/
namespace Go.Proofs.YtbkdlbohhkakiaaGreatDoor
open Go.RowKit

set_option maxRecDepth 10000 in
set_option maxHeartbeats 2000000 in
theorem r_size24W (t : Pf) : ∀ (w : World), PfIn w t → t.size ≤ 1000000000000 →
    Calls Tryz.prog 34 #[pfV t] w fun e w' => e = .returned (.int .i64 (t.size : Int)) ∧ Ext w w' := by
  induction t using Pf.ind with
  | h t ih =>
  intro w h hsz
  have IH := hide ih
  have Hk := hide h.all
  have hle := h.hd.le
  have hmx := h.hd.max
  have HB0 := hide (FBox.new w t)
  have X0 : Hid (Ext w (w.alloc (.cells #[.int .i64 t.kind, .int .i64 t.n, .slice t.T t.types.length t.tc, .slice t.A t.kids.length t.cap] 31))) := hide ((Ext.refl w).alloc _)
  have HS : Hid (t.size = psizes t.kids + 1) := hide (Pf.size_eq t)
  have HSt := hide (fun k (hk : k < t.kids.length) => psizes_take t.kids hk)
  have HSl := hide (fun k => psizes_le t.kids k)
  have HSz := hide (fun k (hk : k ∈ t.kids) => Pf.size_kid hk)
  clear ih h
  unfold pfV at *
  go_enter Tryz.func34, Tryz.ntmps34
  go_wp2
  generalize (w.alloc (.cells #[.int .i64 t.kind, .int .i64 t.n, .slice t.T t.types.length t.tc, .slice t.A t.kids.length t.cap] 31)) = w0 at *
  go_loopw [3, 4] (fun v i wr => ∃ k : Nat, k ≤ t.kids.length ∧ i = .int .i64 k ∧ v = .int .i64 ((psizes (t.kids.take k) + 1 : Nat) : Int) ∧ Hid (Ext w0 wr)) (fun _ i _ => t.kids.length - (intOf i).toNat)
  case atStart => exact ⟨0, Nat.zero_le _, rfl, rfl, hide (Ext.refl _)⟩
  case round =>
    obtain ⟨k, hk, rfl, rfl, HX⟩ := hrel
    have HB := hide (HB0.out.ext HX.out)
    have hc3 := HB.out.c3
    by_cases hlt : k < t.kids.length
    · have hlt' : (k : Int) < (t.kids.length : Int) := by omega
      have hk0 : (0 : Int) ≤ (k : Int) := by omega
      obtain ⟨b, o, hA, hb, q0, q1, q2, q3⟩ := (Hk.out.ext (X0.out.trans HX.out)).at_ hlt
      have hkm := List.getElem_mem hlt
      have Hst := hide (HSt.out k hlt)
      have hs1 := HSl.out (k + 1)
      rw [Hst.out] at hs1
      have hS := HS.out
      have hcs := HSz.out _ hkm
      have HC := hide (IH.out _ hkm wr ((Hk.out.kids _ hkm).ext (X0.out.trans HX.out)) (by omega))
      rw [hA] at hc3; clear hA hkm
      generalize t.kids[k]'hlt = c at *
      generalize psizes (t.kids.take k) = s at *
      go_wp2_with fail
      refine HC.out.mono ?_
      rintro e w3 ⟨rfl, hx3⟩
      have X3 := hide (HX.out.trans hx3)
      clear hx3
      go_wp2
      go_roundw
      case rel => exact ⟨k + 1, hlt, by go_num, by rw [Hst.out]; exact congrArg (Value.int .i64) (by omega), X3⟩
      case measure => simp [intOf]; omega
    · have hge : ¬ (k : Int) < (t.kids.length : Int) := by omega
      have hR : psizes (t.kids.take k) + 1 = t.size := by rw [HS.out, List.take_of_length_le (by omega)]
      rw [hR]
      clear hR
      go_wp2
      go_ret
      exact ⟨rfl, X0.out.trans HX.out⟩


set_option maxRecDepth 10000 in
set_option maxHeartbeats 4000000 in
theorem r_put24 (L : Option Addr) (cap : Nat) (l : List Pf) (hln : l.length ≤ 9223372036854775807) (p : Pf) (w : World) (hl : PfsIn w L l) (hp : PfIn w p) (hsz : p.size ≤ 100000) (hz : putZ l p ≤ 1000000000000) :
    Calls Tryz.prog 14 #[pfV p, .slice L l.length cap] w fun e w' => (∃ u n, e = .returned (.tuple #[pfV u, .int .i64 n]) ∧ (putK l p = none → n = 1 ∧ u = Pf.zero) ∧ (∀ X, putK l p = some X → putZ l p ≤ 4096 → n = 0 ∧ PfIn w' u ∧ u.pure = X) ∧ (∀ X, putK l p = some X → 4096 < putZ l p → n = 2 ∧ u = Pf.zero)) ∧ Ext w w' := by
  obtain ⟨W, hW⟩ : ∃ W, W = (w.alloc (.cells #[.int .i64 p.kind, .int .i64 p.n, .slice p.T p.types.length p.tc, .slice p.A p.kids.length p.cap] 31)).alloc (.cells #[.int .i64 0, .int .i64 0, .slice none 0 0, .slice none 0 0] 31) := ⟨_, rfl⟩
  have HW := hide hW.symm
  have X0 : Hid (Ext w W) := hide (by rw [hW]; exact ((Ext.refl _).alloc _).alloc _)
  have B1 : Hid (FBox W w.heap.size p) := hide (by rw [hW]; exact (FBox.new w p).ext ((Ext.refl _).alloc _))
  have B2 : Hid (W.heap[w.heap.size + 1]? = some (.cells #[.int .i64 0, .int .i64 0, .slice none 0 0, .slice none 0 0] 31)) := hide (by rw [hW]; exact at_newB _ _ _ (by simp))
  have HsW : Hid (W.heap.size = w.heap.size + 2) := hide (by rw [hW]; simp)
  obtain ⟨c0, c1, c2, c3⟩ := B1.out.cells
  have hlt0 := B1.out.lt
  have HC := hide (r_with24 L cap l hln p W (hl.ext X0.out) (hp.ext X0.out) hsz)
  have HPi := hide (put_is l p)
  have HLa := hide hl
  have Hpa := hide hp
  obtain ⟨K0, hK⟩ : ∃ K, K = putK l p := ⟨_, rfl⟩
  obtain ⟨Z0, hZ⟩ : ∃ Z, Z = putZ l p := ⟨_, rfl⟩
  rw [← hZ] at hz HPi ⊢
  rw [← hK] at HC HPi ⊢
  clear hW hp hl hK hZ
  unfold pfV at *
  go_enter Tryz.func14, Tryz.ntmps14
  go_upto_region 1 with fail
  rw [HW.out]
  clear HW
  go_wp2_with fail
  refine HC.out.mono ?_
  rintro e y ⟨⟨u, rfl, hu⟩, hx⟩
  have Y1 := hide hx
  have HU := hide hu
  clear hu hx HC c0 c1 c2 c3 hlt0
  go_upto_region 2 with fail
  refine wp_named ?_
  intro W2 hW2
  have BU : Hid (FBox W2 y.heap.size u) := hide (by rw [hW2]; exact FBox.new y u)
  have Z1 : Hid (Ext y W2) := hide (by rw [hW2]; exact (Ext.refl _).alloc _)
  have X2 : Hid (Ext W W2) := hide (Y1.out.trans Z1.out)
  have D2 := hide ((X2.out.heap (lt_of_obj B2.out)).trans B2.out)
  clear hW2 Y1
  cases K0 with
  | none =>
    simp only [Option.isSome_none]
    have hy1 := lt_of_obj D2.out
    obtain ⟨y0, y1, y2, y3, yf0, yf1, yf2, yf3⟩ := f0_cells D2.out
    have XF := hide (ext_set4 (X0.out.trans X2.out) (b := w.heap.size + 1) (by omega))
    clear HU HPi
    go_wp2
    refine bodyPost_ret (v := .tuple #[.agg #[.int .i64 0, .int .i64 0, .slice none 0 0, .slice none 0 0], .int .i64 1]) ?_ rfl ⟨⟨Pf.zero, 1, rfl, rfl, rfl⟩, XF.out _ _ _ _⟩
    simp [results, Tryz.f14, go_sem, y0, y1, y2, y3]
  | some X =>
    have HU1 := hide (HU.out X rfl)
    have Hsz : Hid (u.size = Z0) := hide (HPi.out u (by rw [HU1.out.is]))
    have HUi := hide (HU1.out.inn.ext Z1.out)
    have hus := Hsz.out
    have HS := hide (r_size24W u W2 HUi.out (by omega))
    rw [hus] at HS
    simp only [Option.isSome_some]
    obtain ⟨d0, d1, d2, d3⟩ := BU.out.cells
    have ld := BU.out.lt
    clear HU HPi hus
    unfold pfV at HS
    go_wp2_with fail
    refine HS.out.mono ?_
    rintro e w3 ⟨rfl, hx⟩
    have X3 := hide hx
    have BU := hide (BU.out.ext hx)
    have D3 := hide ((hx.heap (lt_of_obj D2.out)).trans D2.out)
    clear hx HS d0 d1 d2 d3 ld
    obtain ⟨d0, d1, d2, d3⟩ := BU.out.cells
    have ld := BU.out.lt
    have hy1 := lt_of_obj D3.out
    obtain ⟨y0, y1, y2, y3, yf0, yf1, yf2, yf3⟩ := f0_cells D3.out
    have XF := hide (ext_set4 (X0.out.trans (X2.out.trans X3.out)) (b := w.heap.size + 1) (by omega))
    by_cases hlim : 4096 < Z0
    · have hlim2 : (Z0 : Int) > 4096 := by omega
      go_wp2
      refine bodyPost_ret (v := .tuple #[.agg #[.int .i64 0, .int .i64 0, .slice none 0 0, .slice none 0 0], .int .i64 2]) ?_ rfl ⟨⟨Pf.zero, 2, rfl, (fun h => by cases h), (fun X _ h => absurd h (by omega)), (fun X _ _ => ⟨rfl, rfl⟩)⟩, XF.out _ _ _ _⟩
      simp [results, Tryz.f14, go_sem, y0, y1, y2, y3]
    · have hlim2 : ¬ (Z0 : Int) > 4096 := by omega
      have HF : Hid (PfIn (((((w3.setCell ⟨w.heap.size + 1, 0, none⟩ (.int .i64 u.kind)).setCell ⟨w.heap.size + 1, 1, none⟩ (.int .i64 u.n)).setCell ⟨w.heap.size + 1, 2, none⟩ (.slice u.T u.types.length u.tc)).setCell ⟨w.heap.size + 1, 3, none⟩ (.slice u.A u.kids.length u.cap))) u) := hide (by
        have hW0 := HsW.out
        refine (HUi.out.ext X3.out).grown (set4_grown w3 (w.heap.size + 1) _ _ _ _) (fun c e => ?_)
        injection e with e
        subst e
        exact HU1.out.away _ (by omega) (fun x hx => awayF_new (HLa.out.kids x hx) (by omega)) (awayF_new Hpa.out (by omega)))
      go_wp2
      refine bodyPost_ret (v := .tuple #[.agg #[.int .i64 u.kind, .int .i64 u.n, .slice u.T u.types.length u.tc, .slice u.A u.kids.length u.cap], .int .i64 0]) ?_ rfl ⟨⟨u, 0, rfl, (fun h => by cases h), (fun X h _ => ⟨rfl, HF.out, by injection h with h; rw [HU1.out.is, h]⟩), (fun X _ h => absurd h (by omega))⟩, XF.out _ _ _ _⟩
      simp [results, Tryz.f14, go_sem, y0, y1, y2, y3]

end Go.Proofs.YtbkdlbohhkakiaaGreatDoor

/- Contract of the reference: proofs that are the same. -/
namespace Go.Proofs.YtbkdlbohhkakiaaGreatDoor
open Go.RowKit

set_option maxRecDepth 10000 in
set_option maxHeartbeats 4000000 in
theorem r_same24 (a : Pf) : ∀ (b : Pf) (w : World), PfIn w a → PfIn w b → a.pure = b.pure → Calls Tryz.prog 15 #[pfV a, pfV b] w fun e w' => e = .returned (.bool true) ∧ Ext w w' := by
  induction a using Pf.ind with
  | h a ih =>
  intro b w ha hb h
  obtain ⟨h1, h2, h5, h6⟩ := pf_parts h
  have HT := hide (fun w' (e : Ext w w') => hide (r_all16T a.T b.T a.tc b.tc a.types b.types w' (ha.hd.types.ext e) (hb.hd.types.ext e) h5 (Nat.le_trans ha.hd.tle ha.hd.tmax)))
  have hlen : a.kids.length = b.kids.length := by simpa using congrArg List.length h6
  have HP : Hid (∀ i (h1 : i < a.kids.length) (h2 : i < b.kids.length), (a.kids[i]'h1).pure = (b.kids[i]'h2).pure) := hide (fun i h1 h2 => by
    have : (a.kids.map Pf.pure)[i]? = (b.kids.map Pf.pure)[i]? := by rw [h6]
    rw [List.getElem?_map, List.getElem?_map, List.getElem?_eq_getElem h1, List.getElem?_eq_getElem h2] at this
    simpa using this)
  have hle := ha.hd.le
  have hmx := ha.hd.max
  have HL := hide ha.all
  have HM := hide hb.all
  have HFf := hide ih
  have g1 : (a.kind != b.kind) = false := by rw [h1]; simp
  have g2 : (a.n != b.n) = false := by rw [h2]; simp
  have g3 : ((a.kids.length : Int) != (a.kids.length : Int)) = false := by simp
  obtain ⟨W, hW⟩ : ∃ W, W = (w.alloc (.cells #[.int .i64 a.kind, .int .i64 a.n, .slice a.T a.types.length a.tc, .slice a.A a.kids.length a.cap] 31)).alloc (.cells #[.int .i64 b.kind, .int .i64 b.n, .slice b.T b.types.length b.tc, .slice b.A b.kids.length b.cap] 31) := ⟨_, rfl⟩
  have HW := hide hW.symm
  have X0 : Hid (Ext w W) := hide (by rw [hW]; exact ((Ext.refl _).alloc _).alloc _)
  have B1 : Hid (FBox W w.heap.size a) := hide (by rw [hW]; exact (FBox.new w a).ext ((Ext.refl _).alloc _))
  have B2 : Hid (FBox W (w.heap.size + 1) b) := hide (by rw [hW]; exact at_newB _ _ _ (by simp))
  have HLn := hide hlen
  clear h h1 h2 h5 h6 ih ha hb hW
  unfold pfV
  obtain ⟨c0, c1, c2, c3⟩ := B1.out.cells
  obtain ⟨d0, d1, d2, d3⟩ := B2.out.cells
  rw [← hlen] at d3
  clear hlen
  have l1 := B1.out.lt
  have l2 := B2.out.lt
  go_enter Tryz.func15, Tryz.ntmps15
  go_upto_region 1 with fail
  rw [HW.out]
  clear HW
  go_wp2_with fail
  refine (HT.out _ X0.out).out.mono ?_
  rintro e w2 ⟨rfl, hx⟩
  have X2 := hide hx
  have B1 := hide (B1.out.ext hx)
  have B2 := hide (B2.out.ext hx)
  clear hx c0 c1 c2 c3 d0 d1 d2 d3 l1 l2
  go_wp2
  go_loopw [5] (fun i wr => ∃ k : Nat, k ≤ a.kids.length ∧ i = .int .i64 k ∧ Hid (Ext w2 wr)) (fun i _ => a.kids.length - (intOf i).toNat)
  case atStart => exact ⟨0, Nat.zero_le _, rfl, hide (Ext.refl _)⟩
  case round =>
    obtain ⟨k, hk, rfl, HX⟩ := hrel
    have XR := hide (X0.out.trans (X2.out.trans HX.out))
    obtain ⟨-, -, -, c3⟩ := (B1.out.ext HX.out).cells
    obtain ⟨-, -, -, d3⟩ := (B2.out.ext HX.out).cells
    rw [← HLn.out] at d3
    have l1 := (B1.out.ext HX.out).lt
    have l2 := (B2.out.ext HX.out).lt
    by_cases hlt : k < a.kids.length
    · have hltb : k < b.kids.length := by rw [← HLn.out]; exact hlt
      have hlt' : (k : Int) < (a.kids.length : Int) := by omega
      have hk0 : (0 : Int) ≤ (k : Int) := by omega
      obtain ⟨p, o, hA, hp, q0, q1, q2, q3⟩ := (HL.out.ext XR.out).at_ hlt
      obtain ⟨p', o', hB, hp', r0, r1, r2, r3⟩ := (HM.out.ext XR.out).at_ hltb
      have HC := hide (fun w' (e : Ext w w') => hide (HFf.out _ (List.getElem_mem hlt) (b.kids[k]'hltb) w' ((HL.out.kids _ (List.getElem_mem hlt)).ext e) ((HM.out.kids _ (List.getElem_mem hltb)).ext e) (HP.out k hlt hltb)))
      generalize a.kids[k]'hlt = x at *
      generalize b.kids[k]'hltb = y at *
      rw [hA] at c3
      rw [hB] at d3
      clear hA hB
      have HSa := hide (fun w' (e : Ext wr w') => And.intro (e.cell c3) (And.intro (e.cell d3) (And.intro (e.cell q0) (And.intro (e.cell q1) (And.intro (e.cell q2) (And.intro (e.cell q3) (And.intro (e.cell r0) (And.intro (e.cell r1) (And.intro (e.cell r2) (e.cell r3))))))))))
      unfold pfV at HC
      go_wp2
      go_region_held3 (fun w' => w'.cell? ⟨w.heap.size, 3, none⟩ = some (.slice (some ⟨p, o, none⟩) a.kids.length a.cap) ∧ w'.cell? ⟨w.heap.size + 1, 3, none⟩ = some (.slice (some ⟨p', o', none⟩) a.kids.length b.cap) ∧ w'.cell? ⟨p, o + k * 4, none⟩ = some (.int .i64 x.kind) ∧ w'.cell? ⟨p, o + k * 4 + 1, none⟩ = some (.int .i64 x.n) ∧ w'.cell? ⟨p, o + k * 4 + 2, none⟩ = some (.slice x.T x.types.length x.tc) ∧ w'.cell? ⟨p, o + k * 4 + 3, none⟩ = some (.slice x.A x.kids.length x.cap) ∧ w'.cell? ⟨p', o' + k * 4, none⟩ = some (.int .i64 y.kind) ∧ w'.cell? ⟨p', o' + k * 4 + 1, none⟩ = some (.int .i64 y.n) ∧ w'.cell? ⟨p', o' + k * 4 + 2, none⟩ = some (.slice y.T y.types.length y.tc) ∧ w'.cell? ⟨p', o' + k * 4 + 3, none⟩ = some (.slice y.A y.kids.length y.cap)) (first | with_reducible assumption | go_keep) (first
        | (go_at_call 15
           refine Calls.mono (HC.out _ (XR.out.trans (by repeat (first | exact Ext.refl _ | exact Ext.pre (by simp) | exact Ext.alloc (by assumption) _ | refine Ext.alloc ?_ _ |  refine Ext.more ?_ _ _ | refine Ext.drew ?_ | refine Ext.drewN ?_ _)))).out ?_
           rintro e w5 ⟨rfl, hx5⟩
           have X5 : Hid (Ext wr w5) := hide (by refine Ext.trans ?_ hx5; exact (by repeat (first | exact Ext.refl _ | exact Ext.pre (by simp) | exact Ext.alloc (by assumption) _ | refine Ext.alloc ?_ _ |  refine Ext.more ?_ _ _ | refine Ext.drew ?_ | refine Ext.drewN ?_ _)))
           have k5 := HSa.out _ X5.out
           clear hx5))
      all_goals
        have X6 := hide (HX.out.trans X5.out)
        clear k5 c3 d3 q0 q1 q2 q3 r0 r1 r2 r3 l1 l2
        go_wp2
        go_roundw
        case rel => exact ⟨k + 1, hlt, by go_num, X6⟩
        case measure => simp [intOf]; omega
    · have hge : ¬ (k : Int) < (a.kids.length : Int) := by omega
      go_wp2
      go_ret
      exact ⟨rfl, XR.out⟩

end Go.Proofs.YtbkdlbohhkakiaaGreatDoor

/- Contract: chapter 24's law of puts. -/
namespace Go.Proofs.YtbkdlbohhkakiaaGreatDoor
open Go.RowKit

set_option maxRecDepth 10000 in
set_option maxHeartbeats 8000000 in
theorem l_puts24 (p : Pf) (L : Option Addr) (cap : Nat) (l : List Pf) (w : World) (hp : PfIn w p) (hwp : wideF p = true) (hl : PfsIn w L l) (hw : ∀ y ∈ l, wideF y = true) (hgl : HGl w) :
    Calls Tryz.prog 4 #[pfV p, .slice L l.length cap] w fun e w' => e = .returned (.bool true) ∧ Ext w w' := by
  obtain ⟨W, hW⟩ : ∃ W, W = w.alloc (.cells #[.int .i64 p.kind, .int .i64 p.n, .slice p.T p.types.length p.tc, .slice p.A p.kids.length p.cap] 31) := ⟨_, rfl⟩
  have HW := hide hW.symm
  have X0 : Hid (Ext w W) := hide (by rw [hW]; exact (Ext.refl _).alloc _)
  have B1 : Hid (FBox W w.heap.size p) := hide (by rw [hW]; exact FBox.new w p)
  have HG := hide (fun w' (e : Ext W w') => hgl.ext (X0.out.trans e))
  have HFf := hide (fun A c l' w' (h : PfsIn w' A l') (hle : l'.length ≤ 100000) => hide (l_few24 A c l' w' h hle))
  have HL := hide hl
  have Hp := hide hp
  have Hw1 := hide hwp
  have Hw2 := hide hw
  clear hW hp hl hw hwp hgl
  unfold pfV
  go_enter Tryz.func4, Tryz.ntmps4
  go_upto_region 1 with fail
  rw [HW.out]
  clear HW
  by_cases h10 : (10 : Int) < (l.length : Int)
  · (go_wp2_with fail; refine (l_awake24 _ (HG.out _ (Ext.refl W))).mono ?_; rintro e v ⟨rfl, hz⟩; go_wp2; go_ret; exact ⟨rfl, X0.out.trans (Ext.trans (Ext.refl W) hz)⟩)
  obtain ⟨p0, p1, p2, p3⟩ := B1.out.cells
  have lb7 := B1.out.lt
  go_wp2_with fail
  refine (HFf.out (some ⟨W.heap.size, 0, none⟩) 1 [p] _ ⟨RowOf.block pfC [p] (at_newB _ _ _ rfl), all1 ((Hp.out.ext X0.out).ext ((Ext.refl _).alloc _))⟩ (by simp)).out.mono ?_
  rintro e v3 ⟨⟨r, rfl, hr⟩, hx⟩
  have X3 := hide (((Ext.refl W).alloc _).trans hx)
  clear hx p0 p1 p2 p3 lb7
  rcases hr with rfl | ⟨rfl, hs1, -⟩
  · (go_wp2_with fail; refine (l_awake24 _ (HG.out _ X3.out)).mono ?_; rintro e v ⟨rfl, hz⟩; go_wp2; go_ret; exact ⟨rfl, X0.out.trans (Ext.trans X3.out hz)⟩)
  go_wp2_with fail
  refine (HFf.out L cap l _ (HL.out.ext (X0.out.trans X3.out)) (by omega)).out.mono ?_
  rintro e v4 ⟨⟨r, rfl, hr⟩, hx⟩
  have X4 := hide (X3.out.trans hx)
  clear hx X3
  rcases hr with rfl | ⟨rfl, hs2, -⟩
  · (go_wp2_with fail; refine (l_awake24 _ (HG.out _ X4.out)).mono ?_; rintro e v ⟨rfl, hz⟩; go_wp2; go_ret; exact ⟨rfl, X0.out.trans (Ext.trans X4.out hz)⟩)
  have Hz1 : Hid (p.size ≤ 3000) := hide (by simpa [psizes] using hs1)
  have Hz2 : Hid (∀ y ∈ l, y.size ≤ 3000) := hide (fun y hy => Nat.le_trans (Tree.mem_sum Pf.size hy) hs2)
  have hzz : putZ l p ≤ 1000000000000 := by have h1 := putZ_bound l 3000 (by omega) Hz2.out p; have h2 := Hz1.out; omega
  have HPut := hide (f_Put L cap l (by omega) (fun y hy => ⟨Hw2.out y hy, Nat.le_trans (Hz2.out y hy) (by omega)⟩) p v4 (HL.out.ext (X0.out.trans X4.out)) (Hp.out.ext (X0.out.trans X4.out)) Hw1.out (by have := Hz1.out; omega) hzz)
  have HRef := hide (fun w' (e : Ext W w') => hide (r_put24 L cap l (by omega) p w' (HL.out.ext (X0.out.trans e)) (Hp.out.ext (X0.out.trans e)) (by have := Hz1.out; omega) hzz))
  unfold pfV at HPut HRef
  obtain ⟨p0, p1, p2, p3⟩ := (B1.out.ext X4.out).cells
  have lb7 := (B1.out.ext X4.out).lt
  clear hs1 hs2 HFf hzz Hw1 Hw2 Hz1 Hz2
  go_wp2_with fail
  refine HPut.out.mono ?_
  rintro e v5 ⟨⟨u, n1, rfl, hu⟩, hx⟩
  have Y5 := hide hx
  have HU := hide hu
  clear hu hx HPut p0 p1 p2 p3 lb7
  go_upto_region 4 with fail
  refine wp_named ?_
  intro W5 hW5
  have BU : Hid (FBox W5 v5.heap.size u) := hide (by rw [hW5]; exact FBox.new v5 u)
  have Z5 : Hid (Ext v5 W5) := hide (by rw [hW5]; exact (Ext.refl _).alloc _)
  have X5 : Hid (Ext W W5) := hide (X4.out.trans (Y5.out.trans Z5.out))
  clear hW5
  obtain ⟨p0, p1, p2, p3⟩ := (B1.out.ext X5.out).cells
  have lb7 := (B1.out.ext X5.out).lt
  go_wp2_with fail
  refine (HRef.out _ X5.out).out.mono ?_
  rintro e v6 ⟨⟨v, n2, rfl, hv⟩, hx⟩
  have Y6 := hide hx
  have HS : Hid (n1 = n2 ∧ PfIn v5 u ∧ PfIn v6 v ∧ u.pure = v.pure) := hide (by
    cases hK : putK l p with
    | none =>
      obtain ⟨h1, h2⟩ := HU.out.no hK
      obtain ⟨k1, k2⟩ := hv.1 hK
      subst h1 h2 k1 k2
      exact ⟨rfl, PfIn.zero _, PfIn.zero _, rfl⟩
    | some X =>
      by_cases hz : 4096 < putZ l p
      · obtain ⟨h1, h2⟩ := HU.out.lim X hK hz
        obtain ⟨k1, k2⟩ := hv.2.2 X hK hz
        subst h1 h2 k1 k2
        exact ⟨rfl, PfIn.zero _, PfIn.zero _, rfl⟩
      · obtain ⟨h1, h2⟩ := HU.out.yes X hK (by omega)
        obtain ⟨k1, k2, k3⟩ := hv.2.1 X hK (by omega)
        subst h1 k1
        exact ⟨rfl, h2.inn, k2, h2.is.trans k3.symm⟩)
  clear hv hx HRef HU p0 p1 p2 p3 lb7
  obtain ⟨hn, -⟩ := HS.out
  subst hn
  go_upto_region 5 with fail
  refine wp_named ?_
  intro W6 hW6
  have BV : Hid (FBox W6 v6.heap.size v) := hide (by rw [hW6]; exact FBox.new v6 v)
  have Z6 : Hid (Ext v6 W6) := hide (by rw [hW6]; exact (Ext.refl _).alloc _)
  have V6 : Hid (Ext W5 W6) := hide (Y6.out.trans Z6.out)
  have X6 : Hid (Ext W W6) := hide (X5.out.trans V6.out)
  have BU := hide (BU.out.ext V6.out)
  clear hW6
  have HSm := hide (r_same24 u v W6 (HS.out.2.1.ext (Z5.out.trans V6.out)) (HS.out.2.2.1.ext Z6.out) HS.out.2.2.2)
  obtain ⟨u0, u1, u2, u3⟩ := BU.out.cells
  obtain ⟨c0, c1, c2, c3⟩ := BV.out.cells
  have lbu := BU.out.lt
  have lbv := BV.out.lt
  unfold pfV at HSm
  clear HS
  go_wp2_with fail
  refine HSm.out.mono ?_
  rintro e v7 ⟨rfl, hx⟩
  have X7 := hide (X6.out.trans hx)
  clear hx
  (go_wp2_with fail; refine (l_awake24 _ (HG.out _ X7.out)).mono ?_; rintro e v ⟨rfl, hz⟩; go_wp2; go_ret; exact ⟨rfl, X0.out.trans (Ext.trans X7.out hz)⟩)

end Go.Proofs.YtbkdlbohhkakiaaGreatDoor
