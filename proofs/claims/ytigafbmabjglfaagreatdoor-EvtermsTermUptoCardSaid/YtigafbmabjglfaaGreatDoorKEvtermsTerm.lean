/- The term of any proof by chapter 40, or the error, and the types of any predicates are those of the reference: for all arguments that are not too great to stand in memory of a bulk of 1048576, in any world of the handed kind that has errors.errorType and the two sentinels of evterms as they are laid. (A program of ours has printed this.) -/
import Derived.Test.YtigafbmabjglfaaGreatDoorCards
import Derived.Test.YtigafbmabjglfaaGreatDoorTie
import Derived.WalkKit
import Derived.ProofKit
import Derived.OpenShut
import Derived.ChangeOld
import Derived.Below
import Derived.Deep.DeepHandedRow
import Derived.Lib.LaidTab
import Derived.LaidLaws
import Derived.LaidHandle
import Derived.Stop.Joined
import Derived.Stop.LaidErr
import Derived.Stop.LaidTwo
import Derived.Stop.Texts
import Derived.Test.YtigafbmabjglfaaGreatDoorJT34
namespace Go.Proofs.YtigafbmabjglfaaGreatDoor.evtermsTerm
open Go.ChangeShapes Go.WideShapes Go.ChangeAt Go.RowKit
theorem own : ownKnob Tryz.prog.godebug=none:=by kernel_rfl
theorem laidOut : laidOutB Tryz.prog=true:=by kernel_rfl
theorem Zv : Tryz.prog.globalNamed "errors.errorType" = some 2 := by kernel_rfl
theorem rt : (Tryz.prog.cutTypes.find? (·.1 == "internal/reflectlite.rtype")).map (·.2) = some 201 := by kernel_rfl
theorem sizeLe : Tryz.prog.types.size≤438:=of_decide_eq_true (by kernel_rfl)
theorem PL : ((List.range 438).filter fun t=>Tryz.prog.rowNamed t [101,114,114,111,114])=[77]:=by kernel_rfl
theorem handle : typeHandle Tryz.prog 77=.pointer (some ⟨4,77,none⟩):=by kernel_rfl
theorem gN : Tryz.prog.globalNamed "envoy/evterms.errNone" = some 0 := by kernel_rfl
theorem gG : Tryz.prog.globalNamed "envoy/evterms.errGreat" = some 1 := by kernel_rfl
theorem PM : (Tryz.prog.globals[0]?).map (·.type)=some 77:=by kernel_rfl
theorem PN : (Tryz.prog.globals[1]?).map (·.type)=some 77:=by kernel_rfl
theorem PO : Tryz.prog.cellsOf 326=1:=by kernel_rfl
theorem PQ : Tryz.prog.cellsOf 9=1:=by kernel_rfl
theorem star : "*" ++ "errors.errorString" = "*errors.errorString" := by decide
theorem Zw (u : TypeId) (h : Tryz.prog.typeName? 3 u = some "*errors.errorString") : u = 306 :=
 typeName_ptr_named (nm := "errors.errorString") (by rw [star]; kernel_rfl) (by kernel_rfl) (by decide) u (by rw [star]; exact h)
abbrev Un : ByteArray:=⟨#[110,111,110,101]⟩
abbrev PR : ByteArray:=⟨#[103,114,101,97,116]⟩
noncomputable def low : Nat:=(World.holding Tryz.prog default ⟨#[],#[],[]⟩).heap.size
theorem qQ {W:World}(h:laidMetH Tryz.prog Rows.evtermsTermUptoRow.laid W):qY W∧∃a0 a1,jv W a0 a1:=by
 have h' : laidMet Tryz.prog [("envoy/evterms.errNone", Rows.laid_envoy_evterms_errNone), ("envoy/evterms.errGreat", Rows.laid_envoy_evterms_errGreat)] W ∧ handlesMet Tryz.prog [("errors.errorType", Rows.laid_errors_errorType)] W := h;obtain⟨name,u,ty,e1,e2,e3,e4,e5⟩:=h'.2 _ (List.mem_singleton.2 rfl);have en:name=[101,114,114,111,114]:=(Option.some.inj e1).symm;subst en;obtain rfl:=Option.some.inj (rt.symm.trans e2);have hm:ty∈(List.range 438).filter fun t=>Tryz.prog.rowNamed t [101,114,114,111,114]:=List.mem_filter.2 ⟨List.mem_range.2 (Nat.lt_of_lt_of_le e3 sizeLe),e4⟩
 rw[PL] at hm;obtain rfl:=List.mem_singleton.1 hm;rw[handle] at e5;refine⟨by unfold qY;simpa using World.var?_cell Zv e5 0,?_⟩;obtain⟨a0,a1,s0,s1,c0,c1,t0,t1,hv0,Jb,-,-,-,-,-,-,hne,hb0,hb1⟩:=laid_sentinels2 h'.1 gN PM gG PN Tryz.underlying77 Zw Tryz.underlying306 Tryz.underlying326 rfl rfl Tryz.underlying9 PO PQ;exact⟨a0,a1,by simpa using World.var?_cell gN hv0 0,by simpa using World.var?_cell gG Jb 0,hne,⟨c0,t0,hb0⟩,⟨c1,t1,hb1⟩⟩
noncomputable def nJ (os:Os):World:=
 let w0:=World.holding Tryz.prog os ⟨#[.cells #[.string Un] 326,.cells #[.string PR] 326],#[],[]⟩
 { w0 with heap:=((w0.heap.modify 0 fun
   | .cells _ t frozen=>.cells #[.iface 306 (.pointer (some ⟨low,0,none⟩))] t frozen
   |o=>o).modify 1 fun
   | .cells _ t frozen=>.cells #[.iface 306 (.pointer (some ⟨low+1,0,none⟩))] t frozen
   |o=>o).modify 2 fun
   | .cells _ t frozen=>.cells #[.iface 201 (.agg #[.pointer (some ⟨4,77,none⟩)])] t frozen
   |o=>o }
theorem IY (os:Os):laidMetH Tryz.prog Rows.evtermsTermUptoRow.laid ((nJ os).forCall (fun _ _=>0) ⟨#[],#[.agg #[.slice none 0 0,.slice none 0 0,.slice none 0 0,.slice none 0 0,.slice none 0 0],.agg #[.int .i64 0,.int .i64 0,.slice none 0 0,.slice none 0 0]],[]⟩).memory:=
 laidMetH_of_parts (laidMet_of_run (ps:=[.cell 0 0,.cell low 0,.cell 1 0,.cell (low+1) 0]) 8 (by kernel_rfl) (by kernel_rfl) (by kernel_rfl)) (by kernel_rfl)
theorem reads (os:Os){H:Type}(enc:TypeId×Value→H):∃places,DataW.whole enc Tryz.prog ((nJ os).forCall (fun _ _=>0) ⟨#[],#[.agg #[.slice none 0 0,.slice none 0 0,.slice none 0 0,.slice none 0 0,.slice none 0 0],.agg #[.int .i64 0,.int .i64 0,.slice none 0 0,.slice none 0 0]],[]⟩).memory Tryz.f3.params.toList Rows.evtermsTermSpec.vars false (#[.agg #[.slice none 0 0,.slice none 0 0,.slice none 0 0,.slice none 0 0,.slice none 0 0],.agg #[.int .i64 0,.int .i64 0,.slice none 0 0,.slice none 0 0]]:Array Value).toList 8=some ([.agg [.agg [.nil,.nil,.nil],.nil,.nil],.agg [.lit (.int .i64 0),.lit (.int .i64 0),.nil,.nil]],[],places):=
 ⟨[],by kernel_rfl⟩
set_option maxRecDepth 100000 in
theorem lifted (os:Os) (started:os.Started) (H:Type) (enc:TypeId×Value→H) (F:Stop.Interp) :
  ReturnsInHanded {} Tryz.checked os 3 .any ((Rows.OpenSpec.upto Rows.evtermsTermSpec).preRow enc Tryz.prog Tryz.f3 Rows.evtermsTermUptoRow.domain false Rows.evtermsTermUptoRow.laid) (((Rows.OpenSpec.upto Rows.evtermsTermSpec).at F).post enc Tryz.prog Tryz.f3 false true false false):=by
 obtain⟨places,hx⟩:=reads os enc;refine returnsInHanded_of_row (C:=Tryz.checked) (s:=Rows.OpenSpec.upto Rows.evtermsTermSpec) own started (by kernel_rfl) Tryz.func3
  (witness_row_at (enc:=enc) (C:=Tryz.checked) false (nJ os) #[.agg #[.slice none 0 0,.slice none 0 0,.slice none 0 0,.slice none 0 0,.slice none 0 0],.agg #[.int .i64 0,.int .i64 0,.slice none 0 0,.slice none 0 0]] rfl (by kernel_rfl) (by kernel_rfl) (by kernel_rfl)
   (OpenSpec.preRow_of_cond 8 hx (by kernel_rfl) (fun k hk=>by cases hk;kernel_rfl) (by kernel_rfl) (IY os))) ?_
 intro W base args ds gs before Nb hW _ Uo hsz hL _ _;obtain⟨jd,a0,a1,nd⟩:=qQ hL;have hk:Rows.uptoSmall H (ds++gs)=true:=Uo _ rfl;have hval:∀(j:Nat) t v,Tryz.f3.params[j]?=some t→args[j]?=some v→Value.okWide Tryz.prog W .any base t v:=Nb;have hW':=hW;obtain⟨p,q,vt,hV,rfl,hfz,Yp⟩:=hW;have hA:DataW.TrodAll enc Tryz.prog W 0 (fun _=>true) true Tryz.f3.params.toList args.toList ds p:=vt;rw[Tryz.params3] at hA hval hsz;obtain⟨v0,vs0,d0,ds0,p0,q0,ab4,rfl,rfl,h0,t0⟩:=trodAll_cons hA;obtain⟨v1,vs1,d1,ds1,p1,q1,rfl,rfl,rfl,h1,t1⟩:=trodAll_cons t0;obtain⟨rfl,rfl,rfl⟩:=trodAll_nil t1;obtain rfl:args=#[v0,v1]:=by cases args;simp_all
 obtain⟨rfl,rfl⟩:=trodVars_none hV;have k0:=h0;have Qs:∀x∈p0,x.block<W.heap.size:=by obtain⟨m,hm⟩:=k0;exact DataW.trod_lt m _ _ _ hm
 have k1:=h1;have Qt:∀x∈p1,x.block<W.heap.size:=by obtain⟨m,hm⟩:=k1;exact DataW.trod_lt m _ _ _ hm
 obtain⟨x,P,pc,preds,L,lc,given,e0,r0,o0,s0,w0⟩:=zJ h0 (IP Tryz.underlying30 (hval 0 30 v0 rfl rfl)) (cD.AG hsz (j:=0) rfl rfl);subst e0;obtain⟨p,e1,r1,w1,o1⟩:=xC h1 (IP Tryz.underlying34 (hval 1 34 v1 rfl rfl)) (cD.AG hsz (j:=1) rfl rfl) (IW hk (by simp));subst e1;clear vt Nb;refine(IL x P pc preds L lc given p a0 a1 W r0 o0 s0 w0 r1 w1 o1 jd nd).mono fun e W' ⟨he,ext⟩ => ?_
 subst he;have Zx:=ext.below;exact⟨_,rfl,_,_,_,[],_,[],hW',trodAll_mk1 (shut_bool Tryz.underlying4 _),(trodAll_cons_mk (Below.trod laidOut (by kernel_rfl) (of_decide_eq_true (by kernel_rfl)) k0 Zx Qs) (trodAll_cons_mk (Below.trod laidOut (by kernel_rfl) (of_decide_eq_true (by kernel_rfl)) k1 Zx Qt) trodAll_mk0)),rfl,Zx.frame _,fun h=>by cases h⟩
theorem row : Rows.evtermsTermUptoRow.holds Tryz.pinned (Rows.OpenSpec.upto Rows.evtermsTermSpec):=
 OpenClaim.holds_of_cond 3 Tryz.f3 rfl rfl rfl rfl rfl rfl rfl ⟨rfl,rfl,rfl,rfl,rfl⟩ rfl rfl rfl rfl rfl (by kernel_rfl) Tryz.func3 (by kernel_rfl)
  (of_decide_eq_true (by kernel_rfl)) (by unfold Func.isWrapper;first|(rw[if_pos (by decide +kernel)];kernel_rfl)|(rw[if_neg (by decide +kernel)];exact⟨rfl,rfl⟩))
  (fun os started H enc _ F=>by rw[OpenClaim.pre_eq_preRow];exact lifted os started H enc F)
theorem plain (f:FuncId) (fn:Func) (hf:Tryz.pinned.checked.prog.funcNamed Rows.evtermsTermUptoRow.func=some f) (hfn:Tryz.pinned.checked.prog.funcs[f]?=some fn) :
  true=Tryz.pinned.checked.prog.looks []∧∀(j:Nat) t,fn.params[j]?=some t→Tryz.pinned.checked.prog.wantsStandIn t=false:=by
 obtain rfl:f=3:=Option.some.inj ((show Tryz.prog.funcNamed Rows.evtermsTermUptoRow.func=some 3 by kernel_rfl).symm.trans hf)|>.symm
 obtain rfl:fn=Tryz.f3:=(Option.some.inj (Tryz.func3.symm.trans hfn)).symm;refine⟨by kernel_rfl,fun j t ht => ?_⟩;rw[Tryz.params3] at ht;have hall:(#[30,34]:Array TypeId).all (fun t => !Tryz.prog.wantsStandIn t)=true:=by kernel_rfl
 have zr:=Array.mem_of_getElem? ht;rw[Array.all_eq_true_iff_forall_mem] at hall;exact(show Tryz.prog.wantsStandIn t=false by simpa using hall t zr)
theorem proved : Rows.EvtermsTermUptoCardSaid:=
 Claim7.holds_tied_plain_at .later [] _ _ _ _ row (fun _ h=>by cases h) (by kernel_rfl) (fun _ h=>by cases h) evtermsTermUpto_row_tie rfl ⟨rfl,rfl⟩ (by kernel_rfl) rfl plain (by kernel_rfl)
#print axioms proved
end Go.Proofs.YtigafbmabjglfaaGreatDoor.evtermsTerm
