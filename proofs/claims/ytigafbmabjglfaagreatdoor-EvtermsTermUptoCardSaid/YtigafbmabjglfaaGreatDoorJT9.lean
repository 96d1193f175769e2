import Derived.Test.YtigafbmabjglfaaGreatDoorJT8
import Derived.ScopeJumps
namespace Go.Proofs.YtigafbmabjglfaaGreatDoor
open Go.RowKit
theorem mm {b:UInt8}(h:iC b=true):48≤b.toNat∧b.toNat≤57:=by unfold iC at h;simp at h;omega
set_option maxRecDepth 10000
set_option maxHeartbeats 8000000
theorem Ee (s:aj) (w:World) (hl:s.length≤9223372036854775807):Calls Tryz.prog 223 #[encStr s] w fun e w'=>e=.returned (.tuple #[.int .i64 (cK s).1,.int .i64 (cK s).2])∧w'=w:=by
 cases h0:(s == [])
 ·have hne:s≠[]:=by simpa using h0
  cases hd:s.all iC
  ·have hR:=rU hd;rw[hR];have HA:ahg ((s.drop 0).all iC=false):=aa hd;clear hR hne hd;go_enter Tryz.func223,Tryz.ntmps223;go_wp2
   go_loop [4] (fun i=>∃k:Nat,k≤s.length∧i=.int .i64 k∧ahg ((s.drop k).all iC=false)) (fun i=>s.length - (intOf i).toNat)
   case atStart=>exact⟨0,ahj _,rfl,HA⟩
   case round=>
    obtain⟨k,hk,rfl,HK⟩:=hrel
    by_cases hlt:k<s.length
    ·have aS:(k:Int)<(s.length:Int):=by omega
     have dy:(0:Int)≤(k:Int):=by omega
     have Hb:ahg (s.drop k=s[k]'hlt :: s.drop (k+1)):=aa (List.drop_eq_getElem_cons hlt);have hb:s[k]'hlt=s[k]'hlt:=rfl;generalize hb2:s[k]'hlt=b at *;clear hb;rw[Hb.o,List.all_cons] at HK;have hz0:(0:Int)≤((b.toNat:Nat):Int):=by omega
     by_cases Us:((b.toNat:Nat):Int)<48
     ·go_wp2;go_ret2;exact⟨rfl,rfl⟩
     ·by_cases Ut:((b.toNat:Nat):Int)>57
      ·go_wp2;go_ret2;exact⟨rfl,rfl⟩
      ·have hB:iC b=true:=by unfold iC;simp;omega
       rw[hB] at HK;go_wp2
       go_round
       case rel=>exact⟨k+1,hlt,by go_num,aa (by simpa using HK.o)⟩
       case measure=>simp[intOf];omega
    ·exfalso
     have:=HK.o;rw[List.drop_of_length_le (by omega)] at this;cases this
  ·have HD:ahg (∀k (h:k<s.length),iC (s[k]'h)=true):=aa (fun k h=>List.all_eq_true.1 hd _ (ahh h));have HS:=aa (fun n k=>po (s:=s) (n:=n) hne hd k);have HN:=aa (fun k=>pq (s:=s) hne hd k);have HG:ahg (cG 0 (s.drop 0)=cG 0 s):=aa rfl;clear hne hd;generalize cK s=R at *;go_enter Tryz.func223,Tryz.ntmps223;go_wp2
   go_loop [4] (fun i=>∃k:Nat,k≤s.length∧i=.int .i64 k) (fun i=>s.length - (intOf i).toNat)
   case atStart=>exact⟨0,ahj _,rfl⟩
   case round=>
    obtain⟨k,hk,rfl⟩:=hrel
    by_cases hlt:k<s.length
    ·have aS:(k:Int)<(s.length:Int):=by omega
     have dy:(0:Int)≤(k:Int):=by omega
     have hB:=mm (HD.o k hlt);have hb:s[k]'hlt=s[k]'hlt:=rfl;generalize hb2:s[k]'hlt=b at *;clear hb;have Us:¬((b.toNat:Nat):Int)<48:=by omega
     have Ut:¬((b.toNat:Nat):Int)>57:=by omega
     go_wp2
     go_round
     case rel=>exact⟨k+1,hlt,by go_num⟩
     case measure=>simp[intOf];omega
    ·have bU:¬(k:Int)<(s.length:Int):=by omega
     go_wp2
     go_loop [5,6] (fun v i=>∃n j:Nat,j≤s.length∧i=.int .i64 j∧v=.int .i64 n∧n≤9223372036854775807∧ahg (cG n (s.drop j)=cG 0 s)) (fun _ i=>s.length - (intOf i).toNat)
     case atStart=>exact⟨0,0,ahj _,rfl,rfl,by omega,HG⟩
     case round=>
      obtain⟨n,j,hj,rfl,rfl,hn,HK⟩:=hrel
      by_cases fS:j<s.length
      ·have QI:(j:Int)<(s.length:Int):=by omega
       have q8:(0:Int)≤(j:Int):=by omega
       have hB:=mm (HD.o j fS);have Hb:ahg (s.drop j=s[j]'fS :: s.drop (j+1)):=aa (List.drop_eq_getElem_cons fS);have hb:s[j]'fS=s[j]'fS:=rfl;generalize hb2:s[j]'fS=b at *;clear hb;rw[Hb.o,jU] at HK;have hz0:(0:Int)≤((b.toNat:Nat):Int):=by omega
       by_cases I0:n>(9223372036854775807 - (b.toNat - 48)) / 10
       ·rw[if_pos I0] at HK;have hR:=HN.o HK.o.symm;subst hR;have hq:(n:Int)>(9223372036854775807 - ((b.toNat:Int) - 48)) / 10:=by omega
        go_wp2;go_ret2;exact⟨rfl,rfl⟩
       ·rw[if_neg I0] at HK;have hq:¬(n:Int)>(9223372036854775807 - ((b.toNat:Int) - 48)) / 10:=by omega
        go_wp2
        go_round
        case rel=>exact⟨10*n+(b.toNat - 48),j+1,fS,by go_num,congrArg (Value.int .i64) (by omega),by omega,HK⟩
        case measure=>simp[intOf];omega
      ·have VW:¬(j:Int)<(s.length:Int):=by omega
       have hR:=HS.o n (by have:=HK.o;rw[List.drop_of_length_le (by omega)] at this;exact this.symm);subst hR;go_wp2;go_ret2;exact⟨rfl,rfl⟩
 ·have hs:s=[]:=by simpa using h0
  subst hs;rw[AL];go_enter Tryz.func223,Tryz.ntmps223;go_wp2;go_ret2;exact⟨rfl,rfl⟩
theorem Ni (s:aj) (w:World) (hl:s.length≤9223372036854775807):Calls Tryz.prog 231 #[encStr s] w fun e w'=>e=.returned (.tuple #[.int .i64 (cK s).1,.int .i64 (cK s).2])∧w'=w:=by
 cases hd:s.all iC
 ·have hR:=rU hd;rw[hR];have HA:ahg ((s.drop 0).all iC=false):=aa hd;clear hR hd;go_enter Tryz.func231,Tryz.ntmps231;go_wp2;refine wp_scope_jumps 0 (fun _ _=>False) (fun _ _=>0) rfl ?_ (fun _ _ h=>h.elim);go_wp2
  go_loop [10] (fun i=>∃k:Nat,k≤s.length∧i=.int .i64 k∧ahg ((s.drop k).all iC=false)) (fun i=>s.length - (intOf i).toNat)
  case atStart=>exact⟨0,ahj _,rfl,HA⟩
  case round=>
   obtain⟨k,hk,rfl,HK⟩:=hrel
   by_cases hlt:k<s.length
   ·have aS:(k:Int)<(s.length:Int):=by omega
    have dy:(0:Int)≤(k:Int):=by omega
    have Hb:ahg (s.drop k=s[k]'hlt :: s.drop (k+1)):=aa (List.drop_eq_getElem_cons hlt);have hb:s[k]'hlt=s[k]'hlt:=rfl;generalize hb2:s[k]'hlt=b at *;clear hb;rw[Hb.o,List.all_cons] at HK;have hz0:(0:Int)≤((b.toNat:Nat):Int):=by omega
    by_cases Us:((b.toNat:Nat):Int)<48
    ·go_wp2;simp only[Exit.jump];go_ret2;exact⟨rfl,rfl⟩
    ·by_cases Ut:((b.toNat:Nat):Int)>57
     ·go_wp2;simp only[Exit.jump];go_ret2;exact⟨rfl,rfl⟩
     ·have hB:iC b=true:=by unfold iC;simp;omega
      rw[hB] at HK;go_wp2
      go_round
      case rel=>exact⟨k+1,hlt,by go_num,aa (by simpa using HK.o)⟩
      case measure=>simp[intOf];omega
   ·exfalso
    have:=HK.o;rw[List.drop_of_length_le (by omega)] at this;cases this
 ·have HD:ahg (∀k (h:k<s.length),iC (s[k]'h)=true):=aa (fun k h=>List.all_eq_true.1 hd _ (ahh h));have HE:ahg (s=[]→cK s=(0,5)):=aa (fun e=>by rw[e];rfl);have HS:=aa (fun n (hne:s≠[]) k=>po (s:=s) (n:=n) hne hd k);have HN:=aa (fun(hne:s≠[]) k=>pq (s:=s) hne hd k);have HG:ahg (cG 0 (s.drop 0)=cG 0 s):=aa rfl;clear hd;generalize cK s=R at *;go_enter Tryz.func231,Tryz.ntmps231;go_wp2;refine wp_scope_jumps 0 (fun a' w'=>w'=w∧∃(n j:Nat) (u1 u2 u3 u4 u7 u8 u9 u10 u11 u12 u13 u14 u15 u16 u17 u18 u19 u20 u21 u22 u23 u24 u25 u26 u27 u28 u29 u30 u31 u32 u33 u34 u35 u36 u37 u38 u39 u40 u41 u42 u43 u44 u45 u46:Value),a' = { tmps:=#[encStr s,u1,u2,u3,u4,.int .i64 (n:Nat),.int .i64 (j:Nat),u7,u8,u9,u10,u11,u12,u13,u14,u15,u16,u17,u18,u19,u20,u21,u22,u23,u24,u25,u26,u27,u28,u29,u30,u31,u32,u33,u34,u35,u36,u37,u38,u39,u40,u41,u42,u43,u44,u45,u46],defers:=[] }∧j<s.length∧n≤9223372036854775807∧ahg (cG n (s.drop j)=cG 0 s)) (fun a' _=>s.length - (intOf (a'.tmps.getD 6 undef)).toNat) rfl ?_ ?_
  ·go_wp2
   go_loop [10] (fun i=>∃k:Nat,k≤s.length∧i=.int .i64 k) (fun i=>s.length - (intOf i).toNat)
   case atStart=>exact⟨0,ahj _,rfl⟩
   case round=>
    obtain⟨k,hk,rfl⟩:=hrel
    by_cases hlt:k<s.length
    ·have aS:(k:Int)<(s.length:Int):=by omega
     have dy:(0:Int)≤(k:Int):=by omega
     have hB:=mm (HD.o k hlt);have hb:s[k]'hlt=s[k]'hlt:=rfl;generalize hb2:s[k]'hlt=b at *;clear hb;have Us:¬((b.toNat:Nat):Int)<48:=by omega
     have Ut:¬((b.toNat:Nat):Int)>57:=by omega
     go_wp2
     go_round
     case rel=>exact⟨k+1,hlt,by go_num⟩
     case measure=>simp[intOf];omega
    ·have bU:¬(k:Int)<(s.length:Int):=by omega
     cases h0:(s == [])
     ·have hne:s≠[]:=by simpa using h0
      have fS:0<s.length:=List.length_pos_iff.2 hne;have HS:=aa (fun n k=>HS.o n hne k);have HN:=aa (fun k=>HN.o hne k);clear hne;have HK:=HG;go_wp2
      go_step3
      have q8:(0:Int)≤(0:Int):=by omega
      have hB:=mm (HD.o 0 fS);have Hb:ahg (s.drop 0=s[0]'fS :: s.drop 1):=aa (List.drop_eq_getElem_cons fS);have hb:s[0]'fS=s[0]'fS:=rfl;generalize hb2:s[0]'fS=b at *;clear hb;rw[Hb.o,jU] at HK;have hz0:(0:Int)≤((b.toNat:Nat):Int):=by omega
      have e1:((b.toNat:Int) - 48)=(((b.toNat - 48):Nat):Int):=by omega
      rw[if_neg (by omega)] at HK;have hq:¬(0:Int)>(9223372036854775807 - ((b.toNat:Int) - 48)) / 10:=by omega
      have HF:ahg (cG (b.toNat - 48) (s.drop 1)=cG 0 s):=aa (by have:=HK.o;simpa using this)
      by_cases Ef:1<s.length
      ·have hm:(1:Int)<(s.length:Int):=by omega
       have E1:=aa e1;clear e1;go_wp2
       go_step3
       simp only[Exit.then];rw[E1.o];exact⟨rfl,rfl,(b.toNat - 48),1,_,_,_,_,_,_,_,_,_,_,_,_,_,_,_,_,_,_,_,_,_,_,_,_,_,_,_,_,_,_,_,_,_,_,_,_,_,_,_,_,_,_,_,_,rfl,Ef,by omega,HF⟩
      ·have hm:¬(1:Int)<(s.length:Int):=by omega
       have hR:=HS.o _ (by have:=HF.o;rw[List.drop_of_length_le (by omega),pk] at this;exact this.symm);subst hR;have E1:=aa e1;clear e1;go_wp2;simp only[Exit.jump];go_ret2;refine⟨?_,rfl⟩;rw[E1.o];rfl
     ·have hs:s=[]:=by simpa using h0
      have hR:=HE.o hs;clear hs;subst hR;go_wp2;simp only[Exit.jump];go_ret2;exact⟨rfl,rfl⟩
  ·rintro a' w' ⟨rfl,n,j,u1,u2,u3,u4,u7,u8,u9,u10,u11,u12,u13,u14,u15,u16,u17,u18,u19,u20,u21,u22,u23,u24,u25,u26,u27,u28,u29,u30,u31,u32,u33,u34,u35,u36,u37,u38,u39,u40,u41,u42,u43,u44,u45,u46,rfl,fS,hn,HK⟩;have hne:s≠[]:=by intro e;rw[e] at fS;simp at fS
   have HS:=aa (fun n k=>HS.o n hne k);have HN:=aa (fun k=>HN.o hne k);clear hne;have q8:(0:Int)≤(j:Int):=by omega
   have hB:=mm (HD.o j fS);have Hb:ahg (s.drop j=s[j]'fS :: s.drop (j+1)):=aa (List.drop_eq_getElem_cons fS);have hb:s[j]'fS=s[j]'fS:=rfl;generalize hb2:s[j]'fS=b at *;clear hb;rw[Hb.o,jU] at HK;have hz0:(0:Int)≤((b.toNat:Nat):Int):=by omega
   have e1:10*(n:Int)+((b.toNat:Int) - 48)=(((10*n+(b.toNat - 48)):Nat):Int):=by omega
   by_cases I0:n>(9223372036854775807 - (b.toNat - 48)) / 10
   ·rw[if_pos I0] at HK;have hR:=HN.o HK.o.symm;subst hR;have hq:(n:Int)>(9223372036854775807 - ((b.toNat:Int) - 48)) / 10:=by omega
    clear e1;go_wp2;simp only[Exit.jump];go_ret2;exact⟨rfl,rfl⟩
   ·rw[if_neg I0] at HK;have hq:¬(n:Int)>(9223372036854775807 - ((b.toNat:Int) - 48)) / 10:=by omega
    have HF:=HK
    by_cases Ef:(j+1)<s.length
    ·have hm:((j:Int)+1)<(s.length:Int):=by omega
     have E1:=aa e1;clear e1;go_wp2
     go_step3
     simp only[Exit.then];rw[E1.o];exact⟨rfl,⟨rfl,(10*n+(b.toNat - 48)),(j+1),_,_,_,_,_,_,_,_,_,_,_,_,_,_,_,_,_,_,_,_,_,_,_,_,_,_,_,_,_,_,_,_,_,_,_,_,_,_,_,_,_,_,_,_,rfl,Ef,by omega,HF⟩,by simp[intOf];omega⟩
    ·have hm:¬((j:Int)+1)<(s.length:Int):=by omega
     have hR:=HS.o _ (by have:=HF.o;rw[List.drop_of_length_le (by omega),pk] at this;exact this.symm);subst hR;have E1:=aa e1;clear e1;go_wp2;simp only[Exit.jump];go_ret2;refine⟨?_,rfl⟩;rw[E1.o];rfl
set_option maxRecDepth 512
set_option maxHeartbeats 200000
theorem pC (b:UInt8) (d:aj):ft (b :: d)=((b == 33)&&((cK d).2 == 0)&&(bV (cK d).1.toNat == d)):=by
 unfold ft;rw[show((b :: d == []):Bool)=false from rfl,show(b :: d).headD 0=b from rfl,show(b :: d).drop 1=d from rfl];simp only[Bool.not_false,Bool.true_and]
set_option maxRecDepth 10000
set_option maxHeartbeats 8000000
theorem JE (s:aj) (w:World) (hl:s.length≤9223372036854775807):Calls Tryz.prog 204 #[encStr s] w fun e w'=>e=.returned (.bool (ft s))∧Ext w w':=by
 have HP:=aa (Ea s 33 w hl);cases s with
 |nil=>
  go_enter Tryz.func204,Tryz.ntmps204;go_wp2_with fail;refine HP.o.mono ?_;rintro e w2 ⟨rfl,rfl⟩;go_wp2;go_ret;exact⟨rfl,eR _⟩
 |cons b d=>
  have hP:preB 33 (b :: d)=(b == 33):=rfl;rw[hP] at HP;have HF:=aa (pC b d);cases hb:(b == 33)
  ·rw[hb] at HP HF;have hR:ft (b :: d)=false:=by rw[HF.o];rfl
   rw[hR];clear hR HF hP hb;generalize b :: d=L at *;go_enter Tryz.func204,Tryz.ntmps204;go_wp2_with fail;refine HP.o.mono ?_;rintro e w2 ⟨rfl,rfl⟩;go_wp2;go_ret;exact⟨rfl,eR _⟩
  ·rw[hb] at HP HF;have xD:=fun w'=>oD (b :: d) 1 1 (by simp) rfl w'
   rw[show(b :: d).drop 1=d from rfl] at xD;have HR:=aa (fun w'=>aa (Ni d w' (by simp at hl;omega)));obtain⟨n,hn⟩:∃n:Nat,(cK d).1=n:=⟨(cK d).1.toNat,by have:=(mh d).1;omega⟩;have oF:n≤9223372036854775807:=by have:=(mh d).2;omega
   have HT:=aa (fun w'=>aa (pB n oF w'));rw[hn,Int.toNat_natCast] at HF;rw[hn] at HR;clear hn hP hb;generalize ft (b :: d)=R at *;generalize b :: d=L at *;generalize (cK d).2=E at *;cases hE:(E == 0)
   ·rw[hE] at HF;have hR:R=false:=by rw[HF.o];rfl
    clear HF;subst hR;go_enter Tryz.func204,Tryz.ntmps204;go_wp2_with fail;refine HP.o.mono ?_;rintro e w2 ⟨rfl,rfl⟩;go_wp2_with fail;refine(HR.o _).o.mono ?_;rintro e w3 ⟨rfl,rfl⟩;go_wp2
    go_quiet (fail)
    go_wp2;go_ret;exact⟨rfl,(by repeat(first|exact eR _|exact eA (by assumption) _|refine eA ?_ _|refine eM ?_ _ _|refine eD ?_|refine eN ?_ _))⟩
   ·rw[hE] at HF;have VX:E=0:=by simpa using hE
    clear hE;subst VX;cases hq:(bV n == d)
    ·have hR:R=false:=by rw[HF.o,hq];rfl
     clear HF;subst hR;generalize bV n=D at *;go_enter Tryz.func204,Tryz.ntmps204;go_wp2_with fail;refine HP.o.mono ?_;rintro e w2 ⟨rfl,rfl⟩;go_wp2_with fail;refine(HR.o _).o.mono ?_;rintro e w3 ⟨rfl,rfl⟩;go_wp2
     go_region_held3 (fun _=>True) (trivial) (first
      |(
       go_at_call 41
       refine Calls.mono (HT.o _).o ?_;rintro e w4 ⟨rfl,eP⟩;have X4:=aa (((eR w3).drew).trans eP);clear eP))
     go_wp2;go_ret;exact⟨rfl,X4.o⟩
    ·have hR:R=true:=by rw[HF.o,hq];rfl
     clear HF;subst hR;generalize bV n=D at *;go_enter Tryz.func204,Tryz.ntmps204;go_wp2_with fail;refine HP.o.mono ?_;rintro e w2 ⟨rfl,rfl⟩;go_wp2_with fail;refine(HR.o _).o.mono ?_;rintro e w3 ⟨rfl,rfl⟩;go_wp2
     go_region_held3 (fun _=>True) (trivial) (first
      |(
       go_at_call 41
       refine Calls.mono (HT.o _).o ?_;rintro e w4 ⟨rfl,eP⟩;have X4:=aa (((eR w3).drew).trans eP);clear eP))
     go_wp2;go_ret;exact⟨rfl,X4.o⟩
theorem AY (s:aj) (w:World) (hl:s.length≤9223372036854775807):Calls Tryz.prog 195 #[encStr s] w fun e w'=>e=.returned (.bool (ft s))∧Ext w w':=by
 cases s with
 |nil=>
  go_enter Tryz.func195,Tryz.ntmps195;go_wp2;go_ret;exact⟨rfl,eR _⟩
 |cons b d=>
  have I1:((b :: d) == [])=false:=rfl;have h0L:0<(b :: d).length:=by simp
  have h0Z:(0:Int)<((b :: d).length:Int):=by simp
  have hb2:(b :: d)[0]'h0L=b:=rfl;have hz0:(0:Int)≤((b.toNat:Nat):Int):=by omega
  have ZA:(((b.toNat:Nat):Int) != 33) = !(b == 33):=by
   rw[Bool.eq_iff_iff];simp only[bne_iff_ne,ne_eq,Bool.not_eq_true',beq_eq_false_iff_ne]
   constructor
   ·intro h e;subst e;exact h rfl
   ·intro h e;exact h (UInt8.toNat_inj.1 (by show b.toNat=33;omega))
  have HF:=aa (pC b d);cases hb:(b == 33)
  ·rw[hb] at ZA HF;have hR:ft (b :: d)=false:=by rw[HF.o];rfl
   rw[hR];clear hR HF hb;generalize b :: d=L at *;go_enter Tryz.func195,Tryz.ntmps195;go_wp2;go_ret;exact⟨rfl,eR _⟩
  ·rw[hb] at ZA HF;have xD:=fun w'=>oD (b :: d) 1 1 (by simp) rfl w'
   rw[show(b :: d).drop 1=d from rfl] at xD;have HR:=aa (fun w'=>aa (Ee d w' (by simp at hl;omega)));obtain⟨n,hn⟩:∃n:Nat,(cK d).1=n:=⟨(cK d).1.toNat,by have:=(mh d).1;omega⟩;have oF:n≤9223372036854775807:=by have:=(mh d).2;omega
   have HT:=aa (fun w'=>aa (DZ n oF w'));rw[hn,Int.toNat_natCast] at HF;rw[hn] at HR;clear hn hb;generalize ft (b :: d)=R at *;generalize b :: d=L at *;generalize (cK d).2=E at *;cases hE:(E == 0)
   ·rw[hE] at HF;have hR:R=false:=by rw[HF.o];rfl
    clear HF;subst hR;go_enter Tryz.func195,Tryz.ntmps195;go_wp2_with fail;refine(HR.o _).o.mono ?_;rintro e w3 ⟨rfl,rfl⟩;go_wp2
    go_quiet (fail)
    go_wp2;go_ret;exact⟨rfl,(by repeat(first|exact eR _|exact eA (by assumption) _|refine eA ?_ _|refine eM ?_ _ _|refine eD ?_|refine eN ?_ _))⟩
   ·rw[hE] at HF;have VX:E=0:=by simpa using hE
    clear hE;subst VX;cases hq:(bV n == d)
    ·have hR:R=false:=by rw[HF.o,hq];rfl
     clear HF;subst hR;generalize bV n=D at *;go_enter Tryz.func195,Tryz.ntmps195;go_wp2_with fail;refine(HR.o _).o.mono ?_;rintro e w3 ⟨rfl,rfl⟩;go_wp2
     go_region_held3 (fun _=>True) (trivial) (first
      |(
       go_at_call 224
       refine Calls.mono (HT.o _).o ?_;rintro e w4 ⟨rfl,eP⟩;have X4:=aa (((eR w3).drew).trans eP);clear eP))
     go_wp2;go_ret;exact⟨rfl,X4.o⟩
    ·have hR:R=true:=by rw[HF.o,hq];rfl
     clear HF;subst hR;generalize bV n=D at *;go_enter Tryz.func195,Tryz.ntmps195;go_wp2_with fail;refine(HR.o _).o.mono ?_;rintro e w3 ⟨rfl,rfl⟩;go_wp2
     go_region_held3 (fun _=>True) (trivial) (first
      |(
       go_at_call 224
       refine Calls.mono (HT.o _).o ?_;rintro e w4 ⟨rfl,eP⟩;have X4:=aa (((eR w3).drew).trans eP);clear eP))
     go_wp2;go_ret;exact⟨rfl,X4.o⟩
set_option maxRecDepth 512
set_option maxHeartbeats 200000
def cd (s:aj):Bool := !(s == [])&&cW ((s.headD 0).toNat:Nat)&&ml s
set_option maxRecDepth 10000
set_option maxHeartbeats 8000000
theorem rZ (s:aj) (w:World) (hl:s.length≤9223372036854775807):Calls Tryz.prog 135 #[encStr s] w fun e w'=>e=.returned (.bool (cd s))∧w'=w:=by
 cases s with
 |nil=>
  go_enter Tryz.func135,Tryz.ntmps135;go_wp2;go_ret;exact⟨rfl,rfl⟩
 |cons b s=>
  have HC:ahg (cd (b :: s)=(cW (b.toNat:Nat)&&ml (b :: s))):=aa rfl;have HG:=aa (fun w'=>zM (b.toNat:Nat) w');have HO:=aa (fun w'=>Nh (b :: s) w' hl);generalize cd (b :: s)=R at *;generalize cW (b.toNat:Nat)=B1 at *;generalize ml (b :: s)=B2 at *;cases B1
  ·have hR:R=false:=by rw[HC.o];rfl
   clear HC;subst hR;go_enter Tryz.func135,Tryz.ntmps135;go_wp2_with fail;refine(HG.o _).mono ?_;rintro e w1 ⟨rfl,rfl⟩;go_wp2;go_ret;exact⟨rfl,rfl⟩
  ·have hR:R=B2:=by rw[HC.o];rfl
   clear HC;subst hR;go_enter Tryz.func135,Tryz.ntmps135;go_wp2_with fail;refine(HG.o _).mono ?_;rintro e w1 ⟨rfl,rfl⟩;go_wp2_with fail;refine(HO.o _).mono ?_;rintro e w1 ⟨rfl,rfl⟩;go_wp2;go_ret;exact⟨rfl,rfl⟩
set_option maxRecDepth 512
set_option maxHeartbeats 200000
def bH (s:aj) (v:Int) (n:Nat):Bool:=
 if s == [] then n == 0 else if s == [45,62] then v == 0&&n == 2 else if ft s then v == 0&&n == 0 else v == 0&&cd s
noncomputable def bE : Ty→Bool:=Ty.oY fun t=>bH t.aq t.var t.args.length
noncomputable def az (t:Ty):Bool:=decide (t.size≤4096)&&decide (t.depth≤100)&&bE t
theorem QJ (W:World) (B:Nat) (s:aj) (v:Int) (n:Nat) (h:W.heap[B]?=some (.cells #[encStr s,.int .i64 v,.int .i64 n] 246 (0,0))):W.cell? ⟨B,0,none⟩=some (encStr s)∧W.cell? ⟨B,1,none⟩=some (.int .i64 v)∧W.cell? ⟨B,2,none⟩=some (.int .i64 n):=
 ⟨af h 0,af h 1,af h 2⟩
set_option maxRecDepth 10000
set_option maxHeartbeats 8000000
theorem QK (s:aj) (v:Int) (n:Nat) (w:World) (hl:s.length≤9223372036854775807):Calls Tryz.prog 168 #[.agg #[encStr s,.int .i64 v,.int .i64 n]] w fun e w'=>e=.returned (.bool (bH s v n))∧Ext w w':=by
 obtain⟨W,hW⟩:∃W,W=w.alloc (.cells #[encStr s,.int .i64 v,.int .i64 n] 246):=⟨_,rfl⟩;have X0:ahg (Ext w W):=aa (by rw[hW];exact(eR w).alloc _);have HB:ahg (∀w',Ext W w'→w'.cell? ⟨w.heap.size,0,none⟩=some (encStr s)∧w'.cell? ⟨w.heap.size,1,none⟩=some (.int .i64 v)∧w'.cell? ⟨w.heap.size,2,none⟩=some (.int .i64 n)):=aa (fun w' e=>by
  obtain⟨h0,h1,h2⟩:=QJ W w.heap.size s v n (by rw[hW];exact ah _ _ _ rfl);exact⟨e.cell h0,e.cell h1,e.cell h2⟩)
 have HO:ahg (bH s v n=if s == [] then n == 0 else if s == [45,62] then v == 0&&n == 2 else if ft s then v == 0&&n == 0 else v == 0&&cd s):=aa rfl;have HF:=aa (fun w'=>aa (JE s w' hl));have HC:=aa (fun w'=>aa (rZ s w' hl));have ZB:∀w':World,(binOp .eql 246 (.agg #[encStr s,.int .i64 v,.int .i64 n]) (.agg #[.string ⟨#[45,62]⟩,.int .i64 0,.int .i64 2])).run Tryz.prog w'=.ok (.bool (decide (s=[45,62])&&decide (v=0)&&decide (n=2))) w':=fun w'=>jk w' s [45,62] v 0 n 2
 have hg1:∀w':World,(eqGuard .eql 246 (.tmp 14) (.tmp 15) (.agg #[encStr s,.int .i64 v,.int .i64 n]) (.agg #[.string ⟨#[45,62]⟩,.int .i64 0,.int .i64 2])).run Tryz.prog w'=.ok () w':=fun w'=>run_eqGuard_agg w' _ _ _ _ _ _ (by kernel_rfl)
 have Mg:∀w':World,(binOp .eql 246 (.agg #[encStr s,.int .i64 v,.int .i64 n]) (.agg #[encStr s,.int .i64 0,.int .i64 0])).run Tryz.prog w'=.ok (.bool (decide (s=s)&&decide (v=0)&&decide (n=0))) w':=fun w'=>jk w' s s v 0 n 0
 have hg2:∀w':World,(eqGuard .eql 246 (.tmp 21) (.tmp 24) (.agg #[encStr s,.int .i64 v,.int .i64 n]) (.agg #[encStr s,.int .i64 0,.int .i64 0])).run Tryz.prog w'=.ok () w':=fun w'=>run_eqGuard_agg w' _ _ _ _ _ _ (by kernel_rfl)
 obtain⟨c0,c1,c2⟩:=HB.o W (eR W);generalize bH s v n=R at *;cases h0:(s == [])
 ·cases h1:(s == [45,62])
  ·rw[h0,h1] at HO;cases hf:ft s
   ·rw[hf] at HO HF;cases hv:(v == 0)
    ·have hR:R=false:=by rw[HO.o,hv];rfl
     rw[hR];clear HO hR ZB hg1 Mg hg2;go_enter Tryz.func168,Tryz.ntmps168;go_wp2_with fail;rw[←hW];clear hW;refine(HF.o _).o.mono ?_;rintro e w2 ⟨rfl,hx2⟩;have X2:=aa hx2;obtain⟨d0,d1,d2⟩:=HB.o _ X2.o;clear hx2;go_wp2;go_ret;exact⟨rfl,X0.o.trans X2.o⟩
    ·have hR:R=cd s:=by rw[HO.o,hv];rfl
     rw[hR];clear HO hR ZB hg1 Mg hg2;go_enter Tryz.func168,Tryz.ntmps168;go_wp2_with fail;rw[←hW];clear hW;refine(HF.o _).o.mono ?_;rintro e w2 ⟨rfl,hx2⟩;have X2:=aa hx2;obtain⟨d0,d1,d2⟩:=HB.o _ X2.o;clear hx2;go_wp2_with fail;refine(HC.o _).o.mono ?_;rintro e w3 ⟨rfl,rfl⟩;go_wp2;go_ret;exact⟨rfl,X0.o.trans X2.o⟩
   ·rw[hf] at HO HF;have hR:R=(decide (s=s)&&decide (v=0)&&decide (n=0)):=by rw[HO.o,Bool.eq_iff_iff];simp
    rw[hR];clear HO hR;go_enter Tryz.func168,Tryz.ntmps168;go_wp2_with fail;rw[←hW];clear hW;refine(HF.o _).o.mono ?_;rintro e w2 ⟨rfl,hx2⟩;have X2:=aa hx2;obtain⟨d0,d1,d2⟩:=HB.o _ X2.o;clear hx2;go_wp2;go_ret;exact⟨rfl,X0.o.trans X2.o⟩
  ·have hs:s=[45,62]:=by simpa using h1
   have hR:R=(decide (s=[45,62])&&decide (v=0)&&decide (n=2)):=by rw[HO.o,h0,h1,Bool.eq_iff_iff];simp[hs]
   rw[hR];clear HO hR hs;go_enter Tryz.func168,Tryz.ntmps168;go_wp2;rw[←hW];clear hW;go_ret;exact⟨rfl,X0.o⟩
 ·have hR:R=(n == 0):=by rw[HO.o,h0];rfl
  rw[hR];clear HO hR;go_enter Tryz.func168,Tryz.ntmps168;go_wp2;rw[←hW];clear hW;go_ret;exact⟨congrArg (fun b=>Ending.returned (.bool b)) (show((n:Int) == 0)=(n == 0) by rw[Bool.eq_iff_iff];simp),X0.o⟩
set_option maxRecDepth 512
set_option maxHeartbeats 200000
def eU (f:FuncId):Prop:=∀args w,(callFunc f args).run Tryz.prog w=.ok (.enter f args) w
structure Tr (c:Nat) (w:World) (v:Value) (w':World) (v':Value):Prop where
 os:w'.os=w.os
 tape:w'.tape=w.tape
 output:w'.output=w.output
 size:w.heap.size≤w'.heap.size
 blk:∀k,k<w.heap.size→k≠c→v.ownBlock≠some k→w'.heap[k]?=w.heap[k]?
 own:v'.ownBlock=v.ownBlock∨∀k,v'.ownBlock=some k→w.heap.size≤k
section
variable {c : Nat}{a b d w w':World}{v v1 v2 v':Value}
theorem Tr.trans (h:Tr c a v b v1) (k:Tr c b v1 d v2):Tr c a v d v2 where
 os:=k.os.trans h.os
 tape:=k.tape.trans h.tape
 output:=k.output.trans h.output
 size:=aho h.size k.size
 blk i hi hc hv:=(k.blk i (Nat.lt_of_lt_of_le hi h.size) hc (fun e=>by
  rcases h.own with h1|h1
  ·exact hv (h1▸e)
  ·have:=h1 i e;omega)).trans (h.blk i hi hc hv)
 own:=by
  rcases k.own with k1|k1
  ·rcases h.own with h1|h1
   ·exact .inl (k1.trans h1)
   ·exact .inr (fun i hi=>h1 i (k1▸hi))
  ·exact .inr (fun i hi=>aho h.size (k1 i hi))
theorem Tr.dt (e:Ext w w'):Tr c w v w' v:=
 ⟨e.below.os,e.below.tape,e.below.output,e.size,fun _ hk _ _=>e.heap hk,.inl rfl⟩
theorem Tr.refl (c:Nat) (w:World) (v:Value):Tr c w v w v:=Tr.dt (eR w)
theorem Tr.below {B:Nat}(h:Tr c w v w' v') (hB:B≤w.heap.size) (hc:B≤c) (hv:∀k,v.ownBlock=some k→B≤k):Below B w w':=
 ⟨h.os,h.tape,h.output,h.size,fun k hk=>h.blk k (by omega) (by omega) (fun e=>by have:=hv k e;omega)⟩
end
end Go.Proofs.YtigafbmabjglfaaGreatDoor
