import Derived.Test.YtigafbmabjglfaaGreatDoorJT6
import Derived.WalkMore
namespace Go.Proofs.YtigafbmabjglfaaGreatDoor
open Go.RowKit
def gz (z:Int):Bool:=(decide (z≥97)&&decide (z≤122))||z == 95
def cW (z:Int):Bool:=decide (z≥65)&&decide (z≤90)
theorem JC (z:Int) (w:World):Calls Tryz.prog 217 #[.int .u8 z] w fun e w'=>e=.returned (.bool (gz z))∧w'=w:=by
 have HR:ahg (gz z=((decide (z≥97)&&decide (z≤122))||z == 95)):=aa rfl;generalize gz z=R at *
 by_cases h1:z≥97
 ·by_cases h2:z≤122
  ·go_enter Tryz.func217,Tryz.ntmps217;go_wp2;go_ret;exact⟨by rw[HR.o];simp[h1,h2],rfl⟩
  ·by_cases h3:z=95
   ·omega
   ·go_enter Tryz.func217,Tryz.ntmps217;go_wp2;go_ret;exact⟨by rw[HR.o];simp[h2,h3],rfl⟩
 ·by_cases h3:z=95
  ·go_enter Tryz.func217,Tryz.ntmps217;go_wp2;go_ret;exact⟨by rw[HR.o];simp[h3];try omega,rfl⟩
  ·go_enter Tryz.func217,Tryz.ntmps217;go_wp2;go_ret;exact⟨by rw[HR.o];simp[h3];try omega,rfl⟩
theorem zM (z:Int) (w:World):Calls Tryz.prog 184 #[.int .u8 z] w fun e w'=>e=.returned (.bool (cW z))∧w'=w:=by
 have HR:ahg (cW z=(decide (z≥65)&&decide (z≤90))):=aa rfl;generalize cW z=R at *
 by_cases h1:z≥65
 ·go_enter Tryz.func184,Tryz.ntmps184;go_wp2;go_ret;exact⟨by rw[HR.o];simp[h1],rfl⟩
 ·go_enter Tryz.func184,Tryz.ntmps184;go_wp2;go_ret;exact⟨by rw[HR.o];simp;omega,rfl⟩
def zN (z:Int):Bool:=gz z||cW z||(decide (48≤z)&&decide (z≤57))||z == 39
def ml (s:aj):Bool:=s.all fun b=>zN (b.toNat:Nat)
@[go_sem] theorem VV (s:List UInt8) (k:Nat) (h:k<ByteArray.size ⟨s.toArray⟩):(({ data:=s.toArray }:ByteArray)[k]'h)=s[k]'(by simpa [ByteArray.size] using h):=rfl
set_option maxRecDepth 10000
set_option maxHeartbeats 8000000
theorem Nh (s:aj) (w:World) (hl:s.length≤9223372036854775807):Calls Tryz.prog 185 #[encStr s] w fun e w'=>e=.returned (.bool (ml s))∧w'=w:=by
 have HR:ahg ((s.drop 0).all (fun b=>zN (b.toNat:Nat))=ml s):=aa rfl;generalize ml s=R at *;go_enter Tryz.func185,Tryz.ntmps185;go_wp2
 go_loop [7] (fun i=>∃k:Nat,k≤s.length∧i=.int .i64 k∧ahg ((s.drop k).all (fun b=>zN (b.toNat:Nat))=R)) (fun i=>s.length - (intOf i).toNat)
 case atStart=>exact⟨0,ahj _,rfl,HR⟩
 case round=>
  obtain⟨k,hk,rfl,HK⟩:=hrel
  by_cases hlt:k<s.length
  ·have aS:(k:Int)<(s.length:Int):=by omega
   have dy:(0:Int)≤(k:Int):=by omega
   have Hb:ahg (s.drop k=s[k]'hlt :: s.drop (k+1)):=aa (List.drop_eq_getElem_cons hlt);have hb:s[k]'hlt=s[k]'hlt:=rfl;generalize hb2:s[k]'hlt=b at *;clear hb;rw[Hb.o,List.all_cons] at HK;have hz0:(0:Int)≤((b.toNat:Nat):Int):=by omega
   have HN:=aa (fun w'=>JC (b.toNat:Nat) w');have HG:=aa (fun w'=>zM (b.toNat:Nat) w');have HO:ahg (zN (b.toNat:Nat)=(gz (b.toNat:Nat)||cW (b.toNat:Nat)||(decide (48≤((b.toNat:Nat):Int))&&decide (((b.toNat:Nat):Int)≤57))||((b.toNat:Nat):Int) == 39)):=aa rfl;generalize gz (b.toNat:Nat)=B1 at *;generalize cW (b.toNat:Nat)=B2 at *;generalize zN (b.toNat:Nat)=B3 at *;cases B1
   ·cases B2
    ·by_cases Us:((b.toNat:Nat):Int)<48
     ·by_cases PX:((b.toNat:Nat):Int)=39
      ·have hB:B3=true:=by rw[HO.o];simp[PX]
       have hq:(((b.toNat:Nat):Int) != 39)=false:=by simp[PX]
       clear PX;rw[hB] at HK;go_wp2_with fail;refine(HN.o _).mono ?_;rintro e w1 ⟨rfl,rfl⟩;go_wp2_with fail;refine(HG.o _).mono ?_;rintro e w1 ⟨rfl,rfl⟩;go_wp2
       go_round
       case rel=>exact⟨k+1,hlt,by go_num,aa (by simpa using HK.o)⟩
       case measure=>simp[intOf];omega
      ·have hB:B3=false:=by rw[HO.o];simp[PX];omega
       rw[hB] at HK;have hG:R=false:=by have:=HK.o;simpa using this.symm
       clear HK HR;subst hG;go_wp2_with fail;refine(HN.o _).mono ?_;rintro e w1 ⟨rfl,rfl⟩;go_wp2_with fail;refine(HG.o _).mono ?_;rintro e w1 ⟨rfl,rfl⟩;go_wp2;go_ret;exact⟨rfl,rfl⟩
     ·by_cases Ut:((b.toNat:Nat):Int)>57
      ·have PX:¬((b.toNat:Nat):Int)=39:=by omega
       have hB:B3=false:=by rw[HO.o];simp[PX];omega
       rw[hB] at HK;have hG:R=false:=by have:=HK.o;simpa using this.symm
       clear HK HR;subst hG;go_wp2_with fail;refine(HN.o _).mono ?_;rintro e w1 ⟨rfl,rfl⟩;go_wp2_with fail;refine(HG.o _).mono ?_;rintro e w1 ⟨rfl,rfl⟩;go_wp2;go_ret;exact⟨rfl,rfl⟩
      ·have hB:B3=true:=by rw[HO.o];simp;omega
       rw[hB] at HK;go_wp2_with fail;refine(HN.o _).mono ?_;rintro e w1 ⟨rfl,rfl⟩;go_wp2_with fail;refine(HG.o _).mono ?_;rintro e w1 ⟨rfl,rfl⟩;go_wp2
       go_round
       case rel=>exact⟨k+1,hlt,by go_num,aa (by simpa using HK.o)⟩
       case measure=>simp[intOf];omega
    ·have hB:B3=true:=by rw[HO.o];rfl
     rw[hB] at HK;go_wp2_with fail;refine(HN.o _).mono ?_;rintro e w1 ⟨rfl,rfl⟩;go_wp2_with fail;refine(HG.o _).mono ?_;rintro e w1 ⟨rfl,rfl⟩;go_wp2
     go_round
     case rel=>exact⟨k+1,hlt,by go_num,aa (by simpa using HK.o)⟩
     case measure=>simp[intOf];omega
   ·have hB:B3=true:=by rw[HO.o];simp
    rw[hB] at HK;go_wp2_with fail;refine(HN.o _).mono ?_;rintro e w1 ⟨rfl,rfl⟩;go_wp2
    go_round
    case rel=>exact⟨k+1,hlt,by go_num,aa (by simpa using HK.o)⟩
    case measure=>simp[intOf];omega
  ·have bU:(s.length:Int)≤(k:Int):=by omega
   have hG:R=true:=by have:=HK.o;rw[List.drop_eq_nil_of_le (by omega)] at this;exact this.symm
   clear HK HR;subst hG;go_wp2;go_ret;exact⟨rfl,rfl⟩
set_option maxRecDepth 512
set_option maxHeartbeats 200000
end Go.Proofs.YtigafbmabjglfaaGreatDoor
