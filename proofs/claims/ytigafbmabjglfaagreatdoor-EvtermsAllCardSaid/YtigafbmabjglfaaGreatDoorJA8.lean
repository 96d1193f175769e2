import Derived.Test.YtigafbmabjglfaaGreatDoorJA7
import Derived.Laws.Strings3
import Derived.Laws.DeepStrings4
namespace Go.Proofs.YtigafbmabjglfaaGreatDoor
open Go.RowKit
theorem NP (l:aj) (j:Nat) (i:Int) (hj:j≤l.length) (hi:i=j) (w:World):(Instr.slice 9 (.string ⟨l.toArray⟩) none (some (.int .i64 i)) none).run Tryz.prog w=.ok (.string ⟨(l.take j).toArray⟩) w:=by
 subst hi;rw[run_slice_string_to_if w 9 _ _ _ Tryz.underlying9,if_pos ⟨by omega,by rw[aB];omega⟩,ByteArray.extract_mk];simp
theorem pP (l:aj) (j:Nat) (i:Int) (hj:j≤l.length) (hi:i=j) (w:World):(Instr.slice 9 (.string ⟨l.toArray⟩) (some (.int .i64 i)) none none).run Tryz.prog w=.ok (.string ⟨(l.drop j).toArray⟩) w:=by
 subst hi;rw[run_slice_string_from_if w 9 _ _ _ Tryz.underlying9,if_pos ⟨by omega,by rw[aB];omega⟩,ByteArray.extract_mk,aB];have:(l.drop j).take (l.length - j)=l.drop j:=aiK (by simp);simp[this]
theorem Lp (l:aj) (a b:Nat) (i j:Int) (hab:a≤b) (hb:b≤l.length) (hi:i=a) (hj:j=b) (w:World):(Instr.slice 9 (.string ⟨l.toArray⟩) (some (.int .i64 i)) (some (.int .i64 j)) none).run Tryz.prog w=.ok (.string ⟨((l.drop a).take (b - a)).toArray⟩) w:=by
 subst hi hj;rw[run_slice_string_if w 9 _ _ _ _ _ Tryz.underlying9,if_pos ⟨by omega,by rw[aB];omega⟩,if_pos ⟨by omega,by omega⟩,ByteArray.extract_mk];simp
theorem CV (l:aj) (h:l≠[]):l.drop (l.length - 1)=[l.getLast h]:=by
 have h1:l.length - 1<l.length:=by have:=List.length_pos_iff.2 h;omega
 rw[List.drop_eq_getElem_cons h1,List.drop_of_length_le (by omega),List.getLast_eq_getElem]
def preB (c:UInt8):aj→Bool
 | []=>false
 |b :: _=>b == c
def jB (c:UInt8) (s:aj):Bool := !(s == [])&&((s.getLastD 0) == c)
set_option maxRecDepth 10000
set_option maxHeartbeats 8000000
theorem tL (s:aj) (c:UInt8) (w:World) (hl:s.length≤9223372036854775807):Calls Tryz.prog 228 #[encStr s,encStr [c]] w fun e w'=>e=.returned (.bool (preB c s))∧w'=w:=by
 cases s with
 |nil=>
  go_enter Tryz.func228,Tryz.ntmps228;go_wp2;go_ret;exact⟨rfl,rfl⟩
 |cons b d=>
  have hg:((d.length:Int)+1)≥1:=by omega
  have vv:=fun w'=>NP (b :: d) 1 1 (by simp) rfl w'
  have HP:aiE (preB c (b :: d)=(b == c)):=aa rfl;generalize hL:b :: d=L at *;have sj:((L.length:Nat):Int)≥1:=by rw[←hL];simp;omega
  have ht:L.take 1=[b]:=by rw[←hL];rfl
  rw[ht] at vv;clear hL ht hg;generalize preB c L=R at *;cases hb:(b == c)
  ·have hR:R=false:=by rw[HP.o,hb]
   subst hR;have hq:([b] == [c])=false:=by simpa using hb
   go_enter Tryz.func228,Tryz.ntmps228;go_wp2;go_ret;exact⟨rfl,rfl⟩
  ·have hR:R=true:=by rw[HP.o,hb]
   subst hR;have hq:([b] == [c])=true:=by simpa using hb
   go_enter Tryz.func228,Tryz.ntmps228;go_wp2;go_ret;exact⟨rfl,rfl⟩
theorem CW (s:aj) (c:UInt8) (w:World) (hl:s.length≤9223372036854775807):Calls Tryz.prog 229 #[encStr s,encStr [c]] w fun e w'=>e=.returned (.bool (jB c s))∧w'=w:=by
 cases s with
 |nil=>
  go_enter Tryz.func229,Tryz.ntmps229;go_wp2;go_ret;exact⟨rfl,rfl⟩
 |cons b d=>
  have HP:aiE (jB c (b :: d)=((b :: d).getLast (by simp) == c)):=aa (by unfold jB;rw[List.getLastD_eq_getLast?,List.getLast?_eq_some_getLast (by simp)];rfl);have vv:=fun w'=>pP (b :: d) ((b :: d).length - 1) (((b :: d).length:Int) - 1) (by omega) (by simp) w'
  have ht:(b :: d).drop ((b :: d).length - 1)=[(b :: d).getLast (by simp)]:=CV _ (by simp);rw[ht] at vv;generalize (b :: d).getLast (by simp)=x at *;generalize hL:b :: d=L at *;have sj:((L.length:Nat):Int)≥1:=by rw[←hL];simp;omega
  clear hL ht;generalize jB c L=R at *;cases hb:(x == c)
  ·have hR:R=false:=by rw[HP.o,hb]
   subst hR;have hq:([x] == [c])=false:=by simpa using hb
   go_enter Tryz.func229,Tryz.ntmps229;go_wp2;go_ret;exact⟨rfl,rfl⟩
  ·have hR:R=true:=by rw[HP.o,hb]
   subst hR;have hq:([x] == [c])=true:=by simpa using hb
   go_enter Tryz.func229,Tryz.ntmps229;go_wp2;go_ret;exact⟨rfl,rfl⟩
set_option maxRecDepth 512
set_option maxHeartbeats 200000
theorem F9 (s:aj) (c:UInt8) (w:World) (hl:s.length≤9223372036854775807):Calls Tryz.prog 230 #[encStr s,encStr [c]] w fun e w'=>e=.returned (.bool (preB c s))∧w'=w:=by
 have H:=aa (tL s c w hl);generalize preB c s=R at *;go_enter Tryz.func230,Tryz.ntmps230;go_wp2_with fail;refine H.o.mono ?_;rintro e w2 ⟨rfl,rfl⟩;go_wp2;go_ret;exact⟨rfl,rfl⟩
def fx (c:UInt8) (s:aj):aj:=if preB c s then s.drop 1 else s
def jY (c:UInt8) (s:aj):aj:=if jB c s then s.take (s.length - 1) else s
theorem Ga {c:UInt8}{s:aj}(h:preB c s=true):1≤s.length:=by cases s with|nil=>cases h|cons b d=>simp
theorem Gb {c:UInt8}{s:aj}(h:jB c s=true):1≤s.length:=by cases s with|nil=>cases h|cons b d=>simp
set_option maxRecDepth 10000
set_option maxHeartbeats 8000000
theorem vw (s:aj) (c:UInt8) (w:World) (hl:s.length≤9223372036854775807):Calls Tryz.prog 202 #[encStr s,encStr [c]] w fun e w'=>e=.returned (.tuple #[encStr (fx c s),.bool (preB c s)])∧w'=w:=by
 have H:=aa (tL s c w hl);cases hp:preB c s
 ·have hc:fx c s=s:=by unfold fx;rw[hp];rfl
  rw[hc];rw[hp] at H;clear hc;go_enter Tryz.func202,Tryz.ntmps202;go_wp2_with fail;refine H.o.mono ?_;rintro e w2 ⟨rfl,rfl⟩;go_wp2;go_ret2;exact⟨rfl,rfl⟩
 ·have hc:fx c s=s.drop 1:=by unfold fx;rw[hp];rfl
  have vv:=fun w'=>pP s 1 1 (Ga hp) rfl w'
  rw[hc];rw[hp] at H;clear hc;generalize s.drop 1=d at *;go_enter Tryz.func202,Tryz.ntmps202;go_wp2_with fail;refine H.o.mono ?_;rintro e w2 ⟨rfl,rfl⟩;go_wp2;go_ret2;exact⟨rfl,rfl⟩
theorem vx (s:aj) (c:UInt8) (w:World) (hl:s.length≤9223372036854775807):Calls Tryz.prog 203 #[encStr s,encStr [c]] w fun e w'=>e=.returned (.tuple #[encStr (jY c s),.bool (jB c s)])∧w'=w:=by
 have H:=aa (CW s c w hl);cases hp:jB c s
 ·have hc:jY c s=s:=by unfold jY;rw[hp];rfl
  rw[hc];rw[hp] at H;clear hc;go_enter Tryz.func203,Tryz.ntmps203;go_wp2_with fail;refine H.o.mono ?_;rintro e w2 ⟨rfl,rfl⟩;go_wp2;go_ret2;exact⟨rfl,rfl⟩
 ·have hc:jY c s=s.take (s.length - 1):=by unfold jY;rw[hp];rfl
  have h1:=Gb hp;have vv:=fun w'=>NP s (s.length - 1) ((s.length:Int) - 1) (by omega) (by omega) w'
  rw[hc];rw[hp] at H;clear hc;generalize s.take (s.length - 1)=d at *;go_enter Tryz.func203,Tryz.ntmps203;go_wp2_with fail;refine H.o.mono ?_;rintro e w2 ⟨rfl,rfl⟩;go_wp2;go_ret2;exact⟨rfl,rfl⟩
set_option maxRecDepth 512
set_option maxHeartbeats 200000
theorem xl (s:aj) (c:UInt8) (w:World) (hl:s.length≤9223372036854775807):Calls Tryz.prog 163 #[encStr s,encStr [c]] w fun e w'=>e=.returned (.tuple #[encStr (fx c s),.bool (preB c s)])∧w'=w:=by
 have H:=aa (vw s c w hl);generalize fx c s=d at *;generalize preB c s=R at *;go_enter Tryz.func163,Tryz.ntmps163;go_wp2_with fail;refine H.o.mono ?_;rintro e w2 ⟨rfl,rfl⟩;go_wp2;go_ret2;exact⟨rfl,rfl⟩
theorem xm (s:aj) (c:UInt8) (w:World) (hl:s.length≤9223372036854775807):Calls Tryz.prog 164 #[encStr s,encStr [c]] w fun e w'=>e=.returned (.tuple #[encStr (jY c s),.bool (jB c s)])∧w'=w:=by
 have H:=aa (vx s c w hl);generalize jY c s=d at *;generalize jB c s=R at *;go_enter Tryz.func164,Tryz.ntmps164;go_wp2_with fail;refine H.o.mono ?_;rintro e w2 ⟨rfl,rfl⟩;go_wp2;go_ret2;exact⟨rfl,rfl⟩
end Go.Proofs.YtigafbmabjglfaaGreatDoor
