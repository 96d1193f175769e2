import Derived.Test.YtigafbmabjglfaaGreatDoorJT7
import Derived.Laws.Strings3
import Derived.Laws.DeepStrings4
namespace Go.Proofs.YtigafbmabjglfaaGreatDoor
open Go.RowKit
theorem Mf (l:aj) (j:Nat) (i:Int) (hj:j≤l.length) (hi:i=j) (w:World):(Instr.slice 9 (.string ⟨l.toArray⟩) none (some (.int .i64 i)) none).run Tryz.prog w=.ok (.string ⟨(l.take j).toArray⟩) w:=by
 subst hi;rw[run_slice_string_to_if w 9 _ _ _ Tryz.underlying9,if_pos ⟨by omega,by rw[aB];omega⟩,ByteArray.extract_mk];simp
theorem oD (l:aj) (j:Nat) (i:Int) (hj:j≤l.length) (hi:i=j) (w:World):(Instr.slice 9 (.string ⟨l.toArray⟩) (some (.int .i64 i)) none none).run Tryz.prog w=.ok (.string ⟨(l.drop j).toArray⟩) w:=by
 subst hi;rw[run_slice_string_from_if w 9 _ _ _ Tryz.underlying9,if_pos ⟨by omega,by rw[aB];omega⟩,ByteArray.extract_mk,aB];have:(l.drop j).take (l.length - j)=l.drop j:=ahm (by simp);simp[this]
theorem JD (l:aj) (a b:Nat) (i j:Int) (hab:a≤b) (hb:b≤l.length) (hi:i=a) (hj:j=b) (w:World):(Instr.slice 9 (.string ⟨l.toArray⟩) (some (.int .i64 i)) (some (.int .i64 j)) none).run Tryz.prog w=.ok (.string ⟨((l.drop a).take (b - a)).toArray⟩) w:=by
 subst hi hj;rw[run_slice_string_if w 9 _ _ _ _ _ Tryz.underlying9,if_pos ⟨by omega,by rw[aB];omega⟩,if_pos ⟨by omega,by omega⟩,ByteArray.extract_mk];simp
theorem AW (l:aj) (h:l≠[]):l.drop (l.length - 1)=[l.getLast h]:=by
 have h1:l.length - 1<l.length:=by have:=List.length_pos_iff.2 h;omega
 rw[List.drop_eq_getElem_cons h1,List.drop_of_length_le (by omega),List.getLast_eq_getElem]
def preB (c:UInt8):aj→Bool
 | []=>false
 |b :: _=>b == c
def jl (c:UInt8) (s:aj):Bool := !(s == [])&&((s.getLastD 0) == c)
set_option maxRecDepth 10000
set_option maxHeartbeats 8000000
theorem rY (s:aj) (c:UInt8) (w:World) (hl:s.length≤9223372036854775807):Calls Tryz.prog 228 #[encStr s,encStr [c]] w fun e w'=>e=.returned (.bool (preB c s))∧w'=w:=by
 cases s with
 |nil=>
  go_enter Tryz.func228,Tryz.ntmps228;go_wp2;go_ret;exact⟨rfl,rfl⟩
 |cons b d=>
  have hg:((d.length:Int)+1)≥1:=by omega
  have xD:=fun w'=>Mf (b :: d) 1 1 (by simp) rfl w'
  have HP:ahg (preB c (b :: d)=(b == c)):=aa rfl;generalize hL:b :: d=L at *;have qU:((L.length:Nat):Int)≥1:=by rw[←hL];simp;omega
  have ht:L.take 1=[b]:=by rw[←hL];rfl
  rw[ht] at xD;clear hL ht hg;generalize preB c L=R at *;cases hb:(b == c)
  ·have hR:R=false:=by rw[HP.o,hb]
   subst hR;have hq:([b] == [c])=false:=by simpa using hb
   go_enter Tryz.func228,Tryz.ntmps228;go_wp2;go_ret;exact⟨rfl,rfl⟩
  ·have hR:R=true:=by rw[HP.o,hb]
   subst hR;have hq:([b] == [c])=true:=by simpa using hb
   go_enter Tryz.func228,Tryz.ntmps228;go_wp2;go_ret;exact⟨rfl,rfl⟩
theorem AX (s:aj) (c:UInt8) (w:World) (hl:s.length≤9223372036854775807):Calls Tryz.prog 229 #[encStr s,encStr [c]] w fun e w'=>e=.returned (.bool (jl c s))∧w'=w:=by
 cases s with
 |nil=>
  go_enter Tryz.func229,Tryz.ntmps229;go_wp2;go_ret;exact⟨rfl,rfl⟩
 |cons b d=>
  have HP:ahg (jl c (b :: d)=((b :: d).getLast (by simp) == c)):=aa (by unfold jl;rw[List.getLastD_eq_getLast?,List.getLast?_eq_some_getLast (by simp)];rfl);have xD:=fun w'=>oD (b :: d) ((b :: d).length - 1) (((b :: d).length:Int) - 1) (by omega) (by simp) w'
  have ht:(b :: d).drop ((b :: d).length - 1)=[(b :: d).getLast (by simp)]:=AW _ (by simp);rw[ht] at xD;generalize (b :: d).getLast (by simp)=x at *;generalize hL:b :: d=L at *;have qU:((L.length:Nat):Int)≥1:=by rw[←hL];simp;omega
  clear hL ht;generalize jl c L=R at *;cases hb:(x == c)
  ·have hR:R=false:=by rw[HP.o,hb]
   subst hR;have hq:([x] == [c])=false:=by simpa using hb
   go_enter Tryz.func229,Tryz.ntmps229;go_wp2;go_ret;exact⟨rfl,rfl⟩
  ·have hR:R=true:=by rw[HP.o,hb]
   subst hR;have hq:([x] == [c])=true:=by simpa using hb
   go_enter Tryz.func229,Tryz.ntmps229;go_wp2;go_ret;exact⟨rfl,rfl⟩
set_option maxRecDepth 512
set_option maxHeartbeats 200000
theorem Ea (s:aj) (c:UInt8) (w:World) (hl:s.length≤9223372036854775807):Calls Tryz.prog 230 #[encStr s,encStr [c]] w fun e w'=>e=.returned (.bool (preB c s))∧w'=w:=by
 have H:=aa (rY s c w hl);generalize preB c s=R at *;go_enter Tryz.func230,Tryz.ntmps230;go_wp2_with fail;refine H.o.mono ?_;rintro e w2 ⟨rfl,rfl⟩;go_wp2;go_ret;exact⟨rfl,rfl⟩
def eO (c:UInt8) (s:aj):aj:=if preB c s then s.drop 1 else s
def jK (c:UInt8) (s:aj):aj:=if jl c s then s.take (s.length - 1) else s
theorem Eb {c:UInt8}{s:aj}(h:preB c s=true):1≤s.length:=by cases s with|nil=>cases h|cons b d=>simp
theorem Ed {c:UInt8}{s:aj}(h:jl c s=true):1≤s.length:=by cases s with|nil=>cases h|cons b d=>simp
set_option maxRecDepth 10000
set_option maxHeartbeats 8000000
theorem tR (s:aj) (c:UInt8) (w:World) (hl:s.length≤9223372036854775807):Calls Tryz.prog 202 #[encStr s,encStr [c]] w fun e w'=>e=.returned (.tuple #[encStr (eO c s),.bool (preB c s)])∧w'=w:=by
 have H:=aa (rY s c w hl);cases hp:preB c s
 ·have hc:eO c s=s:=by unfold eO;rw[hp];rfl
  rw[hc];rw[hp] at H;clear hc;go_enter Tryz.func202,Tryz.ntmps202;go_wp2_with fail;refine H.o.mono ?_;rintro e w2 ⟨rfl,rfl⟩;go_wp2;go_ret2;exact⟨rfl,rfl⟩
 ·have hc:eO c s=s.drop 1:=by unfold eO;rw[hp];rfl
  have xD:=fun w'=>oD s 1 1 (Eb hp) rfl w'
  rw[hc];rw[hp] at H;clear hc;generalize s.drop 1=d at *;go_enter Tryz.func202,Tryz.ntmps202;go_wp2_with fail;refine H.o.mono ?_;rintro e w2 ⟨rfl,rfl⟩;go_wp2;go_ret2;exact⟨rfl,rfl⟩
theorem tS (s:aj) (c:UInt8) (w:World) (hl:s.length≤9223372036854775807):Calls Tryz.prog 203 #[encStr s,encStr [c]] w fun e w'=>e=.returned (.tuple #[encStr (jK c s),.bool (jl c s)])∧w'=w:=by
 have H:=aa (AX s c w hl);cases hp:jl c s
 ·have hc:jK c s=s:=by unfold jK;rw[hp];rfl
  rw[hc];rw[hp] at H;clear hc;go_enter Tryz.func203,Tryz.ntmps203;go_wp2_with fail;refine H.o.mono ?_;rintro e w2 ⟨rfl,rfl⟩;go_wp2;go_ret2;exact⟨rfl,rfl⟩
 ·have hc:jK c s=s.take (s.length - 1):=by unfold jK;rw[hp];rfl
  have h1:=Ed hp;have xD:=fun w'=>Mf s (s.length - 1) ((s.length:Int) - 1) (by omega) (by omega) w'
  rw[hc];rw[hp] at H;clear hc;generalize s.take (s.length - 1)=d at *;go_enter Tryz.func203,Tryz.ntmps203;go_wp2_with fail;refine H.o.mono ?_;rintro e w2 ⟨rfl,rfl⟩;go_wp2;go_ret2;exact⟨rfl,rfl⟩
set_option maxRecDepth 512
set_option maxHeartbeats 200000
theorem vq (s:aj) (c:UInt8) (w:World) (hl:s.length≤9223372036854775807):Calls Tryz.prog 163 #[encStr s,encStr [c]] w fun e w'=>e=.returned (.tuple #[encStr (eO c s),.bool (preB c s)])∧w'=w:=by
 have H:=aa (tR s c w hl);generalize eO c s=d at *;generalize preB c s=R at *;go_enter Tryz.func163,Tryz.ntmps163;go_wp2_with fail;refine H.o.mono ?_;rintro e w2 ⟨rfl,rfl⟩;go_wp2;go_ret2;exact⟨rfl,rfl⟩
theorem vr (s:aj) (c:UInt8) (w:World) (hl:s.length≤9223372036854775807):Calls Tryz.prog 164 #[encStr s,encStr [c]] w fun e w'=>e=.returned (.tuple #[encStr (jK c s),.bool (jl c s)])∧w'=w:=by
 have H:=aa (tS s c w hl);generalize jK c s=d at *;generalize jl c s=R at *;go_enter Tryz.func164,Tryz.ntmps164;go_wp2_with fail;refine H.o.mono ?_;rintro e w2 ⟨rfl,rfl⟩;go_wp2;go_ret2;exact⟨rfl,rfl⟩
end Go.Proofs.YtigafbmabjglfaaGreatDoor
