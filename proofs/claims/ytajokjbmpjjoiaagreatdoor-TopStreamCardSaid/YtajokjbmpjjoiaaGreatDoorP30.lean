import Derived.Test.YtajokjbmpjjoiaaGreatDoorP29
import Derived.Deep.RegionWith
set_option maxRecDepth 20000
set_option maxHeartbeats 0
namespace Go.Proofs.YtajokjbmpjjoiaaGreatDoor
section
open Go.RowKit
theorem acV (s:ByteArray)(w:World)(aG:s.size<=9223372036854775807):
 Calls Tryz.prog 51 #[.string s] w λ e w'=>oE s.toList e/\Below w.heap.size w w':=by
 by_cases h0:0<s.size
 ·by_cases h1:s[0].toNat<248
  ·exact apn s w h0 h1
  ·exact aps s w h0 aa aG
 ·exact apm s w (by have:=aD s;exact dP aa)
theorem acW (s:ByteArray)(w:World)(aG:s.size<=9223372036854775807)(h:takeN s.toList=none):
 Calls Tryz.prog 51 #[.string s] w λ e w'=>e= .returned (.tuple #[.int .i64 0,.string ⟨#[]⟩,.int .i64 2])/\Below w.heap.size w w':=
 (acV s w aG).mono λ e w' ⟨he,hb⟩=>⟨by rw[he];unfold GM GN GP;rw[h];rfl,hb⟩
theorem JS (s:ByteArray)(w:World)(aG:s.size<=9223372036854775807)(n:Nat)(r:List UInt8)(h:takeN s.toList=some (n,r)):
 Calls Tryz.prog 51 #[.string s] w λ e w'=>e= .returned (.tuple #[.int .i64 n,.string (av r),.int .i64 0])/\Below w.heap.size w w':=
 (acV s w aG).mono λ e w' ⟨he,hb⟩=>⟨by rw[he];unfold GM GN GP;rw[h],hb⟩
theorem acX (n:Int)(w:World):Calls Tryz.prog 104 #[.slice (some ⟨w.heap.size,0,none⟩) 1 1] (w.alloc (.cells #[.int .i64 n] 3)) λ e w'=>
 e= .returned (.string (av (fQ (iE n))))/\Below w.heap.size w w':=
 (aj7 _ 1 1 [n] _ rfl (Rd.af2 _ _ _) aa).mono λ e w' ⟨he,hb⟩=>⟨by rw[he];simp[qu],O1 hb⟩
def oF (s:List UInt8):List UInt8:=fQ (iE s.length)++s
def dG (s:List UInt8)(most:Int):List UInt8×List UInt8×Int:=
 match takeN s with
 |none=>([],[],2)
 |some (n,r)=>if most<n then([],[],3)else if r.length<n then([],[],2)else(r.take n,r.drop n,0)
def zr (s:List UInt8)(most:Int)(e:Ending):Prop:=e= .returned (.tuple #[.string (av (dG s most).1),.string (av (dG s most).2.1),.int .i64 (dG s most).2.2])
theorem zr.kg {s:List UInt8}{most:Int}{a b:ByteArray}{k:Int}(h:dG s most=(a.toList,b.toList,k)):zr s most (.returned (.tuple #[.string a,.string b,.int .i64 k])):=by
 unfold zr;rw[h];simp only[kf]
theorem apw (s:ByteArray)(w:World)(hs:s.size<=4611686018427387904):
 Calls Tryz.prog 106 #[.string s] w λ e w'=>e= .returned (.string (av (oF s.toList)))/\Below w.heap.size w w':=by
 have h9:(av (fQ (iE (s.size:Int)))).size<=9:=by rw[cV];exact GR _
 go_enter Tryz.func106,Tryz.ntmps106;go_wp2_with (go_at_call 104;refine(acX _ _).mono ?_;rintro e w1 ⟨rfl,au⟩);go_ret;exact⟨Vh (by rw[CE,cn,cn,oF,aD]),au⟩
theorem apx (s:ByteArray)(most:Int)(w:World)(hs:s.size<=9223372036854775807):
 Calls Tryz.prog 52 #[.string s,.int .i64 most] w λ e w'=>zr s.toList most e/\Below w.heap.size w w':=by
 rcases h:takeN s.toList with _|⟨n,r⟩
 ·have ht:dG s.toList most=([],[],2):=by unfold dG;rw[h]
  have Ht:=ae ht;have H:=ae h;clear ht h;go_enter Tryz.func52,Tryz.ntmps52;go_wp2_with (go_at_call 51;refine(acW _ _ hs H.out).mono ?_;rintro e w1 ⟨rfl,au⟩);go_ret3;exact⟨zr.kg (by rw[toList_nil];exact Ht.out),au⟩
 ·have H:=ae h;by_cases h1:most<(n:Int)
  ·have ht:dG s.toList most=([],[],3):=by unfold dG;rw[h];simp[h1]
   have Ht:=ae ht;clear ht h;go_enter Tryz.func52,Tryz.ntmps52;go_wp2_with (go_at_call 51;refine(JS _ _ hs _ _ H.out).mono ?_;rintro e w1 ⟨rfl,au⟩);go_ret3;exact⟨zr.kg (by rw[toList_nil];exact Ht.out),au⟩
  ·by_cases h2:r.length<n
   ·have ht:dG s.toList most=([],[],2):=by unfold dG;rw[h];simp[h1,h2]
    have Ht:=ae ht;have apy:((av r).size:Int)<(n:Int):=by rw[cV];omega
    clear ht h;go_enter Tryz.func52,Tryz.ntmps52;go_wp2_with (go_at_call 51;refine(JS _ _ hs _ _ H.out).mono ?_;rintro e w1 ⟨rfl,au⟩);go_ret3;exact⟨zr.kg (by rw[toList_nil];exact Ht.out),au⟩
   ·have ht:dG s.toList most=(r.take n,r.drop n,0):=by unfold dG;rw[h];simp[h1,h2]
    have Ht:=ae ht;have apy:(n:Int)<=((av r).size:Int):=by rw[cV];omega
    clear ht h;go_enter Tryz.func52,Tryz.ntmps52;go_wp2_with (go_at_call 51;refine(JS _ _ hs _ _ H.out).mono ?_;rintro e w1 ⟨rfl,au⟩);go_quiet (fail);go_wp2;go_ret3;refine⟨zr.kg ?_,below_drewN au _⟩;rw[rW,tg,cn];exact Ht.out
theorem acY (s:List UInt8)(most:Int):(dG s most).1.length<=s.length/\(dG s most).2.1.length<=s.length:=by
 unfold dG
 cases h:takeN s with
 |none=>simp
 |some x=>
  obtain⟨n,r⟩:=x;have hr:=(Pr s n r h).1;simp only;split
  ·simp
  ·split
   ·simp
   ·simp only[ba,cw];rw[hr,ag];omega
theorem acZ (a r:List UInt8)(most:Int)(h:(a.length:Int)<=most)(hm:a.length<=100000000):dG (oF a++r) most=(a,r,0):=by
 unfold dG oF;have e:iE (a.length:Int)=a.length:=by unfold iE;omega
 rw[aN,VY _ _ (VX _),e];simp only;rw[if_neg aa,if_neg (by rw[ag];omega),Cq,List.drop_left]
