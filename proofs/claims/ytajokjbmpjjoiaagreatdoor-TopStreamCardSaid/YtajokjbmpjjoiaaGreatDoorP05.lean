import Derived.Test.YtajokjbmpjjoiaaGreatDoorP02
import Derived.Test.YtajokjbmpjjoiaaGreatDoorP04
set_option maxRecDepth 20000
set_option maxHeartbeats 0
set_option linter.unusedVariables false
namespace Go.Proofs.YtajokjbmpjjoiaaGreatDoor
section
open Go.RowKit
open Go.Lib (compareBytes)
theorem Xl:∀a b:List UInt8,compareBytes b a= -compareBytes a b
 |[],[]=>rfl
 |[],_::_=>rfl
 |_::_,[]=>rfl
 |x::a,y::b=>by
  unfold compareBytes;by_cases h:x<y
  ·have h':¬y<x:=UInt8.lt_asymm h;simp[h,h']
  ·by_cases h2:y<x
   ·simp[h,h2]
   ·simp[h,h2,Xl a b]
theorem LW (s:ByteArray)(k:Nat)(h:k<s.size):s.toList.drop k=s[k]::s.toList.drop (k+1):=by
 rw[qj (by rw[aD];exact h)];congr 1;exact(getElem_toList s k h).symm
theorem Qd (s:ByteArray)(k:Nat)(h:s.size<=k):s.toList.drop k=[]:=rU (by rw[aD];exact h)
theorem Xm (x y:UInt8)(a b:List UInt8):compareBytes (x::a) (y::b)=if x<y then-1 else if y<x then 1 else compareBytes a b:=rfl
def fw (a b:ByteArray):Int:=compareBytes a.toList b.toList
theorem Xn (a b:ByteArray)(w:World):
 Calls Tryz.prog 54 #[.string a,.string b] w λ e w'=>e= .returned (.int .i64 (fw a b))/\w'=w:=by
 go_enter Tryz.func54,Tryz.ntmps54;go_wp2_with fail;refine(Tryz.strings_Compare a b _).mono ?_;rintro e w1 ⟨rfl,rfl⟩;rw[toList_data,toList_data];go_wp2_with fail;go_ret;exact⟨rfl,rfl⟩
theorem aiT (a b:ByteArray)(w:World)(ha:a.size<=100000000)(hb:b.size<=100000000):
 Calls Tryz.prog 56 #[.string a,.string b] w λ e w'=>e= .returned (.int .i64 (fw a b))/\Below w.heap.size w w':=by
 obtain⟨n,hn⟩:∃n,fw a b=n:=⟨_,rfl⟩;rw[hn];have Hn:=ae hn;clear hn;go_enter Tryz.func56,Tryz.ntmps56;go_wp2_with fail;go_loopw [5] (λ i wr=>∃k:Nat,k<=a.size/\k<=b.size/\i= .int .i64 k/\Hid (compareBytes (a.toList.drop k) (b.toList.drop k)=n)/\Below w.heap.size w wr) (λ i _=>a.size-(intOf i).toNat)
 case atStart=>exact⟨0,aa,aa,rfl,ae Hn.out,aB _ _⟩
 case round=>
  obtain⟨k,auc,xn,rfl,hf,jh⟩:=hrel;by_cases h1:k<a.size
  ·by_cases h2:k<b.size
   ·have e:=hf.out;rw[LW a k h1,LW b k h2,Xm]at e;clear hf;by_cases hl:a[k]<b[k]
    ·rw[if_pos hl]at e;have t1:(a[k].toNat:Int)<(b[k].toNat:Int):=by have:=UInt8.lt_iff_toNat_lt.1 hl;omega
     clear hl;subst e;go_wp2_with fail;go_quiet (fail);go_wp2_with fail;go_ret;exact⟨rfl,below_drewN jh _⟩
    ·rw[if_neg hl]at e;have t1:¬((a[k].toNat:Int)<(b[k].toNat:Int)):=by have:=UInt8.not_lt.1 hl;have:=UInt8.le_iff_toNat_le.1 this;omega
     by_cases cI:b[k]<a[k]
     ·rw[if_pos cI]at e;have t2:(b[k].toNat:Int)<(a[k].toNat:Int):=by have:=UInt8.lt_iff_toNat_lt.1 cI;omega
      clear hl cI;subst e;go_wp2_with fail;go_quiet (fail);go_wp2_with fail;go_quiet (fail);go_wp2_with fail;go_ret;exact⟨rfl,below_drewN (below_drewN jh _) _⟩
     ·rw[if_neg cI]at e;have t2:¬((b[k].toNat:Int)<(a[k].toNat:Int)):=by have:=UInt8.not_lt.1 cI;have:=UInt8.le_iff_toNat_le.1 this;omega
      have H:=ae e;clear hl cI e;go_wp2_with fail;go_quiet (fail);go_wp2_with fail;go_quiet (fail);go_wp2_with fail;go_roundw
      case rel=>exact⟨k+1,aa,aa,by go_num,H,below_drewN jh _⟩
      case measure=>simp[intOf];omega
   ·obtain rfl:k=b.size:=aa;have e:=hf.out;rw[LW a _ h1,Qd b _ (ai _)]at e;have e':n=1:=e.symm;subst e';clear e hf;go_wp2_with fail;go_ret;exact⟨rfl,jh⟩
  ·obtain rfl:k=a.size:=aa;have e:=hf.out;rw[Qd a _ (ai _)]at e;by_cases h2:a.size<b.size
   ·rw[LW b _ h2]at e;have e':n= -1:=e.symm;subst e';clear e hf;go_wp2_with fail;go_ret;exact⟨rfl,jh⟩
   ·have h3:a.size=b.size:=aa;rw[Qd b _ aa]at e;have e':n=0:=e.symm;subst e';clear e hf;go_wp2_with fail;go_ret;exact⟨rfl,jh⟩
def dd (p f:List UInt8):Bool:=decide (f.length<p.length/\p.getD f.length 0=47/\p.take f.length=f)
theorem aiU (p f:List UInt8):Lib.hasPrefix p f=decide (p.take f.length=f):=by
 unfold Lib.hasPrefix;rw[Bool.eq_iff_iff,decide_eq_true_eq,List.isPrefixOf_iff_prefix,List.prefix_iff_eq_take];exact eq_comm
theorem LX (s:ByteArray)(k:Nat)(h:k<s.size):s.toList.getD k 0=s[k]:=by
 rw[a_,aZ (by rw[aD];exact h)];exact(getElem_toList s k h).symm
theorem aiV (p f:ByteArray)(w:World)(hp:p.size<=100000000)(hf:f.size<=100000000):
 Calls Tryz.prog 159 #[.string p,.string f] w λ e w'=>e= .returned (.bool (dd p.toList f.toList))/\w'=w:=by
 by_cases h1:f.size<p.size
 ·by_cases h2:p[f.size]=47
  ·have t:p[f.size].toNat=47:=by rw[h2];rfl
   have H:=ae (show decide (p.toList.take f.size=f.toList)=dd p.toList f.toList by
    unfold dd;rw[CD,aD,aD,LX p _ h1];exact⟨λ h=>⟨h1,h2,h⟩,λ h=>h.2.2⟩)
   clear h2;obtain⟨b,hb⟩:∃b,dd p.toList f.toList=b:=⟨_,rfl⟩;rw[hb]at H⊢;clear hb;go_enter Tryz.func159,Tryz.ntmps159;go_wp2_with fail;refine(Tryz.strings_HasPrefix p f _).mono ?_;rintro e w1 ⟨rfl,rfl⟩;rw[toList_data,toList_data,aiU,aD,H.out];go_wp2_with fail;go_ret;exact⟨rfl,rfl⟩
  ·have t:¬p[f.size].toNat=47:=by intro e;exact h2 (yg.1 (by rw[e];rfl))
   have H:=ae (show dd p.toList f.toList=false from ct (λ h=>by
    rw[aD,LX p _ h1]at h;exact h2 h.2.1))
   clear h2;go_enter Tryz.func159,Tryz.ntmps159;go_wp2;go_ret;exact⟨by rw[H.out];rfl,rfl⟩
 ·have H:=ae (show dd p.toList f.toList=false from ct (λ h=>by rw[aD,aD]at h;exact h1 h.1));go_enter Tryz.func159,Tryz.ntmps159;go_wp2;go_ret;exact⟨by rw[H.out];rfl,rfl⟩
theorem aiW (p f:ByteArray)(w:World)(hp:p.size<=100000000)(hf:f.size<=100000000):
 Calls Tryz.prog 27 #[.string p,.string f] w λ e w'=>e= .returned (.bool (dd p.toList f.toList))/\w'=w:=by
 by_cases h1:f.size<p.size
 ·have hq:(p.extract 0 f.size).toList=p.toList.take f.size:=rW _ _;by_cases h0:p.toList.take f.size=f.toList
  ·have t0:(p.toList.take f.size==f.toList)=true:=by rw[beq_iff_eq];exact h0
   by_cases h2:p[f.size]=47
   ·have t:p[f.size].toNat=47:=by rw[h2];rfl
    have H:=ae (show dd p.toList f.toList=true from fF (by rw[aD,aD,LX p _ h1];exact⟨h1,h2,h0⟩));clear h2 h0;go_enter Tryz.func27,Tryz.ntmps27;go_wp2;go_ret;exact⟨by rw[H.out];rfl,rfl⟩
   ·have t:¬p[f.size].toNat=47:=by intro e;exact h2 (yg.1 (by rw[e];rfl))
    have t':(((p[f.size].toNat:Nat):Int)==47)=false:=by rw[jE];omega
    have H:=ae (show dd p.toList f.toList=false from ct (λ h=>by
     rw[aD,LX p _ h1]at h;exact h2 h.2.1))
    clear h2 h0;go_enter Tryz.func27,Tryz.ntmps27;go_wp2;go_ret;exact⟨by rw[H.out];rfl,rfl⟩
  ·have t0:(p.toList.take f.size==f.toList)=false:=by rw[jE];exact h0
   have H:=ae (show dd p.toList f.toList=false from ct (λ h=>by rw[aD]at h;exact h0 h.2.2));clear h0;go_enter Tryz.func27,Tryz.ntmps27;go_wp2;go_ret;exact⟨by rw[H.out];rfl,rfl⟩
 ·have H:=ae (show dd p.toList f.toList=false from ct (λ h=>by rw[aD,aD]at h;exact h1 h.1));go_enter Tryz.func27,Tryz.ntmps27;go_wp2;go_ret;exact⟨by rw[H.out];rfl,rfl⟩
theorem Xo (a b:ByteArray)(k:Int)(h:fw a b=k)(w:World):
 Calls Tryz.prog 54 #[.string a,.string b] w λ e w'=>e= .returned (.int .i64 k)/\w'=w:=by subst h;exact Xn a b w
