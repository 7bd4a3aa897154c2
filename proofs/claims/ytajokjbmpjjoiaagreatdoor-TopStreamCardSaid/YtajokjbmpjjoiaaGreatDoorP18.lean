import Derived.Test.YtajokjbmpjjoiaaGreatDoorP17
import Derived.Lib.AppendStr
set_option maxRecDepth 20000
set_option maxHeartbeats 0
set_option linter.unusedSimpArgs false
set_option linter.unusedVariables false
namespace Go.Proofs.YtajokjbmpjjoiaaGreatDoor
section
open Go.RowKit Go.Lib
theorem ame (x:Nat):bits .and .i64 (x:Int) 1=((x%2:Nat):Int):=by
 show IntKind.i64.wrap ((BitVec.ofInt 64 (x:Int)&&&BitVec.ofInt 64 1).toNat:Int)=_;rw[BitVec.toNat_and,show(BitVec.ofInt 64 1).toNat=2^1-1 from rfl,KA,qf,aE];simp only[Nat.reducePow];omega
theorem ZG (v i:Nat):bits .and .i64 ((v:Int)/2^i) 1=((ca (decide (v/2^i%2=1)):Nat):Int):=by
 have e:(v:Int)/2^i=((v/2^i:Nat):Int):=by push_cast;rfl
 rw[e,ame,<-Zr]
theorem vt (v n:Nat)(hn:n<=62)(g:Nat)(r:Option Nat)(l:List Bool)(w:World)(h:eO w g r l)(hl:l.length<=900000000):
 Calls Tryz.prog 165 #[.pointer (some ⟨g,0,none⟩),.int .i64 (v:Nat),.int .i64 (n:Nat)] w (ir w g r (l++aH v n)):=by
 have HW:=ae h;have HL:=ae hl;clear h hl;go_enter Tryz.func165,Tryz.ntmps165;go_wp2_with fail;go_loopw [12] (λ vi wr=>∃(i:Nat) (r':Option Nat),vi= .int .i64 (i:Nat)/\i<=n/\Hid (eO wr g r' (l++aH v i)/\PW w wr g r r')) (λ vi _=>n-vnat vi)
 case atStart=>exact⟨0,r,rfl,aa,ae ⟨by rw[aH,bV];exact HW.out,PW.refl⟩⟩
 case round=>
  obtain⟨i,r',rfl,hi,HX⟩:=hrel;by_cases ao:(i:Int)<(n:Int)
  ·have he:=ZG v i;have CS:(i:Int)<64:=aa;go_wp2_with (go_at_call 227;go_must (refine(Zx (decide (v/2^i%2=1)) g r' _ _ HX.out.1 (by have:=HL.out;rw[ag,fi];omega)).mono ?_);rintro e w1 ⟨rfl,r2,dS,dV⟩;have H2:=ae (af dS dV);clear dS dV);go_roundw
   case rel=>exact⟨i+1,r2,by first|rfl|go_num,aa,ae ⟨by rw[Zp,<-aN];exact H2.out.1,HX.out.2.trans H2.out.2⟩⟩
   case measure=>simp[vnat];omega
  ·obtain rfl:i=n:=aa;go_wp2_with fail;exact eY (eQ rfl _ _ _) rfl ⟨rfl,r',HX.out⟩
theorem amf (v n:Nat)(hn:n<=62)(g:Nat)(r:Option Nat)(l:List Bool)(w:World)(h:eO w g r l)(hl:l.length<=900000000):
 Calls Tryz.prog 344 #[.pointer (some ⟨g,0,none⟩),.int .i64 (v:Nat),.int .i64 (n:Nat)] w (ir w g r (l++msb v n)):=by
 have HW:=ae h;have HL:=ae hl;clear h hl;go_enter Tryz.func344,Tryz.ntmps344;go_wp2_with fail;go_loopw [6] (λ vi wr=>∃(i:Nat) (x:Int) (r':Option Nat),vi= .int .i64 x/\x=(n:Int)-1-i/\i<=n/\Hid (eO wr g r' (l++(msb v n).take i)/\PW w wr g r r')) (λ vi _=>match vi with| .int _ x=>(x+1).toNat|_=>0)
 case atStart=>exact⟨0,_,r,rfl,aa,aa,ae ⟨by rw[mM,bV];exact HW.out,PW.refl⟩⟩
 case round=>
  obtain⟨i,x,r',rfl,hx,hi,HX⟩:=hrel;by_cases ao:i<n
  ·obtain⟨k,hk⟩:∃k:Nat,n-1-i=k:=⟨_,rfl⟩;obtain rfl:x=(k:Int):=aa;have HK:=ae hk;have he:=ZG v k;have CS:(k:Int)<64:=aa;clear hk hx;go_wp2_with (go_at_call 227;go_must (refine(Zx (decide (v/2^k%2=1)) g r' _ _ HX.out.1 (by have:=HL.out;rw[ag,ba,wU];omega)).mono ?_);rintro e w1 ⟨rfl,r2,dS,dV⟩;have H2:=ae (af dS dV);clear dS dV);go_roundw
   case rel=>exact⟨i+1,_,r2,rfl,by have:=HK.out;omega,aa,ae ⟨by rw[Zq n v i ao,HK.out,<-aN];exact H2.out.1,HX.out.2.trans H2.out.2⟩⟩
   case measure=>simp<;>omega
  ·obtain rfl:i=n:=aa;obtain rfl:x= -1:=aa;go_wp2_with fail;exact eY (eQ rfl _ _ _) rfl ⟨rfl,r',by rw[<-bQ (show(msb v i).length<=i by rw[wU];exact ai _)];exact HX.out.1,HX.out.2⟩
theorem ZH (g:Nat)(A:Option Addr)(n c:Nat)(N:Value)(w:World)(hB:Bk w g 254 #[.slice A n c,N])(hn:n<=1000000000)(cR:n<=c):
 Calls Tryz.prog 164 #[.pointer (some ⟨g,0,none⟩)] w λ e w'=>e= .returned (.tuple #[])/\w'=w.setCell ⟨g,1,none⟩ (.int .i64 (8*(n:Int))):=by
 have c0:=hB.cell_ 0 _ rfl;have c1:=hB.cell_ 1 _ rfl;have f1:=hB.frozen 1;clear hB;go_enter Tryz.func164,Tryz.ntmps164;go_wp2_with fail;exact eY (eQ rfl _ _ _) rfl ⟨rfl,rfl⟩
theorem ZI (g:Nat)(r:Option Nat)(l:List Bool)(w:World)(h:eO w g r l)(hl:l.length<=900000000):
 Calls Tryz.prog 164 #[.pointer (some ⟨g,0,none⟩)] w (ir w g r (jr l)):=by
 obtain⟨v,hB,aw,cK,tU⟩:=h;have hlen:=Du l;have ej:=FA l;rw[<-hlen]at ej;obtain⟨_,A,c,rfl,cR,bT,bY⟩:=Sl.own aw;refine(ZH g A _ c _ w hB aa cR).mono ?_;rintro e w' ⟨rfl,rfl⟩;refine⟨rfl,r,⟨_,?_,?_,cK,tU⟩,PW.pR _ _ _ _ _⟩
 ·rw[ej];have:=hB.aP 1 (.int .i64 (8*((aX l).length:Int)));simpa using this
 ·rw[alS];exact aw.kept (row:=some g) (aY _ g 1 _) (by rw[cK];exact .inr tU)
theorem ZJ:(Tryz.prog.info? 5).map (λ i=>(i.zero,i.size,i.bytes))=some (some (.int .u8 0),1,1):=ah
theorem ZK (s:ByteArray):strCells s=aJ s.toList:=by
 rw[kY];rfl
def ZL (w:World)(g B:Nat)(l:List Bool)(e:Ending)(w':World):Prop:=e= .returned (.tuple #[])/\∃r',eO w' g r' l/\Below B w w'/\∀k,r'=some k->B<=k
theorem amg (s:ByteArray)(hs:s.size<=900000000)(g:Nat)(r:Option Nat)(l:List Bool)(w:World)(h:eO w g r l)(hl:l.length<=90000000)(B:Nat)(FF:B<=g)(ZM:∀k,r=some k->B<=k):
 Calls Tryz.prog 166 #[.pointer (some ⟨g,0,none⟩),.string s] w (ZL w g B (jr l++bH s.toList)):=by
 have HW:=ae h;have HL:=ae hl;have ZN:=ae ZM;clear h hl ZM;go_enter Tryz.func166,Tryz.ntmps166;go_wp2_with fail;(with_reducible refine(ZI g r l w HW.out (by have:=HL.out;omega)).mono ?_);rintro e w1 ⟨rfl,r1,eC,cN⟩
 have vu:=ae (show Below B w w1/\∀k,r1=some k->B<=k from⟨cN.below (by have:=HW.out.lt.1;omega) FF ZN.out,λ k hk=>by
  rcases cN.row with e|⟨j,e,hj⟩
  ·exact ZN.out k (e▸hk)
  ·rw[hk]at e;cases e;have:=HW.out.lt.1;omega⟩)
 obtain⟨v,hB,aw,cK,tU⟩:=eC;have Dx:=ae (show(aX (jr l)).length<=100000000/\(jr l).length%8=0 by rw[Du,FA];have:=HL.out;omega);obtain⟨X,hX⟩:∃X,aX (jr l)=X:=⟨_,rfl⟩;obtain⟨n,hn⟩:∃n,X.length=n:=⟨_,rfl⟩;rw[hX,hn]at aw Dx;have HX:=ae (af hX hn);have HB:=ae hB;have HV:=ae (af cK tU);have amh:=Zs (B:=B) aw (by rw[cK];exact vu.out.2);have c0:=hB.cell_ 0 _ rfl;have f0:=hB.frozen 0;obtain⟨i,hi,z0,z1,z2⟩:=info_parts ZJ;have HI:=ae (af hi (af z0 (af z1 z2)));clear hB aw cK tU hX hn cN hi z0 z1 z2;go_wp2_with (at_builtin;go_must (refine wpList_append_own_string _ rfl (.tmp 12) (.tmp 13) 54 9 rfl B 5 i Tryz.underlying54 Tryz.underlying9 HI.out.1 HI.out.2.1 HI.out.2.2.1 HI.out.2.2.2 v n _ rfl amh s rfl (by unfold maxLen;have:=Dx.out.1;omega) (by have:=Dx.out.1;omega) (by have:=HB.out.lt;omega) ?_);intro v2 w2 dk qV Rn;obtain⟨_,A2,c2,rfl,bT,fj,vw⟩:=Sl.own dk;clear Rn vw;have fc:v.ownBlock≠some g:=(by rw[HV.out.1];exact HV.out.2);have aC:w2.heap[g]? =w1.heap[g]? :=qV.block g HB.out.lt (λ e=>fc e.symm);have cC:Bk w2 g 254 #[v,.int .i64 ((jr l).length:Nat)]:=aC.trans HB.out;have d0:=cC.cell_ 0 _ rfl;have e0:=cC.frozen 0);have bF:Bk (w2.setCell ⟨g,0,none⟩ (.slice A2 (n+s.size) c2)) g 254 #[.slice A2 (n+s.size) c2,.int .i64 ((jr l).length:Nat)]:=cC.aP 0 _
 have Ro:(Value.slice A2 (n+s.size) c2).ownBlock≠some g:=λ e=>by
  have h1:=qV.block g HB.out.lt (by rw[HV.out.1];exact λ e=>HV.out.2 e.symm);rcases dk.2 with⟨e2,_⟩|⟨k,cap,cur,e2,_,hk,_⟩
  ·rw[e2]at e;cases e
  ·rw[e2]at e;have ek:k=g:=cG e;rw[ek]at hk;have h2:=HB.out;unfold Bk at h2;rw[<-h1,hk]at h2;have h3:=cG h2;simp only[Obj.cells.injEq]at h3;exact absurd h3.2.1 aA
 (with_reducible refine(ZH g A2 (n+s.size) c2 _ _ bF (by have:=Dx.out.1;omega) bT).mono ?_);rintro e w3 ⟨rfl,rfl⟩;go_wp2_with fail;have jL:aJ X++strCells s=aJ (X++s.toList):=by rw[ZK];unfold aJ;rw[ka]
 have o9:aX (jr l++bH s.toList)=X++s.toList:=by rw[alT _ _ Dx.out.2,HX.out.1]
 have ei:(jr l++bH s.toList).length=8*(n+s.size):=by
  rw[ag,pP,aD,FA];have h1:=HX.out.2;rw[<-HX.out.1,Du,FA]at h1;omega
 have cq:=((vu.out.1.grown qV (by have:=HB.out.lt;have:=vu.out.1.size;omega) (by rw[HV.out.1];exact vu.out.2)).setCell (p:=⟨g,0,none⟩) FF (.slice A2 (n+s.size) c2)).setCell (p:=⟨g,1,none⟩) FF (.int .i64 (8*((n+s.size:Nat):Int)));refine eY (eQ rfl _ _ _) rfl ⟨rfl,(Value.slice A2 (n+s.size) c2).ownBlock,⟨.slice A2 (n+s.size) c2,?_,?_,rfl,Ro⟩,cq,λ k hk=>(dk.lt k hk).1⟩
 ·rw[ei];exact bF.aP 1 _
 ·rw[o9,show(X++s.toList).length=n+s.size by rw[ag,aD,HX.out.2],<-jL];exact((MT dk).kept (row:=some g) (aY _ g 0 _) (.inr Ro)).kept (row:=some g) (aY _ g 1 _) (.inr Ro)
theorem Rp (g:Nat)(r:Option Nat)(l:List Bool)(w:World)(h:eO w g r l):
 Calls Tryz.prog 167 #[.pointer (some ⟨g,0,none⟩)] w λ e w'=>e= .returned (.string (av (aX l)))/\Below w.heap.size w w':=by
 obtain⟨v,hB,aw,cK,tU⟩:=h;have c0:=hB.cell_ 0 _ rfl;have jf:=O2 (P:=Tryz.prog) aw 54 9 5 Tryz.underlying54 Tryz.underlying5 Tryz.underlying9;clear hB aw cK tU;go_enter Tryz.func167,Tryz.ntmps167;go_wp2_with fail;go_ret;exact⟨rfl,aB _ _⟩
end
section
open Go.RowKit
theorem ZO:∀(n v m:Nat),m<n->(aH v n)[m]? =some (decide (v/2^m%2=1))
 |0,_,_,h=>by omega
 |n+1,v,0,_=>by simp[aH]
 |n+1,v,m+1,h=>by
  rw[aH,eF,ZO n (v/2) m aa,Nat.pow_succ,ld (2^m) 2,Eu]
theorem ZP:∀(l:List Nat) (q m x:Nat),l[q]? =some x->m<8->(fS l)[8*q+m]? =some (decide (x/2^m%2=1))
 |[],_,_,_,h,_=>by simp at h
 |y::l,0,m,x,h,hm=>by
  simp at h;subst h;rw[fS,Nat.mul_zero,jd,ux (by rw[fi];exact hm),ZO 8 y m hm]
 |y::l,q+1,m,x,h,hm=>by
  rw[eF]at h;rw[fS,lf (by rw[fi];omega),fi,show 8*(q+1)+m-8=8*q+m by omega];exact ZP l q m x h hm
theorem ami (s:List UInt8)(a:Nat)(x:UInt8)(h:s[a/8]? =some x):(bH s)[a]? =some (decide (x.toNat/2^(a%8)%2=1)):=by
 unfold bH;have:=ZP (s.map UInt8.toNat) (a/8) (a%8) x.toNat (by rw[eH,h];rfl) aa;rwa [show 8*(a/8)+a%8=a by omega]at this
theorem amj (l:List Bool)(b:Bool):ef (l++[b])=ef l+ca b*2^l.length:=by
 rw[Lh,ef,ef,Nat.mul_zero,Nat.add_zero,ld];rfl
theorem ZQ {l:List Bool}{k i:Nat}{b:Bool}(h:l[k+i]? =some b):(l.drop k).take (i+1)=(l.drop k).take i++[b]:=by
 rw[eu,rO,h];rfl
def jM (w:World)(g:Nat)(s:ByteArray)(n:Nat):Prop:=Bk w g 162 #[.string s,.int .i64 (n:Nat)]
theorem amk (s:ByteArray)(w:World):Calls Tryz.prog 46 #[.string s] w λ e w'=>e= .returned (.pointer (some ⟨w.heap.size,0,none⟩))/\w'=w.alloc (.cells #[.string s,.int .i64 0] 162):=by
 go_enter Tryz.func46,Tryz.ntmps46;go_wp2_with fail;go_ret;exact⟨rfl,rfl⟩
theorem MZ (g:Nat)(s:ByteArray)(n:Nat)(w:World)(h:jM w g s n):Calls Tryz.prog 50 #[.pointer (some ⟨g,0,none⟩)] w λ e w'=>e= .returned (.int .i64 (n:Nat))/\w=w':=by
 have c1:=Bk.cell_ h 1 _ rfl;clear h;go_enter Tryz.func50,Tryz.ntmps50;go_wp2_with fail;go_ret;exact⟨rfl,rfl⟩
theorem ZR (g:Nat)(s:ByteArray)(n:Nat)(z:Int)(hz:8*(s.size:Int)-n=z)(w:World)(h:jM w g s n)(hs:s.size<=1000000000)(hn:n<=8*s.size):
 Calls Tryz.prog 146 #[.pointer (some ⟨g,0,none⟩)] w λ e w'=>e= .returned (.int .i64 z)/\∃m,w'=w.drewN m:=by
 have c0:=Bk.cell_ h 0 _ rfl;have c1:=Bk.cell_ h 1 _ rfl;have HZ:=ae hz;have m1:IntKind.i64.wrap (8*(s.size:Int))=8*(s.size:Int):=by rw[aE];omega
 have m2:IntKind.i64.wrap (8*(s.size:Int)-(n:Int))=8*(s.size:Int)-(n:Int):=by rw[aE];omega
 clear h hz;go_enter Tryz.func146,Tryz.ntmps146;go_wp2_with fail;go_quiet (fail);go_wp2_with fail;go_ret;exact⟨by rw[<-HZ.out];rfl,_,rfl⟩
theorem awI (w:World)(n:Nat):Below w.heap.size w (w.drewN n):=⟨rfl,rfl,rfl,ai _,λ _ _=>rfl⟩
def aml (w:World)(g:Nat)(s:ByteArray)(k m:Nat)(e:Ending)(w':World):Prop:=
 e= .returned (.tuple #[.int .i64 (ef (((bH s.toList).drop k).take m):Nat),.bool true])/\jM w' g s (k+m)/\w.grownBy w' (some g)
theorem ZS (g:Nat)(s:ByteArray)(k m:Nat)(w:World)(h:jM w g s k)(hs:s.size<=1000000000)(hk:k<=8*s.size)(hm:m<=62)(E8:8*s.size<k+m):
 Calls Tryz.prog 91 #[.pointer (some ⟨g,0,none⟩),.int .i64 (m:Nat)] w λ e w'=>e= .returned (.tuple #[.int .i64 0,.bool false])/\Below w.heap.size w w':=by
 obtain⟨z,hz⟩:∃z,8*(s.size:Int)-k=z:=⟨_,rfl⟩;have sE:Hid (Calls Tryz.prog 146 #[.pointer (some ⟨g,0,none⟩)] w λ e w'=>e= .returned (.int .i64 z)/\∃m,w'=w.drewN m):=ae (ZR g s k z hz w h hs hk);have amm:z<(m:Int):=aa;clear h hz E8 hk hs;go_enter Tryz.func91,Tryz.ntmps91;go_wp2_with (go_at_call 146;go_must ((with_reducible refine sE.out.mono ?_));rintro e w1 ⟨rfl,q,rfl⟩);go_ret2;exact⟨rfl,awI _ _⟩
theorem amn (x:Nat):bits .and .u8 (x:Int) 1=((x%2:Nat):Int):=by
 show IntKind.u8.wrap ((BitVec.ofInt 8 (x:Int)&&&BitVec.ofInt 8 1).toNat:Int)=_;rw[BitVec.toNat_and,show(BitVec.ofInt 8 1).toNat=2^1-1 from rfl,KA,qf,IntKind.wrap_u8];simp only[Nat.reducePow];omega
theorem ZT {i:Nat}(h:i<62):2^i<=2305843009213693952:=by
 have h2:=px (n:=2) aa (show i<=61 by omega);have h3:2^61=2305843009213693952:=aA;omega
theorem ZU (x y:Nat)(hx:x<9223372036854775808)(hy:y<9223372036854775808):bits .or .i64 (x:Int) (y:Int)=((x|||y:Nat):Int):=by
 have h:x|||y<9223372036854775808:=uw (n:=63) hx hy;show IntKind.i64.wrap ((BitVec.ofInt 64 (x:Int)|||BitVec.ofInt 64 (y:Int)).toNat:Int)=_;rw[BitVec.toNat_or,qf,qf,aE];simp only[Nat.reducePow];rw[show((x:Int)%((18446744073709551616:Nat):Int)).toNat=x by omega,show((y:Int)%((18446744073709551616:Nat):Int)).toNat=y by omega];omega
theorem IM (d:Bool):ca d<=1:=by cases d<;>simp[ca]
theorem wrap_small (y:Nat)(h:y<9223372036854775808):wrap64 ((y:Nat):Int)=((y:Nat):Int):=by unfold wrap64;omega
theorem amo (d:Bool)(i:Nat):((ca d:Nat):Int)*2^i=((ca d*2^i:Nat):Int):=by push_cast;rfl
theorem amq (d:Bool)(i:Nat):ca d*2^i<=2^i:=by
 have:=Nat.mul_le_mul_right (2^i) (IM d);rwa [Nat.one_mul]at this
theorem amr (b mm:Nat)(d:Bool)(hd:decide (b/2^mm%2=1)=d):bits .and .u8 (((b:Nat):Int)/2^mm) 1=((ca d:Nat):Int):=by
 have e:((b:Nat):Int)/2^mm=((b/2^mm:Nat):Int):=by push_cast;rfl
 rw[e,amn,Zr,hd]
theorem ams (X:List Bool)(b mm i:Nat)(d:Bool)(hX:X.length=i)(hi:i<62)(hd:decide (b/2^mm%2=1)=d):
 bits .or .i64 ((ef X:Nat):Int) (wrap64 (wrap64 (bits .and .u8 (((b:Nat):Int)/2^mm) 1)*2^i))=((ef (X++[d]):Nat):Int):=by
 have h1:=EU X;have h2:=ZT hi;rw[hX]at h1;have h3:=amq d i;have h4:=IM d;rw[amr b mm d hd,wrap_small _ aa,amo,wrap_small _ aa,ZU _ _ aa aa,Zo _ _ _ h1,amj,hX]
theorem amt (l:List Bool)(h:l.length<=62):ef l<4611686018427387904:=by
 have h1:=EU l;have h2:=px (n:=2) aa h;have h3:2^62=4611686018427387904:=aA;omega
theorem Rq (g:Nat)(s:ByteArray)(k m:Nat)(w:World)(h:jM w g s k)(hs:s.size<=1000000000)(hm:m<=62)(IP:k+m<=8*s.size):
 Calls Tryz.prog 91 #[.pointer (some ⟨g,0,none⟩),.int .i64 (m:Nat)] w (aml w g s k m):=by
 obtain⟨z,hz⟩:∃z,8*(s.size:Int)-k=z:=⟨_,rfl⟩;have sE:Hid (Calls Tryz.prog 146 #[.pointer (some ⟨g,0,none⟩)] w λ e w'=>e= .returned (.int .i64 z)/\∃m,w'=w.drewN m):=ae (ZR g s k z hz w h hs aa);have amm:¬z<(m:Int):=aa;have HR:=ae h;have HY:=ae IP;have xn:k<=8000000000:=aa;clear h hz IP;go_enter Tryz.func91,Tryz.ntmps91;go_wp2_with (go_at_call 146;go_must ((with_reducible refine sE.out.mono ?_));rintro e w1 ⟨rfl,q,rfl⟩);have iu:Hid (jM (w.drewN q) g s k/\w.grownBy (w.drewN q) (some g)):=ae ⟨HR.out,⟨rfl,rfl,rfl,ai _,λ _ _ _=>rfl⟩⟩;clear sE HR;generalize w.drewN q=w1 at*;go_loop [6,26] (λ vv vi=>∃i:Nat,vi= .int .i64 (i:Nat)/\i<=m/\vv= .int .i64 (ef (((bH s.toList).drop k).take i):Nat)) (λ _ vi=>m-vnat vi)
 case atStart=>exact⟨0,rfl,aa,rfl⟩
 case round=>
  obtain⟨i,rfl,hi,rfl⟩:=hrel;by_cases ao:(i:Int)<(m:Int)
  ·obtain⟨a,ha⟩:∃a,k+i=a:=⟨_,rfl⟩;obtain⟨q,hq⟩:∃q,a/8=q:=⟨_,rfl⟩;obtain⟨mm,Da⟩:∃mm,a%8=mm:=⟨_,rfl⟩;have Fc:q<s.size:=by have:=HY.out;omega
   have g_:s.toList[q]? =some s[q]:=by rw[getElem_toList s q Fc,aZ (by rw[aD];exact Fc)]
   obtain⟨d,hd⟩:∃d,decide (s[q].toNat/2^mm%2=1)=d:=⟨_,rfl⟩;have FG:(bH s.toList)[k+i]? =some d:=by rw[ha,ami s.toList a s[q] (by rw[hq];exact g_),Da,hd]
   have HT:=ae (ZQ FG);have iJ:=ae (show(((bH s.toList).drop k).take i).length=i by rw[ba,cw,pP,aD];have:=HY.out;omega);have FH:=ae (amt (((bH s.toList).drop k).take i) (by rw[iJ.out];omega));obtain⟨X,hX⟩:∃X,((bH s.toList).drop k).take i=X:=⟨_,rfl⟩;rw[hX]at HT iJ FH⊢;have c0:=Bk.cell_ iu.out.1 0 _ rfl;have c1:=Bk.cell_ iu.out.1 1 _ rfl;have Ah:(k:Int)+(i:Int)=(a:Int):=aa;have vp:(a:Int)/8=(q:Int):=aa;have Dv:(a:Int)%8=(mm:Int):=aa;have wV:mm<8:=aa;have auQ:(mm:Int)<64:=aa;have amu:(i:Int)<64:=aa;have HQ:=ae (af hd FG);clear hX hd FG g_ ha hq Da;go_wp2_with fail;rw[ams X s[q].toNat mm i d iJ.out aa HQ.out.1,<-HT.out];go_round
   case rel=>exact⟨i+1,by first|rfl|go_num,aa,rfl⟩
   case measure=>simp[vnat];omega
  ·obtain rfl:i=m:=aa;have c0:=Bk.cell_ iu.out.1 0 _ rfl;have c1:=Bk.cell_ iu.out.1 1 _ rfl;have f1:=Bk.frozen iu.out.1 1;go_wp2_with fail;go_ret2
   exact⟨rfl,by
    have h:=Bk.aP iu.out.1 1 (.int .i64 ((k:Int)+(i:Int)));unfold jM;rw[Int.natCast_add];exact h,aQ iu.out.2 (aY _ g 1 _)⟩
def ZV (w:World)(g:Nat)(s:ByteArray)(n:Nat)(v:Value)(e:Ending)(w':World):Prop:=e= .returned v/\jM w' g s n/\w.grownBy w' (some g)
theorem amv (g:Nat)(s:ByteArray)(n:Nat)(w:World)(h:jM w g s n)(hn:n<=8000000000):
 Calls Tryz.prog 148 #[.pointer (some ⟨g,0,none⟩)] w (ZV w g s ((n+7)/8*8) (.tuple #[])):=by
 have HR:=ae h;have c1:=Bk.cell_ h 1 _ rfl;have f1:=Bk.frozen h 1;obtain⟨q,hq⟩:∃q,(n+7)/8=q:=⟨_,rfl⟩;have vp:((n:Int)+7)/8=(q:Int):=aa;have ZW:q<=1000000001:=aa;have HQ:=ae hq;clear h hq;go_enter Tryz.func148,Tryz.ntmps148;go_wp2_with fail;refine eY (eQ rfl _ _ _) rfl ⟨rfl,?_,aY _ g 1 _⟩;have h:=Bk.aP HR.out 1 (.int .i64 ((q:Int)*8));unfold jM;rw[HQ.out,Int.natCast_mul];exact h
theorem amw (g:Nat)(s:ByteArray)(n m:Nat)(w:World)(h:jM w g s n)(hs:s.size<=1000000000)(hn:(n+7)/8+m<=s.size):
 Calls Tryz.prog 149 #[.pointer (some ⟨g,0,none⟩),.int .i64 (m:Nat)] w (ZV w g s (8*((n+7)/8+m)) (.tuple #[.string (s.extract ((n+7)/8) ((n+7)/8+m)),.bool true])):=by
 have HR:=ae h;have c0:=Bk.cell_ h 0 _ rfl;have c1:=Bk.cell_ h 1 _ rfl;have f1:=Bk.frozen h 1;obtain⟨q,hq⟩:∃q,(n+7)/8=q:=⟨_,rfl⟩;have fk:n<=8000000000:=aa;have vp:((n:Int)+7)/8=(q:Int):=aa;rw[hq]at hn;have h1:(q:Int)+(m:Int)<=(s.size:Int):=aa;have h2:¬(s.size:Int)-(q:Int)<(m:Int):=aa;have FC:decide ((m:Int)<0)=false:=aj;have HQ:=ae hq;clear h hq;go_enter Tryz.func149,Tryz.ntmps149;go_wp2_with fail;go_ret2;refine⟨by rw[HQ.out];rfl,?_,aY _ g 1 _⟩;have h:=Bk.aP HR.out 1 (.int .i64 (8*((q:Int)+(m:Int))));unfold jM;rw[HQ.out,Int.natCast_mul,Int.natCast_add];exact h
theorem amx (g:Nat)(s:ByteArray)(n m:Nat)(w:World)(h:jM w g s n)(hs:s.size<=1000000000)(fk:n<=8000000000)(hm:m<=1000000000)(hn:s.size<(n+7)/8+m):
 Calls Tryz.prog 149 #[.pointer (some ⟨g,0,none⟩),.int .i64 (m:Nat)] w λ e w'=>e= .returned (.tuple #[.string ⟨#[]⟩,.bool false])/\w=w':=by
 have c0:=Bk.cell_ h 0 _ rfl;have c1:=Bk.cell_ h 1 _ rfl;obtain⟨q,hq⟩:∃q,(n+7)/8=q:=⟨_,rfl⟩;have vp:((n:Int)+7)/8=(q:Int):=aa;rw[hq]at hn;have h2:(s.size:Int)-(q:Int)<(m:Int):=aa;have FC:decide ((m:Int)<0)=false:=aj;clear h hq;go_enter Tryz.func149,Tryz.ntmps149;go_wp2_with fail;go_ret2;exact⟨rfl,rfl⟩
theorem ZX (g:Nat)(s:ByteArray)(k:Nat)(b:Bool)(w:World)(h:jM w g s k)(hs:s.size<=1000000000)(hb:(bH s.toList)[k]? =some b):
 Calls Tryz.prog 91 #[.pointer (some ⟨g,0,none⟩),.int .i64 1] w λ e w'=>e= .returned (.tuple #[.int .i64 (ca b:Nat),.bool true])/\jM w' g s (k+1)/\w.grownBy w' (some g):=by
 have ao:=(fX.1 hb).1;rw[pP,aD]at ao;refine(Rq g s k 1 w h hs aa aa).mono ?_;rintro e w' ⟨rfl,h2,h3⟩;refine⟨?_,h2,h3⟩;have:=ZQ (l:=bH s.toList) (k:=k) (i:=0) (b:=b) (by rw[Nat.add_zero];exact hb);rw[show(0+1:Nat)=1 from rfl,mM,List.nil_append]at this;rw[this]
 cases b<;>rfl
theorem amy (g:Nat)(s:ByteArray)(k:Nat)(w:World)(h:jM w g s k)(hs:s.size<=1000000000)(hk:k<=8*s.size)(hb:8*s.size<=k):
 Calls Tryz.prog 91 #[.pointer (some ⟨g,0,none⟩),.int .i64 1] w λ e w'=>e= .returned (.tuple #[.int .i64 0,.bool false])/\Below w.heap.size w w':=
 ZS g s k 1 w h hs hk aa aa
theorem amz (c:Nat)(b:Bool)(h:c<=1000000000):bits .or .i64 ((2*c:Nat):Int) ((ca b:Nat):Int)=((2*c+ca b:Nat):Int):=by
 have hb:=IM b;rw[ZU _ _ aa aa];congr 1;have:=Nat.two_pow_add_eq_or_of_lt (i:=1) (b:=ca b) aa c;rw[Nat.pow_one]at this;exact this.symm
theorem ZY (c:Nat->Nat)(n:Nat):∀k,ll c n<=ll c (n+k)
 |0=>ai _
 |k+1=>b_ (ZY c n k) (by rw[<-rQ,ll];omega)
theorem dA.only {w w':World}{t g:Nat}{ls:List Nat}{u:TypeId}{ds:Array Value}(h:dA w t ls)(hg:w.grownBy w' (some g))(hB:Bk w g u ds)(h1:u≠324)(h2:u≠3):dA w' t ls:=by
 obtain⟨v,hT,ho⟩:=h;exact⟨v,hT.only hg (iK hT hB λ e=>h1 e.symm),Dw ho λ k hk=>hg.block k (ho.lt k hk).2 (λ e=>fx ho hB (λ e=>h2 e.symm) (by rw[hk,e]))⟩
theorem dA.cells {w:World}{t:Nat}{ls:List Nat}(h:dA w t ls):∃A c,(∀i,i<16->w.cell? ⟨t,i,none⟩=some (.int .i64 (aR ls i:Nat)))/\w.cell? ⟨t,16,none⟩=some (.slice A (ez ls 15).length c)/\(ez ls 15).length<=c/\c<=maxLen/\Rd w A (nv (ez ls 15)):=by
 obtain⟨v,hT,ho⟩:=h;obtain⟨_,A,c,rfl,cR,bT,bY⟩:=Sl.own ho;exact⟨A,c,λ i hi=>(hT.cell i).trans (al1 _ _ i hi),hT.cell_ 16 _ (FD _ _),cR,bT,bY⟩
theorem dA.off {w:World}{t g:Nat}{ls:List Nat}{u:TypeId}{ds:Array Value}(h:dA w t ls)(hB:Bk w g u ds)(h1:u≠324)(h2:u≠3):
 t≠g/\∀A n c,w.cell? ⟨t,16,none⟩=some (.slice A n c)->∀ad,A=some ad->ad.block≠g:=by
 obtain⟨v,hT,ho⟩:=h;refine⟨iK hT hB λ e=>h1 e.symm,λ A n c hc ad hA e=>?_⟩;have hv:=(hT.cell_ 16 _ (FD _ _)).symm.trans hc;have fN:v= .slice A n c:=cG hv;exact fx ho hB (λ e=>h2 e.symm) (by rw[fN,hA,<-e];rfl)
def Rr (w:World)(t g:Nat)(ls:List Nat)(s:ByteArray)(k':Nat)(v e0:Int)(e:Ending)(w':World):Prop:=
 e= .returned (.tuple #[.int .i64 v,.int .i64 e0])/\jM w' g s k'/\dA w' t ls/\w.grownBy w' (some g)
structure vx (ls:List Nat)(bs:List Bool)(R:Option (Nat×List Bool))(k j c0 fst at_:Nat):Prop where
 dec:nJ (aR ls) (ez ls 15) (15-j) (j+1) (2*c0) fst at_ (bs.drop (k+j))=R
 le:fst<=2*c0
 sm:2*c0+2<=2^(j+1)
 at_:at_=ll (aR ls) j
 kj:k+j<=bs.length
theorem vx.start {ls:List Nat}{bs:List Bool}{R:Option (Nat×List Bool)}{k:Nat}(h:nJ (aR ls) (ez ls 15) 15 1 0 0 0 (bs.drop k)=R)(hk:k<=bs.length):vx ls bs R k 0 0 0 0:=
 ⟨h,aa,aA,rfl,hk⟩
theorem vx.step {ls:List Nat}{bs:List Bool}{R:Option (Nat×List Bool)}{k j c0 fst at_:Nat}{b:Bool}(h:vx ls bs R k j c0 fst at_)(hj:j<15)(hb:bs[k+j]? =some b):
 (2*c0+ca b<fst+aR ls (j+1)->R=some ((ez ls 15).getD (at_+(2*c0+ca b-fst)) 0,bs.drop (k+j+1))/\at_+(2*c0+ca b-fst)<(ez ls 15).length)/\
 (¬2*c0+ca b<fst+aR ls (j+1)->vx ls bs R k (j+1) (2*c0+ca b) (2*(fst+aR ls (j+1))) (at_+aR ls (j+1))):=by
 have ao:=(fX.1 hb).1;have hd:=h.dec;have Mc:bs[k+j]=b:=(fX.1 hb).2;rw[qj ao,Mc,show 15-j=(15-(j+1))+1 by omega,nJ]at hd;have au:=IM b;have hs:=h.sm;have hle:=h.le;refine⟨λ hc=>?_,λ hc=>?_⟩
 ·rw[if_pos hc]at hd;refine⟨hd.symm,?_⟩;rw[ET];have h1:=ZY (aR ls) (j+1) (15-(j+1));rw[show j+1+(15-(j+1))=15 by omega,ll]at h1;rw[h.at_];omega
 ·rw[if_neg hc]at hd;refine⟨by rw[<-hd];congr 1,aa,?_,by rw[ll,h.at_],aa⟩;rw[Nat.pow_succ];omega
theorem vx.stop {ls:List Nat}{bs:List Bool}{R:Option (Nat×List Bool)}{k j c0 fst at_:Nat}(h:vx ls bs R k j c0 fst at_)(hj:bs.length<=k+j):R=none:=by
 have hd:=h.dec;rw[nD hj]at hd;rw[<-hd]
 cases 15-j<;>rfl
theorem vx.bounds {ls:List Nat}{bs:List Bool}{R:Option (Nat×List Bool)}{k j c0 fst at_:Nat}(h:vx ls bs R k j c0 fst at_)(hj:j<=15)(hl:ls.length<=320):c0<=65536/\fst<=65536/\at_<=4800:=by
 have h1:=h.sm;have h2:=px (n:=2) aa (show j+1<=16 by omega);have h3:2^16=65536:=aA;have h4:=h.le;refine⟨aa,aa,?_⟩;rw[h.at_]
 have h5:∀n,ll (aR ls) n<=320*n:=by
  intro n;induction n with
  |zero=>simp[ll]
  |succ n ih=>rw[ll];have:=MN ls (n+1);omega
 have:=h5 j;omega
theorem ZZ (ls:List Nat)(hl:ls.length<=320)(s:ByteArray)(hs:s.size<=1000000000)(t g k k':Nat)(R:Option (Nat×List Bool))(v e0:Int)(hk:k<=8*s.size)
 (hR:nJ (aR ls) (ez ls 15) 15 1 0 0 0 ((bH s.toList).drop k)=R)
 (IP:∀x,R=some x->v=x.1/\e0=0/\∀n,n<=8*s.size->x.2=(bH s.toList).drop n->n=k')(E8:R=none->v=0/\e0=2/\k'=8*s.size/\8*s.size<k+15)
 (w:World)(hT:dA w t ls)(hr:jM w g s k):
 Calls Tryz.prog 147 #[.pointer (some ⟨t,0,none⟩),.pointer (some ⟨g,0,none⟩)] w (Rr w t g ls s k' v e0):=by
 have cq:(bH s.toList).length=8*s.size:=by rw[pP,aD]
 have HI:=ae (vx.start hR (by rw[cq];exact hk));have cS:=ae cq;have HY:=ae IP;have HN:=ae E8;have HT:=ae hT;have HR:=ae hr;clear hR cq IP E8 hT hr;go_enter Tryz.func147,Tryz.ntmps147;go_wp2_with fail;go_loopw [6,7,8,20] (λ vc vf va vi wr=>∃j c0 fst at_:Nat,vi= .int .i64 (j:Nat)/\j<=15/\vc= .int .i64 ((2*c0:Nat))/\vf= .int .i64 (fst:Nat)/\va= .int .i64 (at_:Nat)/\Hid (vx ls (bH s.toList) R k j c0 fst at_/\jM wr g s (k+j)/\dA wr t ls/\w.grownBy wr (some g))) (λ _ _ _ vi _=>15-vnat vi)
 case atStart=>exact⟨0,0,0,0,rfl,aa,rfl,rfl,rfl,ae ⟨HI.out,HR.out,HT.out,⟨rfl,rfl,rfl,ai _,λ _ _ _=>rfl⟩⟩⟩
 case round=>
  clear HI HR HT;obtain⟨j,c0,fst,at_,rfl,hj,rfl,rfl,rfl,HX⟩:=hrel;have il:=HX.out.1.bounds hj hl;obtain⟨A,cap,sH,vy,Rt,Z3,bY⟩:=HX.out.2.2.1.cells;obtain⟨M0,yX⟩:=HX.out.2.2.1.off HX.out.2.1 aA aA;have M1:=yX _ _ _ vy;clear yX;by_cases ao:(j:Int)<15
  ·have cj:=sH (1+j) aa;obtain⟨x,hx⟩:∃x,aR ls (1+j)=x:=⟨_,rfl⟩;have nW:x<=320:=by rw[<-hx];exact b_ (MN _ _) hl
   rw[hx]at cj;by_cases qF:8*s.size<=k+j
   ·have AU:=ae (HN.out (HX.out.1.stop (by rw[cS.out];exact qF)));have E9:=HX.out.1.kj;rw[cS.out]at E9;have Ru:=ae (show k+j=8*s.size by omega);clear sH vy Rt Z3 bY hx M1 M0;go_wp2_with (go_at_call 91;go_must (refine(amy g s (k+j) _ HX.out.2.1 hs (by have:=Ru.out;omega) (by have:=Ru.out;omega)).mono ?_);rintro e w1 ⟨rfl,au⟩);go_ret2;obtain⟨rfl,rfl,rfl,_⟩:=AU.out;refine⟨rfl,?_,HX.out.2.2.1.below au,aQ HX.out.2.2.2 ⟨au.os,au.tape,au.output,au.size,λ k hk _=>au.block k hk⟩⟩;have:=Bk.aL HX.out.2.1 au;rw[Ru.out]at this;exact this
   ·obtain⟨b,hb⟩:∃b,(bH s.toList)[k+j]? =some b:=⟨_,aZ (by rw[cS.out];omega)⟩;obtain⟨M3,M4⟩:=HX.out.1.step aa hb;rw[Nat.add_comm j 1,hx]at M3 M4;have HB:=ae hb;have yY:=amz c0 b aa;rw[show((2*c0:Nat):Int)=2*(c0:Int)by omega]at yY;have au:=IM b;have hle:=HX.out.1.le;obtain⟨y,hy⟩:∃y,2*c0+ca b=y:=⟨_,rfl⟩;by_cases M5:2*c0+ca b<fst+x
    ·obtain⟨iD,Ay⟩:=M3 M5;obtain⟨i,hi⟩:∃i,at_+(2*c0+ca b-fst)=i:=⟨_,rfl⟩;rw[hi]at iD Ay;obtain⟨n,hn⟩:∃n,(ez ls 15).length=n:=⟨_,rfl⟩;rw[hn]at Ay vy Rt;obtain⟨bb,oo,rfl,eT⟩:=bY.num (by rw[hn];exact Ay);have Dp:(at_:Int)+(y:Int)-(fst:Int)=(i:Int):=aa;have amA:(y:Int)-(fst:Int)<(x:Int):=aa;have xt:y<=200000:=aa;rw[hy]at yY;have amB:=ae (HY.out _ iD);have gD:=ae (show bb≠g from M1 _ rfl);have sI:=ae M0;clear sH bY hx hb M3 M4 iD hi hn M5 hy hle M1 M0;go_wp2_with (go_at_call 91;go_must (refine(ZX g s (k+j) b _ HX.out.2.1 hs HB.out).mono ?_);rintro e w1 ⟨rfl,gN,im⟩;have auR:=im.cell vy (λ e=>sI.out (cG e));have auS:=im.cell eT (λ e=>gD.out (cG e)));go_ret2;obtain⟨rfl,rfl,oP⟩:=amB.out;refine⟨rfl,?_,HX.out.2.2.1.only im HX.out.2.1 aA aA,aQ HX.out.2.2.2 im⟩;rw[<-oP (k+j+1) (by have:=(fX.1 HB.out).1;rw[cS.out]at this;omega) rfl];exact gN
    ·have cm:=ae (M4 M5);have amA:¬(y:Int)-(fst:Int)<(x:Int):=aa;have xt:y<=200000:=aa;rw[hy]at yY cm;clear sH bY hx hb M3 M4 M5 hy hle M1 M0 vy Rt Z3;go_wp2_with (go_at_call 91;go_must (refine(ZX g s (k+j) b _ HX.out.2.1 hs HB.out).mono ?_);rintro e w1 ⟨rfl,gN,im⟩);go_roundw
     case rel=>exact⟨j+1,y,2*(fst+x),at_+x,by first|rfl|go_num,aa,by congr 1;omega,by congr 1;omega,by congr 1,ae ⟨by rw[Nat.add_comm j 1];exact cm.out,gN,HX.out.2.2.1.only im HX.out.2.1 aA aA,aQ HX.out.2.2.2 im⟩⟩
     case measure=>simp[vnat];omega
  ·obtain rfl:j=15:=aa;have AU:=ae (HN.out (by have h:=HX.out.1.dec;rw[<-h];rfl));have E9:=HX.out.1.kj;rw[cS.out]at E9;have:=AU.out.2.2.2;omega
def pV (w:World)(p g:Nat)(sh:Bool):Prop:=Bk w p 101 #[.pointer (some ⟨g,0,none⟩),.bool sh,.int .i64 0]
structure b8 (w:World)(p g:Nat)(s:ByteArray)(k:Nat)(sh:Bool):Prop where
 pa:pV w p g sh
 rr:jM w g s k
 le:k<=8*s.size
theorem b8.ne {w:World}{p g:Nat}{s:ByteArray}{k:Nat}{sh:Bool}(h:b8 w p g s k sh):p≠g:=iK h.pa h.rr aA
theorem b8.below {w w':World}{p g:Nat}{s:ByteArray}{k:Nat}{sh:Bool}(h:b8 w p g s k sh)(hb:Below w.heap.size w w'):b8 w' p g s k sh:=⟨Bk.aL h.pa hb,Bk.aL h.rr hb,h.le⟩
theorem b8.drew {w:World}{p g:Nat}{s:ByteArray}{k:Nat}{sh:Bool}(h:b8 w p g s k sh):b8 w.drew p g s k sh:=⟨h.pa,h.rr,h.le⟩
def cT (U A todo:List Bool)(k:Nat)(sh:Bool):Prop:=(sh=false->fu U A todo k)/\(sh=true->A.length<U.length)
theorem cT.live {U A todo:List Bool}{k:Nat}(h:fu U A todo k):cT U A todo k false:=⟨λ _=>h,nofun⟩
theorem cT.dead {U A todo:List Bool}{k:Nat}(h:A.length<U.length):cT U A todo k true:=⟨nofun,λ _=>h⟩
abbrev eV (w w':World)(p g:Nat):Prop:=PW w w' p (some g) (some g)
theorem eV.sJ {w w':World}{p g:Nat}(h:w.grownBy w' (some g)):eV w w' p g:=⟨h.os,h.tape,h.output,h.size,λ k hk _ bI=>h.block k hk bI,.inl rfl⟩
theorem eV.Dy {w w':World}{p g:Nat}(h:w.grownBy w' (some p)):eV w w' p g:=⟨h.os,h.tape,h.output,h.size,λ k hk bI _=>h.block k hk (by simp;exact bI),.inl rfl⟩
theorem dA.ly {w w':World}{t p g:Nat}{ls:List Nat}{s:ByteArray}{k:Nat}{sh:Bool}(h:dA w t ls)(hP:b8 w p g s k sh)(hw:eV w w' p g):dA w' t ls:=by
 obtain⟨v,hT,ho⟩:=h;refine⟨v,hT.pw (iK hT hP.pa aA) (λ e=>iK hT hP.rr aA (cG e)) hw,Dw ho λ k hk=>hw.block k (ho.lt k hk).2 (λ e=>fx ho hP.pa aA (by rw[hk,e])) (λ e=>fx ho hP.rr aA (by rw[hk,cG e]))⟩
theorem amC (p g:Nat)(sh:Bool)(w:World)(h:pV w p g sh):Calls Tryz.prog 90 #[.pointer (some ⟨p,0,none⟩)] w λ e w'=>e= .returned (.bool (!sh))/\w=w':=by
 have c1:=Bk.cell_ h 1 _ rfl;have c2:=Bk.cell_ h 2 _ rfl;clear h
 cases sh
 all_goals
  go_enter Tryz.func90,Tryz.ntmps90
  go_wp2_with fail
  go_ret
  exact⟨rfl,rfl⟩
theorem dM (p g:Nat)(sh:Bool)(b:Bool)(hb:(!sh)=b)(w:World)(h:pV w p g sh):Calls Tryz.prog 90 #[.pointer (some ⟨p,0,none⟩)] w λ e w'=>e= .returned (.bool b)/\w=w':=by
 subst hb;exact amC p g sh w h
theorem amD (p g:Nat)(w:World)(h:pV w p g true):Calls Tryz.prog 95 #[.pointer (some ⟨p,0,none⟩)] w λ e w'=>e= .returned (.tuple #[])/\w=w':=by
 have HP:=ae h;clear h;go_enter Tryz.func95,Tryz.ntmps95;go_wp2_with (go_at_call 90;go_must (refine(dM p g true false rfl _ HP.out).mono ?_);rintro e w1 ⟨rfl,rfl⟩);exact eY (eQ rfl _ _ _) rfl ⟨rfl,rfl⟩
def AY (w:World)(p g:Nat)(s:ByteArray)(U todo:List Bool)(v most:Nat)(sh:Bool)(e:Ending)(w':World):Prop:=
 ∃(x k':Nat) (dB:Bool),e= .returned (.int .i64 (x:Nat))/\x<=most/\(dB=false->sh=false/\x=v)/\(dB=true->x=0)/\b8 w' p g s k' dB/\cT U (bH s.toList) todo k' dB/\eV w w' p g
theorem FI (U todo:List Bool)(v m most k p g:Nat)(sh:Bool)(s:ByteArray)(hs:s.size<=1000000000)(hm:m<=62)(hv:v<2^m)(kS:2^m<=most+1)(w:World)(hP:b8 w p g s k sh)(hS:cT U (bH s.toList) (aH v m++todo) k sh):
 Calls Tryz.prog 47 #[.pointer (some ⟨p,0,none⟩),.int .i64 (m:Nat)] w (AY w p g s U todo v most sh):=by
 have HP:=ae hP;have HS:=ae hS;have amE:v<=most:=aa;have cS:=ae (show(bH s.toList).length=8*s.size by rw[pP,aD])
 cases sh with
 |true=>
  clear hP hS kS hv;go_enter Tryz.func47,Tryz.ntmps47;go_wp2_with (go_at_call 90;go_must (refine(dM p g true false rfl _ HP.out.pa).mono ?_);rintro e w1 ⟨rfl,rfl⟩);go_ret;exact⟨0,k,true,rfl,aa,nofun,λ _=>rfl,HP.out,cT.dead (HS.out.2 rfl),PW.refl⟩
 |false=>
  have hA:=hS.1 rfl;have c0:=Bk.cell_ hP.pa 0 _ rfl;have c1:=Bk.cell_ hP.pa 1 _ rfl;have f1:=Bk.frozen hP.pa 1;have vA:=hP.ne;by_cases hk:k+m<=8*s.size
  ·obtain⟨hn,AZ⟩:=hA.num hv (by rw[cS.out];exact hk);have HN:=ae (af hn AZ);have HK:=ae hk;have sK:=ae vA;clear hP hS hA hn AZ kS hv hk vA;go_enter Tryz.func47,Tryz.ntmps47;go_wp2_with (first|(go_at_call 90;go_must (refine(dM p g false true rfl _ HP.out.pa).mono ?_);rintro e w1 ⟨rfl,rfl⟩)|(go_at_call 91;go_must (refine(Rq g s k m _ HP.out.rr hs hm HK.out).mono ?_);rintro e w1 ⟨rfl,gN,im⟩;rw[HN.out.1];have cN:pV w1 p g false:=(im.block p (Bk.lt HP.out.pa) (by simp;exact sK.out)).trans HP.out.pa;have d1:=Bk.cell_ cN 1 _ rfl;have e1:=Bk.frozen cN 1));go_ret;refine⟨v,k+m,false,rfl,amE,λ _=>⟨rfl,rfl⟩,nofun,⟨?_,Bk.far gN (by simp;exact λ e=>sK.out e.symm) _,HK.out⟩,cT.live HN.out.2,(eV.sJ im).trans (eV.Dy (aY w1 p 1 _))⟩;exact Bk.aP cN 1 (.bool false)
  ·have iL:=hA.ahw (by rw[cS.out];omega);have jN:=ae iL;have HK:=ae hk;clear hP hS hA iL kS hv hk vA;go_enter Tryz.func47,Tryz.ntmps47;go_wp2_with (first|(go_at_call 90;go_must (refine(dM p g false true rfl _ HP.out.pa).mono ?_);rintro e w1 ⟨rfl,rfl⟩)|(go_at_call 91;go_must (refine(ZS g s k m _ HP.out.rr hs HP.out.le hm (by have:=HK.out;omega)).mono ?_);rintro e w1 ⟨rfl,au⟩;have cN:=HP.out.below au;have d1:=Bk.cell_ cN.pa 1 _ rfl;have e1:=Bk.frozen cN.pa 1));go_ret;refine⟨0,k,true,rfl,aa,nofun,λ _=>rfl,⟨?_,Bk.far cN.rr (by simp;exact λ e=>cN.ne e.symm) _,cN.le⟩,cT.dead jN.out,(PW.pQ au).trans (eV.Dy (aY w1 p 1 _))⟩;exact Bk.aP cN.pa 1 (.bool true)
theorem amF {α:Type}{l:List α}{n m:Nat}(hn:n<=l.length)(hm:m<=l.length)(h:l.drop n=l.drop m):n=m:=by
 have:=congrArg List.length h;rw[cw,cw]at this;omega
theorem IQ (U todo:List Bool)(ls:List Nat)(sy k p g t:Nat)(sh:Bool)(s:ByteArray)(hs:s.size<=1000000000)(hl:ls.length<=320)(hg:dh ls)(nX:sy<ls.length)(h1:0<ls.getD sy 0)(w:World)(hT:sh=false->dA w t ls)(hP:b8 w p g s k sh)(hS:cT U (bH s.toList) (bW ls sy++todo) k sh):
 Calls Tryz.prog 92 #[.pointer (some ⟨p,0,none⟩),.pointer (some ⟨t,0,none⟩)] w (AY w p g s U todo sy 320 sh):=by
 have HP:=ae hP;have HS:=ae hS;have jW:sy<=320:=aa;have cq:(bH s.toList).length=8*s.size:=by rw[pP,aD]
 have cS:=ae cq
 cases sh with
 |true=>
  clear hP hS hT cq hg h1 nX hl;go_enter Tryz.func92,Tryz.ntmps92;go_wp2_with (go_at_call 90;go_must (refine(dM p g true false rfl _ HP.out.pa).mono ?_);rintro e w1 ⟨rfl,rfl⟩);go_ret;exact⟨0,k,true,rfl,aa,nofun,λ _=>rfl,HP.out,cT.dead (HS.out.2 rfl),PW.refl⟩
 |false=>
  have hA:=hS.1 rfl;have HT:=ae (hT rfl);have c0:=Bk.cell_ hP.pa 0 _ rfl;have f1:=Bk.frozen hP.pa 1;have f2:=Bk.frozen hP.pa 2;have sK:=ae hP.ne;have Rv:k<=8*s.size:=hP.le;by_cases hk:k+(bW ls sy).length<=8*s.size
  ·obtain⟨hd,AZ⟩:=hA.sym hg nX h1 (by rw[cq];exact hk);have HN:=ae AZ;have HK:=ae hk
   have M6:Hid (∀w',dA w' t ls->jM w' g s k->Calls Tryz.prog 147 #[.pointer (some ⟨t,0,none⟩),.pointer (some ⟨g,0,none⟩)] w' (Rr w' t g ls s (k+(bW ls sy).length) (sy:Nat) 0)):=
    ae λ w' h1 h2=>ZZ ls hl s hs t g k (k+(bW ls sy).length) _ (sy:Nat) 0 Rv hd (λ x hx=>by
     have e:=cG hx;subst e;exact⟨rfl,rfl,λ n hn he=>(amF (by rw[cq];exact hk) (by rw[cq];exact hn) he).symm⟩) (λ h=>(by cases h)) w' h1 h2
   generalize(bW ls sy).length=q at*;clear hP hS hA AZ hd hT cq hg h1 nX hl hk;go_enter Tryz.func92,Tryz.ntmps92;go_wp2_with (first|(go_at_call 90;go_must (refine(dM p g false true rfl _ HP.out.pa).mono ?_);rintro e w1 ⟨rfl,rfl⟩)|(go_at_call 50;go_must (refine(MZ g s k _ HP.out.rr).mono ?_);rintro e w1 ⟨rfl,rfl⟩)|(go_at_call 147;go_must (refine(M6.out _ HT.out HP.out.rr).mono ?_);rintro e w1 ⟨rfl,gN,qW,im⟩;have cN:pV w1 p g false:=(im.block p (Bk.lt HP.out.pa) (by simp;exact sK.out)).trans HP.out.pa;have d2:=Bk.cell_ cN 2 _ rfl;have e2:=Bk.frozen cN 2));go_ret;refine⟨sy,k+q,false,rfl,jW,λ _=>⟨rfl,rfl⟩,nofun,⟨?_,Bk.far gN (by simp;exact λ e=>sK.out e.symm) _,HK.out⟩,cT.live HN.out,(eV.sJ im).trans (eV.Dy (aY w1 p 2 _))⟩;exact Bk.aP cN 2 (.int .i64 0)
  ·obtain⟨hd,Dj,iL⟩:=hA.ahx hg nX h1 (by rw[cq];omega);rw[cw,cq]at Dj;have jN:=ae iL
   have M6:Hid (∀w',dA w' t ls->jM w' g s k->Calls Tryz.prog 147 #[.pointer (some ⟨t,0,none⟩),.pointer (some ⟨g,0,none⟩)] w' (Rr w' t g ls s (8*s.size) 0 2)):=
    ae λ w' h1 h2=>ZZ ls hl s hs t g k (8*s.size) none 0 2 Rv hd (λ x hx=>(by cases hx)) (λ _=>⟨rfl,rfl,rfl,aa⟩) w' h1 h2
   obtain⟨z,hz⟩:∃z,8*s.size=z:=⟨_,rfl⟩;have auT:(z:Int)-(k:Int)<15:=aa;have Dz:z<=8000000000:=aa;rw[hz]at M6 Rv;have HZ:=ae hz;clear hP hS hA iL hd hT cq hg h1 nX hl hk hz;go_enter Tryz.func92,Tryz.ntmps92;go_wp2_with (first|(go_at_call 90;go_must (refine(dM p g false true rfl _ HP.out.pa).mono ?_);rintro e w1 ⟨rfl,rfl⟩)|(go_at_call 50;go_must (first|(refine(MZ g s k _ HP.out.rr).mono ?_)|(refine(MZ g s z _ gN).mono ?_));rintro e w2 ⟨rfl,rfl⟩)|(go_at_call 147;go_must (refine(M6.out _ HT.out HP.out.rr).mono ?_);rintro e w1 ⟨rfl,gN,qW,im⟩;have cN:pV w1 p g false:=(im.block p (Bk.lt HP.out.pa) (by simp;exact sK.out)).trans HP.out.pa;have d0:=Bk.cell_ cN 0 _ rfl;have d1:=Bk.cell_ cN 1 _ rfl;have e1:=Bk.frozen cN 1));go_ret;refine⟨0,z,true,rfl,aa,nofun,λ _=>rfl,⟨?_,Bk.far gN (by simp;exact λ e=>sK.out e.symm) _,by have:=HZ.out;omega⟩,cT.dead jN.out,(eV.sJ im).trans (eV.Dy (aY w1 p 1 _))⟩;exact Bk.aP cN 1 (.bool true)
def FJ (w:World)(p g:Nat)(s:ByteArray)(U todo:List Bool)(v most:Nat)(sh:Bool)(e:Ending)(w':World):Prop:=
 ∃(x k':Nat) (dB:Bool),e= .returned (.int .i64 (x:Nat))/\x<=most/\(dB=false->sh=false/\x=v)/\b8 w' p g s k' dB/\cT U (bH s.toList) todo k' dB/\eV w w' p g
theorem amG (U todo:List Bool)(sy eb base v k p g:Nat)(s:ByteArray)(hs:s.size<=1000000000)(amH:257<=sy)(ahl:sy<=285)(ao:CW sy=(eb,base))(hv:v<2^eb)(w:World)(hP:b8 w p g s k false)(hS:cT U (bH s.toList) (aH v eb++todo) k false):
 Calls Tryz.prog 93 #[.pointer (some ⟨p,0,none⟩),.int .i64 (sy:Nat)] w (FJ w p g s U todo (base+v) 100000 false):=by
 unfold CW at ao;by_cases h1:sy<265
 ·rw[if_pos h1]at ao;obtain⟨rfl,rfl⟩:=Prod.mk.inj ao;have vB:v=0:=aa;subst vB;have HP:=ae hP;have HS:=ae hS;have Rw:(sy:Int)<265:=aa;clear hP hS ao hv h1;go_enter Tryz.func93,Tryz.ntmps93;go_wp2_with fail;go_ret;exact⟨sy-254,k,false,KD aa,aa,λ _=>⟨rfl,rfl⟩,HP.out,HS.out,PW.refl⟩
 ·rw[if_neg h1]at ao;by_cases h2:sy=285
  ·rw[if_pos h2]at ao;obtain⟨rfl,rfl⟩:=Prod.mk.inj ao;have vB:v=0:=aa;subst vB h2;have HP:=ae hP;have HS:=ae hS;clear hP hS ao hv h1;go_enter Tryz.func93,Tryz.ntmps93;go_wp2_with fail;go_ret;exact⟨258,k,false,rfl,aa,λ _=>⟨rfl,rfl⟩,HP.out,HS.out,PW.refl⟩
  ·rw[if_neg h2]at ao;obtain⟨he,hb⟩:=Prod.mk.inj ao;have nY:eb<=5:=aa;rw[he]at hb;obtain⟨r,hr⟩:∃r,(sy-265)%4=r:=⟨_,rfl⟩;rw[hr]at hb;have fK:r<4:=aa;have vC:=px (n:=2) aa nY;rw[show 2^5=32 from rfl]at vC
   have my:Hid (∀w',b8 w' p g s k false->Calls Tryz.prog 47 #[.pointer (some ⟨p,0,none⟩),.int .i64 (eb:Nat)] w' (AY w' p g s U todo v 1000 false)):=
    ae λ w' h=>FI U todo v eb 1000 k p g false s hs aa hv aa w' h hS
   have Rw:¬(sy:Int)<265:=aa;have amI:((sy:Int)==285)=false:=by simp;omega
   have Rx:¬(285:Int)<(sy:Int):=aa;have vp:((sy:Int)-261)/4=(eb:Int):=aa;have Dv:((sy:Int)-265)%4=(r:Int):=aa;have hmul:(4+r)*2^eb<=7*32:=yf aa vC;obtain⟨q,hq⟩:∃q,(4+r)*2^eb=q:=⟨_,rfl⟩;have tW:(4+(r:Int))*2^eb=(q:Int):=by rw[<-hq];push_cast;rfl
   rw[hq]at hb hmul;have amJ:(eb:Int)<64:=aa;have HB:=ae hb;have HP:=ae hP;obtain⟨d,hd⟩:∃d,sy-265=d:=⟨_,rfl⟩;have m1:IntKind.i64.wrap ((sy:Int)-265)=(d:Int):=by rw[aE];omega
   have m2:(d:Int).tmod 4=(r:Int):=by rw[EC aa];omega
   have m3:IntKind.i64.wrap (4+(r:Int))=4+(r:Int):=by rw[aE];omega
   have m4:IntKind.i64.wrap ((4+(r:Int))*2^eb)=(q:Int):=by rw[tW,aE];omega
   have m5:IntKind.i64.wrap (3+(q:Int))=3+(q:Int):=by rw[aE];omega
   clear hP hS ao hv h1 h2 he hb hr hq hd tW Dv;go_enter Tryz.func93,Tryz.ntmps93;go_wp2_with fail;go_region_with (go_at_call 47;go_must (refine(my.out _ HP.out.drew).mono ?_);rintro e w1 ⟨x,k',dB,rfl,hx,eM,dN,cY,kv,eC⟩)
   all_goals
    go_wp2_with fail
    go_ret
    refine⟨3+q+x,k',dB,KD (by rw[aE];omega),aa,λ h=>⟨rfl,?_⟩,cY,kv,(PW.drew w p _).trans eC⟩
    rw[(eM h).2,<-HB.out]
theorem amK (U todo:List Bool)(v k p g:Nat)(s:ByteArray)(w:World)(hP:b8 w p g s k true)(hS:cT U (bH s.toList) todo k true):
 Calls Tryz.prog 94 #[.pointer (some ⟨p,0,none⟩),.int .i64 ((0:Nat))] w (FJ w p g s U todo v 100000 true):=by
 have HP:=ae hP;have HS:=ae hS;clear hP hS;go_enter Tryz.func94,Tryz.ntmps94;go_wp2_with fail;go_ret;exact⟨1,k,true,rfl,aa,nofun,HP.out,HS.out,PW.refl⟩
theorem amL (U todo:List Bool)(sy eb base v k p g:Nat)(s:ByteArray)(hs:s.size<=1000000000)(Z5:sy<30)(ao:Aj sy=(eb,base))(hv:v<2^eb)(w:World)(hP:b8 w p g s k false)(hS:cT U (bH s.toList) (aH v eb++todo) k false):
 Calls Tryz.prog 94 #[.pointer (some ⟨p,0,none⟩),.int .i64 (sy:Nat)] w (FJ w p g s U todo (base+v) 100000 false):=by
 unfold Aj at ao;by_cases h1:sy<4
 ·rw[if_pos h1]at ao;obtain⟨rfl,rfl⟩:=Prod.mk.inj ao;have vB:v=0:=aa;subst vB;have HP:=ae hP;have HS:=ae hS;have Rw:(sy:Int)<4:=aa;clear hP hS ao hv h1;go_enter Tryz.func94,Tryz.ntmps94;go_wp2_with fail;go_ret;exact⟨sy+1,k,false,KD aa,aa,λ _=>⟨rfl,rfl⟩,HP.out,HS.out,PW.refl⟩
 ·rw[if_neg h1]at ao;obtain⟨he,hb⟩:=Prod.mk.inj ao;have nY:eb<=13:=aa;rw[he]at hb;obtain⟨r,hr⟩:∃r,sy%2=r:=⟨_,rfl⟩;rw[hr]at hb;have fK:r<2:=aa;have vC:=px (n:=2) aa nY;rw[show 2^13=8192 from rfl]at vC
  have my:Hid (∀w',b8 w' p g s k false->Calls Tryz.prog 47 #[.pointer (some ⟨p,0,none⟩),.int .i64 (eb:Nat)] w' (AY w' p g s U todo v 10000 false)):=
   ae λ w' h=>FI U todo v eb 10000 k p g false s hs aa hv aa w' h hS
  have Rw:¬(sy:Int)<4:=aa;have Rx:¬(29:Int)<(sy:Int):=aa;have vp:((sy:Int)-2)/2=(eb:Int):=aa;have hmul:(2+r)*2^eb<=3*8192:=yf aa vC;obtain⟨q,hq⟩:∃q,(2+r)*2^eb=q:=⟨_,rfl⟩;have tW:(2+(r:Int))*2^eb=(q:Int):=by rw[<-hq];push_cast;rfl
  rw[hq]at hb hmul;have amJ:(eb:Int)<64:=aa;have HB:=ae hb;have HP:=ae hP;have m2:(sy:Int).tmod 2=(r:Int):=by rw[EC aa];omega
  have m3:IntKind.i64.wrap (2+(r:Int))=2+(r:Int):=by rw[aE];omega
  have m4:IntKind.i64.wrap ((2+(r:Int))*2^eb)=(q:Int):=by rw[tW,aE];omega
  have m5:IntKind.i64.wrap (1+(q:Int))=1+(q:Int):=by rw[aE];omega
  clear hP hS ao hv h1 he hb hr hq tW;go_enter Tryz.func94,Tryz.ntmps94;go_wp2_with fail;go_region_with (go_at_call 47;go_must (refine(my.out _ HP.out.drew).mono ?_);rintro e w1 ⟨x,k',dB,rfl,hx,eM,dN,cY,kv,eC⟩)
  all_goals
   go_wp2_with fail
   go_ret
   refine⟨1+q+x,k',dB,KD (by rw[aE];omega),aa,λ h=>⟨rfl,?_⟩,cY,kv,(PW.drew w p _).trans eC⟩
   rw[(eM h).2,<-HB.out]
end
section
open Go.RowKit
structure KX (X:Nat->Prop)(w w':World):Prop where
 os:w'.os=w.os
 tape:w'.tape=w.tape
 output:w'.output=w.output
 size:w.heap.size<=w'.heap.size
 block:∀k,k<w.heap.size->¬X k->w'.heap[k]? =w.heap[k]?
section
variable {w w' bO:World} {X Y:Nat->Prop}
theorem KX.refl:KX X w w:=⟨rfl,rfl,rfl,ai _,λ _ _ _=>rfl⟩
theorem KX.pQ (h:Below w.heap.size w w'):KX X w w':=⟨h.os,h.tape,h.output,h.size,λ k hk _=>h.block k hk⟩
theorem KX.Z6 {g:Nat}{r r':Option Nat}(h:PW w w' g r r')(hx:∀k,k=g∨some k=r->X k):KX X w w':=
 ⟨h.os,h.tape,h.output,h.size,λ k hk hn=>h.block k hk (λ e=>hn (hx k (.inl e))) (λ e=>hn (hx k (.inr e)))⟩
theorem KX.sJ {g:Nat}(h:w.grownBy w' (some g))(hx:X g):KX X w w':=⟨h.os,h.tape,h.output,h.size,λ k hk hn=>h.block k hk (λ e=>hn (cG e▸hx))⟩
theorem KX.pR (w:World)(g i:Nat)(u:Value)(hx:X g):KX X w (w.setCell ⟨g,i,none⟩ u):=KX.sJ (aY w g i u) hx
theorem KX.drew (w:World):KX X w w.drew:=⟨rfl,rfl,rfl,ai _,λ _ _ _=>rfl⟩
theorem KX.trans (h:KX X w w')(h2:KX Y w' bO)(hx:∀k,k<w.heap.size->Y k->X k):KX X w bO:=
 ⟨h2.os.trans h.os,h2.tape.trans h.tape,h2.output.trans h.output,b_ h.size h2.size,λ k hk hn=>(h2.block k (ur hk h.size) (λ e=>hn (hx k hk e))).trans (h.block k hk hn)⟩
theorem KX.mono (h:KX X w w')(hx:∀k,k<w.heap.size->X k->Y k):KX Y w w':=⟨h.os,h.tape,h.output,h.size,λ k hk hn=>h.block k hk λ e=>hn (hx k hk e)⟩
theorem KX.below {B:Nat}(h:KX X w w')(hB:B<=w.heap.size)(hx:∀k,X k->B<=k):Below B w w':=⟨h.os,h.tape,h.output,h.size,λ k hk=>h.block k aa (λ e=>by have:=hx k e;omega)⟩
theorem Bk.kx {k:Nat}{t:TypeId}{cs:Array Value}(h:Bk w k t cs)(hk:KX X w w')(hn:¬X k):Bk w' k t cs:=(hk.block k h.lt hn).trans h
theorem FK {B size n:Nat}{e:TypeId}{v:Value}{xs:List Value}(h:w.ownsRow B e size v n xs)(hk:KX X w w')(hn:∀k,v.ownBlock=some k->¬X k):w'.ownsRow B e size v n xs:=Dw h λ k bI=>hk.block k (h.lt k bI).2 (hn k bI)
theorem Rd.kx {A:Option Addr}{xs:List Value}(h:Rd w A xs)(hk:KX X w w')(hn:∀ad,A=some ad->¬X ad.block):Rd w' A xs:=λ aS=>by
 obtain⟨b,o,e,hc⟩:=h aS;refine⟨b,o,e,λ j u hj=>?_⟩;have sF:=hc j u hj;have ao:=cQ w _ sF;have hb:=hk.block b ao (hn _ e);simp only[World.cell?]at sF⊢;rw[hb];exact sF
end
theorem amM {P:Program}{ops:Array Oper}{o:Oper}{a:Act}{w:World}{K:Act->World->Prop}{Q:Exit->Act->World->Prop}{E:Prop}(d_:o.guard=none)(s x:Operand)(t:TypeId)
 (ho:o.op= .call {callee:=.builtin .append,args:=#[s,x],argTypes:=#[t,t]})
 (e:TypeId)(size bytes:Nat)(jF:El P t e size bytes)
 (v:Value)(n:Nat)(xs:List Value)(aw:w.ownsRow 0 e size v n xs)(hs:a.eval s=v)(C:Array Value)(ad:Addr)
 (hx:a.eval x= .slice (some ad) 1 1)(eT:∀j u,C.toList[j]? =some u->w.cell? (ad.add j)=some u)(hC:C.size=size)(h1:∀u∈C.toList,u.oneCell'=true)
 (kh:n+1<=maxLen)(iQ:(n+1)*bytes<=140737488355328)
 (h:∀g' cap w',w'.ownsRow 0 e size (.slice (some ⟨g',0,none⟩) (n+1) cap) (n+1) (xs++C.toList)->(∀g,PW w w' g v.ownBlock (some g'))->g'<w'.heap.size->K (a.put o.dst (.slice (some ⟨g',0,none⟩) (n+1) cap)) w'):
 if Region.wanted o (yielded ops a.tmps)=true then Oper.wp P o a w K Q else E:=by
 obtain⟨ht,aG,i,z,hi,hz,lE,nH,lh⟩:=jF;refine step_append_lies w d_ s x t ho 0 e i z size bytes ht hi hz lE nH lh aG v n xs hs aw ad 1 1 C.toList hx (by simp[hC]) eT h1 aa kh iQ (gV _) _ rfl ?_;intro g' cap w' h2 h3 h4 h5;refine h g' cap w' h2 (λ g=>⟨h3.os,h3.tape,h3.output,h3.size,λ k hk _ hr=>h3.block k hk hr,?_⟩) h5;rcases h4 with h4|h4
 ·exact .inl h4.symm
 ·exact .inr ⟨g',rfl,by rw[h4];exact ai _⟩
def bv (l:List Nat):List Value:=l.map λ x=>Value.int .u8 (x:Nat)
theorem amN (l:List Nat):(bv l).length=l.length:=by unfold bv;rw[eG]
theorem amO (l:List Nat)(x:Nat):bv (l++[x])=bv l++[.int .u8 (x:Nat)]:=by unfold bv;rw[ka];rfl
theorem amP (l:List Nat)(i:Nat)(h:i<l.length):(bv l)[i]? =some (.int .u8 (l.getD i 0:Nat)):=by
 unfold bv;rw[eH,a_,aZ h];rfl
structure Rs where
 buf:ByteArray
 bit:Nat
 used:Nat
 out:List Nat
 most:Nat
 told:Nat
 inside:Bool
 last:Bool
 lv:Value
 dv:Value
 done:Bool
def Rs.row (S:Rs)(v:Value):Array Value:=#[.string S.buf,.int .i64 (S.bit:Nat),.int .i64 (S.used:Nat),v,.int .i64 (S.most:Nat),.int .i64 (S.told:Nat),.bool S.inside,.bool S.last,S.lv,S.dv,.int .i64 0,.bool S.done]
def eD (w:World)(b:Nat)(r:Option Nat)(S:Rs):Prop:=∃v,Bk w b 90 (S.row v)/\w.ownsRow 0 5 1 v S.out.length (bv S.out)/\v.ownBlock=r
section
variable {w w':World} {b:Nat} {r:Option Nat} {S:Rs}
theorem eD.same (h:eD w b r S)(hb:w'.heap[b]? =w.heap[b]?)(hr:∀k,r=some k->w'.heap[k]? =w.heap[k]?):eD w' b r S:=by
 obtain⟨v,h1,h2,h3⟩:=h;exact⟨v,hb.trans h1,Dw h2 λ k hk=>hr k (by rw[<-h3];exact hk),h3⟩
theorem eD.lt (h:eD w b r S):b<w.heap.size/\∀k,r=some k->k<w.heap.size:=by
 obtain⟨v,h1,h2,h3⟩:=h;exact⟨h1.lt,λ k hk=>(h2.lt k (h3.trans hk)).2⟩
theorem eD.below (h:eD w b r S)(hb:Below w.heap.size w w'):eD w' b r S:=h.same (hb.block b h.lt.1) λ k hk=>hb.block k (h.lt.2 k hk)
theorem eD.drew (h:eD w b r S):eD w.drew b r S:=h.same rfl λ _ _=>rfl
theorem eD.ly {p g:Nat}{s:ByteArray}{k:Nat}{sh:Bool}(h:eD w b r S)(hP:b8 w p g s k sh)(hw:eV w w' p g):eD w' b r S:=by
 have h0:=h;obtain⟨v,h1,h2,h3⟩:=h;refine h0.same (hw.block b h1.lt (iK h1 hP.pa aA) (λ e=>iK h1 hP.rr aA (cG e))) λ j hj=>?_;have Ry:v.ownBlock=some j:=h3.trans hj;exact hw.block j (h2.lt j Ry).2 (λ e=>fx h2 hP.pa aA (by rw[Ry,e])) (λ e=>fx h2 hP.rr aA (by rw[Ry,cG e]))
end
def X4 (p g b:Nat)(r:Option Nat):Nat->Prop:=λ k=>k=p∨k=g∨k=b∨some k=r
theorem KX.nh {w w':World}{p g b:Nat}{r:Option Nat}(h:eV w w' p g):KX (X4 p g b r) w w':=KX.Z6 h λ k hk=>by
 rcases hk with h|h
 ·exact .inl h
 ·exact .inr (.inl (cG h))
def M7 (w:World)(p g b:Nat)(r:Option Nat)(s:ByteArray)(U:List Bool)(S S':Rs)(e:Ending)(w':World):Prop:=
 ∃(k':Nat) (dB:Bool) (r':Option Nat),e= .returned (.tuple #[])/\b8 w' p g s k' dB/\cT U (bH s.toList) [] k' dB/\eD w' b r' (if dB then S else S')/\KX (X4 p g b r) w w'/\(r'=r∨∃k,r'=some k/\w.heap.size<=k)
theorem amQ (U:List Bool)(lit:List Nat)(k p g t b:Nat)(r:Option Nat)(S:Rs)(s:ByteArray)(hs:s.size<=1000000000)(hl:lit.length<=320)(hg:dh lit)(nX:256<lit.length)(h1:0<lit.getD 256 0)(vD:S.lv= .pointer (some ⟨t,0,none⟩))(w:World)(hT:dA w t lit)(hP:b8 w p g s k false)(hR:eD w b r S)(hS:cT U (bH s.toList) (bW lit 256) k false):
 Calls Tryz.prog 48 #[.pointer (some ⟨b,0,none⟩),.pointer (some ⟨p,0,none⟩)] w (M7 w p g b r s U S {S with inside:=false}):=by
 have jO:Hid (Calls Tryz.prog 92 #[.pointer (some ⟨p,0,none⟩),.pointer (some ⟨t,0,none⟩)] w (AY w p g s U [] 256 320 false)):=
  ae (IQ U [] lit 256 k p g t false s hs hl hg nX h1 w (λ _=>hT) hP (by rw[bV];exact hS))
 have HR:=ae hR;have HP:=ae hP;have qE:=hR;obtain⟨v,hB,aw,cK⟩:=qE;have c8:=hB.cell_ 8 S.lv rfl;rw[vD]at c8;clear hT hP hR hS hg h1 nX hl hB aw cK;go_enter Tryz.func48,Tryz.ntmps48;go_wp2_with fail;(with_reducible refine jO.out.mono ?_);rintro e w1 ⟨x,k',dB,rfl,hx,eM,dN,cY,kv,eC⟩;have iu:=ae (HR.out.ly HP.out eC);have HX:=ae (af eM (af dN (af cY (af kv eC))));clear eM dN cY kv eC c8
 cases dB with
 |true=>
  go_wp2_with (go_at_call 90;go_must (refine(dM p g true false rfl _ HX.out.2.2.1.pa).mono ?_);rintro e w2 ⟨rfl,rfl⟩);exact eY (eQ rfl _ _ _) rfl ⟨k',true,r,rfl,HX.out.2.2.1,HX.out.2.2.2.1,iu.out,KX.nh HX.out.2.2.2.2,.inl rfl⟩
 |false=>
  obtain rfl:x=256:=(HX.out.1 rfl).2;obtain⟨v,hB,aw,cK⟩:=iu.out;have c6:=hB.cell_ 6 (.bool S.inside) rfl;have f6:=hB.frozen 6;have cC:=hB.aP 6 (.bool false);have bG:=ae (af cC (af aw cK));clear hB aw cK cC;go_wp2_with (go_at_call 90;go_must (refine(dM p g false true rfl _ HX.out.2.2.1.pa).mono ?_);rintro e w2 ⟨rfl,rfl⟩);have sL:p≠b:=iK HX.out.2.2.1.pa (show Bk w1 b _ _ from iu.out.choose_spec.1) aA;have fc:g≠b:=iK HX.out.2.2.1.rr (show Bk w1 b _ _ from iu.out.choose_spec.1) aA;refine eY (eQ rfl _ _ _) rfl ⟨k',false,r,rfl,⟨Bk.far HX.out.2.2.1.pa sL _,Bk.far HX.out.2.2.1.rr fc _,HX.out.2.2.1.le⟩,HX.out.2.2.2.1,⟨v,bG.out.1,?_,bG.out.2.2⟩,(KX.nh HX.out.2.2.2.2).trans (KX.pR (X:=X4 p g b r) w1 b 6 _ (.inr (.inr (.inl rfl)))) λ _ _ h=>h,.inl rfl⟩;exact bG.out.2.1.kept (row:=some b) (aY _ b 6 _) (.inr (fx bG.out.2.1 (show Bk w1 b _ _ from iu.out.choose_spec.1) aA))
end
section
open Go.RowKit
theorem pV.drewN {w:World}{p g:Nat}{sh:Bool}(h:pV w p g sh)(n:Nat):pV (w.drewN n) p g sh:=h
theorem eD.drewN {w:World}{b:Nat}{r:Option Nat}{S:Rs}(h:eD w b r S)(n:Nat):eD (w.drewN n) b r S:=h.same rfl λ _ _=>rfl
theorem b8.drewN {w:World}{p g:Nat}{s:ByteArray}{k:Nat}{sh:Bool}(h:b8 w p g s k sh)(n:Nat):b8 (w.drewN n) p g s k sh:=⟨h.pa,h.rr,h.le⟩
theorem KX.drewN {X:Nat->Prop}(w:World)(n:Nat):KX X w (w.drewN n):=⟨rfl,rfl,rfl,ai _,λ _ _ _=>rfl⟩
theorem eD.cells {w:World}{b:Nat}{r:Option Nat}{S:Rs}(h:eD w b r S):∃A c,w.cell? ⟨b,3,none⟩=some (.slice A S.out.length c)/\S.out.length<=c/\c<=maxLen/\Rd w A (bv S.out)/\Bk w b 90 (S.row (.slice A S.out.length c))/\w.ownsRow 0 5 1 (.slice A S.out.length c) S.out.length (bv S.out)/\(Value.slice A S.out.length c).ownBlock=r:=by
 obtain⟨v,hB,aw,cK⟩:=h;obtain⟨_,A,c,rfl,h1,h2,h3⟩:=Sl.own aw;exact⟨A,c,hB.cell_ 3 _ rfl,h1,h2,h3,hB,aw,cK⟩
theorem Z7 {w w1:World}{p g b g' cap:Nat}{r:Option Nat}{S:Rs}{y:Nat}{A:Option Addr}{c k:Nat}{s:ByteArray}{sh:Bool}(hP:b8 w p g s k sh)(hB:Bk w b 90 (S.row (.slice A S.out.length c)))(aw:w.ownsRow 0 5 1 (.slice A S.out.length c) S.out.length (bv S.out))(hr:(Value.slice A S.out.length c).ownBlock=r)
 (vC:∀g,PW w w1 g (Value.slice A S.out.length c).ownBlock (some g'))(gg:w1.ownsRow 0 5 1 (.slice (some ⟨g',0,none⟩) (S.out.length+1) cap) (S.out.length+1) (bv S.out++[.int .u8 (y:Nat)])):
 Bk w1 b 90 (S.row (.slice A S.out.length c))/\b8 (w1.setCell ⟨b,3,none⟩ (.slice (some ⟨g',0,none⟩) (S.out.length+1) cap)) p g s k sh/\
 eD (w1.setCell ⟨b,3,none⟩ (.slice (some ⟨g',0,none⟩) (S.out.length+1) cap)) b (some g') {S with out:=S.out++[y]}/\KX (X4 p g b r) w (w1.setCell ⟨b,3,none⟩ (.slice (some ⟨g',0,none⟩) (S.out.length+1) cap))/\(some g'=r∨∃k,some g'=some k/\w.heap.size<=k):=by
 have qX:=hB.lt;have Rm:(Value.slice A S.out.length c).ownBlock≠some b:=fx aw hB aA;have sL:p≠b:=iK hP.pa hB aA;have fc:g≠b:=iK hP.rr hB aA;have xG:=vC w.heap.size;have ku:Bk w1 b 90 (S.row (.slice A S.out.length c)):=hB.pw aa (λ e=>Rm e.symm) xG;have oX:=Bk.lt hP.pa;have auU:=Bk.lt hP.rr;have cY:Bk w1 p 101 _:=Bk.pw hP.pa aa (λ e=>fx aw hP.pa aA e.symm) xG;have eN:Bk w1 g 162 _:=Bk.pw hP.rr aa (λ e=>fx aw hP.rr aA e.symm) xG;refine⟨ku,⟨cY.far sL _,eN.far fc _,hP.le⟩,⟨_,ku.aP 3 _,?_,rfl⟩,(KX.Z6 (X:=X4 p g b r) (vC b) (λ k hk=>?_)).trans (KX.pR (X:=X4 p g b r) w1 b 3 _ (.inr (.inr (.inl rfl)))) λ _ _ h=>h,?_⟩
 ·show World.ownsRow _ _ _ _ _ (S.out++[y]).length (bv (S.out++[y]));rw[amO,ag];exact gg.kept (row:=some b) (aY _ b 3 _) (.inr (fx gg ku aA))
 ·rw[hr]at hk;rcases hk with h|h
  ·exact .inr (.inr (.inl h))
  ·exact .inr (.inr (.inr h))
 ·rw[<-hr];exact xG.row
theorem amR (U:List Bool)(lit:List Nat)(y k p g t b:Nat)(r:Option Nat)(S:Rs)(s:ByteArray)(hs:s.size<=1000000000)(hl:lit.length<=320)(hg:dh lit)(hy:y<256)(nX:y<lit.length)(h1:0<lit.getD y 0)(vD:S.lv= .pointer (some ⟨t,0,none⟩))(kS:S.out.length+1<=S.most)(fy:S.most<=1000000000)(w:World)(hT:dA w t lit)(hP:b8 w p g s k false)(hR:eD w b r S)(hS:cT U (bH s.toList) (bW lit y) k false):
 Calls Tryz.prog 48 #[.pointer (some ⟨b,0,none⟩),.pointer (some ⟨p,0,none⟩)] w (M7 w p g b r s U S {S with out:=S.out++[y]}):=by
 have jO:Hid (Calls Tryz.prog 92 #[.pointer (some ⟨p,0,none⟩),.pointer (some ⟨t,0,none⟩)] w (AY w p g s U [] y 320 false)):=
  ae (IQ U [] lit y k p g t false s hs hl hg nX h1 w (λ _=>hT) hP (by rw[bV];exact hS))
 have HR:=ae hR;have HP:=ae hP;have qE:=hR;obtain⟨v,hB,aw,cK⟩:=qE;have c8:=hB.cell_ 8 S.lv rfl;rw[vD]at c8;clear hT hP hR hS hg h1 nX hl hB aw cK vD;go_enter Tryz.func48,Tryz.ntmps48;go_wp2_with fail;(with_reducible refine jO.out.mono ?_);rintro e w1 ⟨x,k',dB,rfl,hx,eM,dN,cY,kv,eC⟩;have iu:=ae (HR.out.ly HP.out eC);have HX:=ae (af eM (af dN (af cY (af kv eC))));clear eM dN cY kv eC c8
 cases dB with
 |true=>
  go_wp2_with (go_at_call 90;go_must (refine(dM p g true false rfl _ HX.out.2.2.1.pa).mono ?_);rintro e w2 ⟨rfl,rfl⟩);exact eY (eQ rfl _ _ _) rfl ⟨k',true,r,rfl,HX.out.2.2.1,HX.out.2.2.2.1,iu.out,KX.nh HX.out.2.2.2.2,.inl rfl⟩
 |false=>
  obtain rfl:x=y:=(HX.out.1 rfl).2;obtain⟨A,c,c3,cR,bT,bY,hB,aw,cK⟩:=iu.out.cells;have c4:=hB.cell_ 4 (.int .i64 (S.most:Nat)) rfl;have f3:=hB.frozen 3;have HB:=ae (af hB (af aw cK));obtain⟨n,hn⟩:∃n,S.out.length=n:=⟨_,rfl⟩;have HN:=ae hn;rw[hn]at c3 cR kS;obtain⟨mo,vE⟩:∃mo,S.most=mo:=⟨_,rfl⟩;rw[vE]at c4 kS fy;have x1:((x:Int)==256)=false:=by simp;omega
  have x2:¬(256:Int)<(x:Int):=aa;have x3:(x:Int)<256:=aa;have n1:¬(n:Int)<0:=aa;have m1:IntKind.i64.wrap ((mo:Int)-(n:Int))=(mo:Int)-(n:Int):=by rw[aE];omega
  have m2:¬(mo:Int)-(n:Int)<1:=aa;clear hB aw cK bY hn vE bT;go_upto_region 10 with(go_at_call 90;go_must (refine(dM p g false true rfl _ HX.out.2.2.1.pa).mono ?_);rintro e w2 ⟨rfl,rfl⟩);go_quiet ((go_at_call 90;exact KE (dM p g false true rfl _ (HX.out.2.2.1.pa.drewN _))));have d3:(w1.drewN nq).cell? ⟨b,3,none⟩=some (.slice A n c):=c3;have e3:(w1.drewN nq).frozen? ⟨b,3,none⟩=false:=f3;have bG:Hid (Bk (w1.drewN nq) b 90 (S.row (.slice A S.out.length c))/\(w1.drewN nq).ownsRow 0 5 1 (.slice A S.out.length c) S.out.length (bv S.out)/\(Value.slice A S.out.length c).ownBlock=r):=ae ⟨HB.out.1,HB.out.2.1,HB.out.2.2⟩;have gm:Hid (b8 (w1.drewN nq) p g s k' false/\cT U (bH s.toList) [] k' false/\KX (X4 p g b r) w (w1.drewN nq)/\w.heap.size<=(w1.drewN nq).heap.size):=ae ⟨HX.out.2.2.1.drewN nq,HX.out.2.2.2.1,(KX.nh HX.out.2.2.2.2).trans (KX.drewN (X:=X4 p g b r) w1 nq) λ _ _ h=>h,HX.out.2.2.2.2.size⟩;clear c3 f3 c4 HB HX iu jO;generalize w1.drewN nq=w2 at*;have amS:w2.ownsRow 0 5 1 (.slice A n c) n (bv S.out):=by have:=bG.out.2.1;rw[HN.out]at this;exact this
  go_wp2_with (first|(go_at_call 90;go_must (refine(dM p g false true rfl _ gm.out.1.pa).mono ?_);rintro e w3 ⟨rfl,rfl⟩)|(at_builtin;go_must (refine Ri _ rfl (.tmp 71) (.tmp 74) 54 rfl 5 1 1 Rh (.slice A n c) n (bv S.out) amS rfl _ rfl rfl (by intro u hu;simp at hu;subst hu;rfl) (by unfold maxLen;omega) aa ?_);intro g' cap w3 fJ Z8 tL;have amT:w3.heap[b]? =w2.heap[b]? :=(Z8 w2.heap.size).block b bG.out.1.lt (by have:=bG.out.1.lt;omega) (by have h:=fx bG.out.2.1 bG.out.1 aA;rw[HN.out]at h;exact λ e=>h e.symm);have bF:Bk w3 b 90 (S.row (.slice A S.out.length c)):=amT.trans bG.out.1;have g3:=bF.cell_ 3 _ rfl;have q3:=bF.frozen 3));have hM:=Z7 (y:=x) gm.out.1 bG.out.1 bG.out.2.1 bG.out.2.2 (by rw[HN.out];exact Z8) (by rw[HN.out];exact fJ);rw[HN.out]at hM;refine eY (eQ rfl _ _ _) rfl ⟨k',false,some g',rfl,hM.2.1,gm.out.2.1,hM.2.2.1,gm.out.2.2.1.trans hM.2.2.2.1 (λ _ _ h=>h),?_⟩;rcases hM.2.2.2.2 with h|⟨j,h,hj⟩
  ·exact .inl h
  ·exact .inr ⟨j,h,b_ gm.out.2.2.2 hj⟩
theorem amU (d n:Nat)(out:List Nat):nL d (n+1) out=nL d n (out++[out.getD (out.length-d) 0]):=rfl
theorem b8.kx {w w':World}{X:Nat->Prop}{p g k:Nat}{s:ByteArray}{sh:Bool}(h:b8 w p g s k sh)(hk:KX X w w')(hp:¬X p)(hg:¬X g):b8 w' p g s k sh:=⟨Bk.kx h.pa hk hp,Bk.kx h.rr hk hg,h.le⟩
theorem amV (U todo:List Bool)(sy x eb base v k p g:Nat)(sh:Bool)(s:ByteArray)(hs:s.size<=1000000000)(Z5:sy<30)(ao:Aj sy=(eb,base))(hv:v<2^eb)(h0:sh=true->x=0)(h1:sh=false->x=sy)(w:World)(hP:b8 w p g s k sh)(hS:cT U (bH s.toList) (aH v eb++todo) k sh):
 Calls Tryz.prog 94 #[.pointer (some ⟨p,0,none⟩),.int .i64 (x:Nat)] w (FJ w p g s U todo (base+v) 100000 sh):=by
 cases sh with
 |true=>
  obtain rfl:=h0 rfl;exact amK U todo (base+v) k p g s w hP (cT.dead (hS.2 rfl))
 |false=>
  obtain rfl:=h1 rfl;exact amL U todo x eb base v k p g s hs Z5 ao hv w hP hS
theorem amW (U:List Bool)(lit aq:List Nat)(ln d k p g t u b:Nat)(r:Option Nat)(S:Rs)(s:ByteArray)(hs:s.size<=1000000000)(hl:lit.length<=320)(hg:dh lit)(cI:aq.length<=320)(dU:dh aq)
 (IU:3<=ln)(Rz:ln<=258)(jT:1<=d)(RA:d<=S.out.length)(fj:d<=4096)(h1:0<lit.getD (dD ln).1 0)(h2:0<aq.getD (dJ d).1 0)(vD:S.lv= .pointer (some ⟨t,0,none⟩))(vp:S.dv= .pointer (some ⟨u,0,none⟩))(kS:S.out.length+ln<=S.most)(fy:S.most<=1000000000)
 (w:World)(hT:dA w t lit)(xH:dA w u aq)(hP:b8 w p g s k false)(hR:eD w b r S)
 (hS:cT U (bH s.toList) (bW lit (dD ln).1++(aH (dD ln).2.2 (dD ln).2.1++(bW aq (dJ d).1++aH (dJ d).2.2 (dJ d).2.1))) k false):
 Calls Tryz.prog 48 #[.pointer (some ⟨b,0,none⟩),.pointer (some ⟨p,0,none⟩)] w (M7 w p g b r s U S {S with out:=nL d ln S.out}):=by
 obtain⟨Mu,Mz,RB,RC,FL,IV⟩:=EX ln IU Rz;obtain⟨RD,RE,RF,FM,IW⟩:=G1 d jT aa;obtain⟨sy,nX⟩:∃x,(dD ln).1=x:=⟨_,rfl⟩;obtain⟨eb,nY⟩:∃x,(dD ln).2.1=x:=⟨_,rfl⟩;obtain⟨ev,M8⟩:∃x,(dD ln).2.2=x:=⟨_,rfl⟩;obtain⟨ds,IX⟩:∃x,(dJ d).1=x:=⟨_,rfl⟩;obtain⟨de,M9⟩:∃x,(dJ d).2.1=x:=⟨_,rfl⟩;obtain⟨dv,M'⟩:∃x,(dJ d).2.2=x:=⟨_,rfl⟩;rw[nX,nY]at RB;rw[nX,M8]at RC;rw[M8,nY]at FL;rw[nX]at Mu Mz h1;rw[IX,M9]at RE;rw[IX,M']at RF;rw[M',M9]at FM;rw[IX]at RD h2;rw[nX,nY,M8,IX,M9,M']at hS
 have jO:Hid (Calls Tryz.prog 92 #[.pointer (some ⟨p,0,none⟩),.pointer (some ⟨t,0,none⟩)] w (AY w p g s U (aH ev eb++(bW aq ds++aH dv de)) sy 320 false)):=
  ae (IQ U _ lit sy k p g t false s hs hl hg (mU h1) h1 w (λ _=>hT) hP hS)
 have A_:Hid (∀w' k',b8 w' p g s k' false->cT U (bH s.toList) (aH ev eb++(bW aq ds++aH dv de)) k' false->Calls Tryz.prog 93 #[.pointer (some ⟨p,0,none⟩),.int .i64 (sy:Nat)] w' (FJ w' p g s U (bW aq ds++aH dv de) ln 100000 false)):=
  ae λ w' k' h1 h2=>by
   have:=amG U _ sy eb (CW sy).2 ev k' p g s hs Mu Mz (by rw[<-RB]) FL w' h1 h2;rwa [RC]at this
 have iM:Hid (∀w' k' sh,dA w' u aq->b8 w' p g s k' sh->cT U (bH s.toList) (bW aq ds++aH dv de) k' sh->Calls Tryz.prog 92 #[.pointer (some ⟨p,0,none⟩),.pointer (some ⟨u,0,none⟩)] w' (AY w' p g s U (aH dv de) ds 320 sh)):=
  ae λ w' k' sh h3 h4 h5=>IQ U _ aq ds k' p g u sh s hs cI dU (mU h2) h2 w' (λ _=>h3) h4 h5
 have Z9:Hid (∀w' k' x sh,(sh=true->x=0)->(sh=false->x=ds)->b8 w' p g s k' sh->cT U (bH s.toList) (aH dv de) k' sh->Calls Tryz.prog 94 #[.pointer (some ⟨p,0,none⟩),.int .i64 (x:Nat)] w' (FJ w' p g s U [] d 100000 sh)):=
  ae λ w' k' x sh h3 h4 h5 h6=>by
   have:=amV U [] ds x de (Aj ds).2 dv k' p g sh s hs RD (by rw[<-RE]) FM h3 h4 w' h5 (by rw[bV];exact h6);rwa [RF]at this
 have HR:=ae hR;have HP:=ae hP;have jX:=ae xH;have qE:=hR;obtain⟨v,hB,aw,cK⟩:=qE;have c8:=hB.cell_ 8 S.lv rfl;rw[vD]at c8;have amX:=ae vp;have x1:((sy:Int)==256)=false:=by simp;omega
 have x2:(256:Int)<(sy:Int):=aa;have x3:¬(sy:Int)<256:=aa;clear hT xH hP hR hS hg dU h1 h2 hl cI hB aw cK vD vp Mu Mz RB RC FL IV RD RE RF FM IW nX nY M8 IX M9 M';go_enter Tryz.func48,Tryz.ntmps48;go_wp2_with fail;(with_reducible refine jO.out.mono ?_);rintro e w1 ⟨x,k1,lQ,rfl,hx,eM,dN,cY,kv,eC⟩;have iu:=ae (HR.out.ly HP.out eC);have xI:=ae (jX.out.ly HP.out eC);have HX:=ae (af eM (af dN (af cY (af kv eC))));clear eM dN cY kv eC c8 jO jX
 cases lQ with
 |true=>
  go_wp2_with (go_at_call 90;go_must (refine(dM p g true false rfl _ HX.out.2.2.1.pa).mono ?_);rintro e w2 ⟨rfl,rfl⟩);exact eY (eQ rfl _ _ _) rfl ⟨k1,true,r,rfl,HX.out.2.2.1,cT.dead (HX.out.2.2.2.1.2 rfl),iu.out,KX.nh HX.out.2.2.2.2,.inl rfl⟩
 |false=>
  obtain rfl:x=sy:=(HX.out.1 rfl).2;go_wp2_with (first|(go_at_call 90;go_must (refine(dM p g false true rfl _ HX.out.2.2.1.pa).mono ?_);rintro e w2 ⟨rfl,rfl⟩));(with_reducible refine(A_.out _ _ HX.out.2.2.1 HX.out.2.2.2.1).mono ?_);rintro e w2 ⟨y,k2,eE,rfl,hy,fN,iw,js,dS⟩;have iN:=ae (iu.out.ly HX.out.2.2.1 dS);have jX:=ae (xI.out.ly HX.out.2.2.1 dS);have gm:=ae (af fN (af iw (af js (HX.out.2.2.2.2.trans dS))))
  have c9:w2.cell? ⟨b,9,none⟩=some (.pointer (some ⟨u,0,none⟩)):=by
   obtain⟨v,hB,_⟩:=iN.out;have:=hB.cell_ 9 S.dv rfl;rwa [amX.out]at this
  clear fN iw js dS iu xI HX;go_wp2_with fail;(with_reducible refine(iM.out _ _ _ jX.out gm.out.2.1 gm.out.2.2.1).mono ?_);rintro e w3 ⟨z,k3,nj,rfl,hz,yZ,qY,Ba,Z',vF⟩;have mA:=ae (iN.out.ly gm.out.2.1 vF);have fA:=ae (af (show nj=false->eE=false/\z=ds from yZ) (af qY (af Ba (af Z' (gm.out.2.2.2.trans vF)))));clear yZ qY Ba Z' vF iN jX c9;go_wp2_with fail;(with_reducible refine(Z9.out _ _ z nj fA.out.2.1 (λ h=>(fA.out.1 h).2) fA.out.2.2.1 fA.out.2.2.2.1).mono ?_);rintro e w4 ⟨q,k4,mB,rfl,hq,FN,tX,gP,pW⟩;have tS:=ae (mA.out.ly fA.out.2.2.1 pW);have jY:=ae (af (show mB=false->y=ln/\q=d from λ h=>⟨(gm.out.1 (fA.out.1 (FN h).1).1).2,(FN h).2⟩) (af tX (af gP (fA.out.2.2.2.2.trans pW))));clear FN tX gP pW mA gm fA iM Z9 A_;obtain⟨A,c,c3,cR,bT,bY,hB,aw,cK⟩:=tS.out.cells;have c4:=hB.cell_ 4 (.int .i64 (S.most:Nat)) rfl;obtain⟨n,hn⟩:∃n,S.out.length=n:=⟨_,rfl⟩;have HN:=ae hn;rw[hn]at c3 cR kS RA
  obtain⟨mo,vE⟩:∃mo,S.most=mo:=⟨_,rfl⟩;rw[vE]at c4 kS fy;have auV:=ae vE;clear hB aw cK bY hn vE bT
  cases mB with
  |true=>
   by_cases Rj:(n:Int)<(q:Int)
   all_goals
    go_upto_region 10 with(first|(go_at_call 95;go_must (refine(amD p g _ jY.out.2.1.pa).mono ?_);rintro e w5 ⟨rfl,rfl⟩))
    go_quiet ((go_at_call 90;exact KE (dM p g true false rfl _ (jY.out.2.1.pa.drewN _))))
    go_wp2_with (go_at_call 90;go_must (refine(dM p g true false rfl _ (jY.out.2.1.pa.drewN _)).mono ?_);rintro e w6 ⟨rfl,rfl⟩)
    exact eY (eQ rfl _ _ _) rfl ⟨k4,true,r,rfl,jY.out.2.1.drewN _,jY.out.2.2.1,tS.out.drewN _,(KX.nh jY.out.2.2.2).trans (KX.drewN (X:=X4 p g b r) w4 _) (λ _ _ h=>h),.inl rfl⟩
  |false=>
   obtain⟨rfl,rfl⟩:=jY.out.1 rfl;have m1:IntKind.i64.wrap ((mo:Int)-(n:Int))=(mo:Int)-(n:Int):=by rw[aE];omega
   have m2:¬(mo:Int)-(n:Int)<(y:Int):=aa;have m3:¬(n:Int)<(q:Int):=aa;go_upto_region 10 with fail;go_quiet ((go_at_call 90;exact KE (dM p g false true rfl _ (jY.out.2.1.pa.drewN _))));have H5:Hid (b8 (w4.drewN nq) p g s k4 false/\cT U (bH s.toList) [] k4 false/\KX (X4 p g b r) w (w4.drewN nq)/\w.heap.size<=(w4.drewN nq).heap.size/\eD (w4.drewN nq) b r S):=ae ⟨jY.out.2.1.drewN nq,jY.out.2.2.1,(KX.nh jY.out.2.2.2).trans (KX.drewN (X:=X4 p g b r) w4 nq) (λ _ _ h=>h),jY.out.2.2.2.size,tS.out.drewN nq⟩;clear jY tS c3 c4 m1 m2 m3;generalize w4.drewN nq=w5 at*;go_wp2_with (go_at_call 90;go_must (refine(dM p g false true rfl _ H5.out.1.pa).mono ?_);rintro e w6 ⟨rfl,rfl⟩);clear hq hy hz hx;go_loopw [79] (λ vi wr=>∃(i:Nat) (O:List Nat) (r':Option Nat),vi= .int .i64 (i:Nat)/\i<=y/\Hid (O.length=n+i/\nL q (y-i) O=nL q y S.out)/\Hid (b8 wr p g s k4 false/\eD wr b r' {S with out:=O}/\KX (X4 p g b r) w wr/\(r'=r∨∃k,r'=some k/\w.heap.size<=k)/\w.heap.size<=wr.heap.size)) (λ vi _=>y-vnat vi)
   case atStart=>exact⟨0,S.out,r,rfl,aa,ae ⟨HN.out,rfl⟩,ae ⟨H5.out.1,H5.out.2.2.2.2,H5.out.2.2.1,.inl rfl,H5.out.2.2.2.1⟩⟩
   case round=>
    have xJ:=ae H5.out.2.1;clear H5;obtain⟨i,O,r',rfl,hi,HO,HW⟩:=hrel;by_cases ao:(i:Int)<(y:Int)
    ·obtain⟨L,hL⟩:∃L,n+i=L:=⟨_,rfl⟩;obtain⟨j,hj⟩:∃j,L-q=j:=⟨_,rfl⟩;rw[hL]at HO;obtain⟨A',c',d3,Z_,amY,RG,o5,xK,M_⟩:=HW.out.2.1.cells;have Na:=HO.out.1;simp only at d3 Z_ RG xK M_;have cC:=o5;rw[Na]at d3 Z_ xK M_ cC;obtain⟨bb,oo,rfl,aV⟩:=RG (by intro e;have:=amN O;rw[e]at this;simp at this;omega);have dj:=aV j _ (amP O j aa);obtain⟨val,hval⟩:∃val,O.getD j 0=val:=⟨_,rfl⟩;rw[hval]at dj;have f3:=o5.frozen 3
     have cm:=ae (show nL q (y-(i+1)) (O++[val])=nL q y S.out by
      have h:=HO.out.2;rw[show y-i=(y-(i+1))+1 by omega,amU,Na,hj,hval]at h;exact h)
     have HB:=ae (af o5 (af Na (af xK M_)));have m1:IntKind.i64.wrap ((L:Int)-(q:Int))=(j:Int):=by rw[aE];omega
     have j1:(0:Int)<=(j:Int):=aa;have j2:(j:Int)<(L:Int):=aa;have auW:L<=1000000000:=aa;have HL:=ae hL;clear aV RG amY hL hj hval o5 cC Na xK M_ HO;have qX:=HB.out.1.lt;have jZ:Hid (Bk wr b 90 (Rs.row {S with out:=O} (.slice (some ⟨bb,oo,none⟩) L c'))):=ae (by have:=HB.out.1;rw[HB.out.2.1]at this;exact this);have amZ:=ae (fx HB.out.2.2.1 jZ.out aA);have auX:(wr.alloc (.cells #[.int .u8 (val:Nat)] 5)).cell? ⟨b,3,none⟩=some (.slice (some ⟨bb,oo,none⟩) L c'):=(ED (wF wr _ b qX)).trans d3;go_wp2_with fail;go_region_law (refine amM rfl (.tmp 85) (.tmp 99) 54 rfl 5 1 1 Rh (.slice (some ⟨bb,oo,none⟩) L c') L (bv O) (World.ownsRow.alloc (World.ownsRow.drew HB.out.2.2.1) _) (by simp[Act.eval,Act.put]) #[.int .u8 (val:Nat)] ⟨wr.heap.size,0,none⟩ (by simp[Act.eval,Act.put]) (cell_one_new _ _ _) rfl (by intro u hu;simp at hu;subst hu;rfl) (by unfold maxLen;omega) aa ?_;intro g' cap w6 vG aaa auY;have fL:Bk w6 b 90 (Rs.row {S with out:=O} (.slice (some ⟨bb,oo,none⟩) L c')):=((aaa (wr.heap.size+1)).block b (by simp;omega) aa (λ e=>amZ.out e.symm)).trans ((wF wr _ b qX).trans jZ.out);have g3:=fL.cell_ 3 _ rfl;have q3:=fL.frozen 3)
     all_goals
      have gp:Below wr.heap.size wr (wr.drew.alloc (.cells #[.int .u8 (val:Nat)] 5)):=(aB _ wr).drew.alloc (ai _) _
      have hM:=Z7 (S:={S with out:=O}) (A:=some ⟨bb,oo,none⟩) (c:=c') (r:=r') (y:=val) (HW.out.1.below gp) (Bk.aL (HB.out.1) gp) (by show World.ownsRow _ _ _ _ (.slice (some ⟨bb,oo,none⟩) O.length c') O.length (bv O);rw[HB.out.2.1];exact World.ownsRow.alloc (World.ownsRow.drew HB.out.2.2.1) _) (by show(Value.slice (some ⟨bb,oo,none⟩) O.length c').ownBlock=r';rw[HB.out.2.1];exact HB.out.2.2.2) (by show∀g,PW _ w6 g (Value.slice (some ⟨bb,oo,none⟩) O.length c').ownBlock (some g');rw[HB.out.2.1];exact aaa) (by show w6.ownsRow 0 _ 1 (.slice (some ⟨g',0,none⟩) (O.length+1) cap) (O.length+1) _;rw[HB.out.2.1];exact vG)
      simp only[HB.out.2.1]at hM
      have HM:=ae hM
      clear hM
      go_wp2_with fail
      go_roundw
      case rel=>
       refine⟨i+1,O++[val],some g',by first|rfl|go_num,aa,ae ⟨by rw[ag,HB.out.2.1];have:=HL.out;simp;omega,cm.out⟩,ae ⟨HM.out.2.1,HM.out.2.2.1,(HW.out.2.2.1.trans ((KX.pQ (X:=X4 p g b r') gp).trans HM.out.2.2.2.1 λ _ _ h=>h) (λ k hk h=>?_)),?_,?_⟩⟩
       ·rcases h with h|h|h|h
        ·exact .inl h
        ·exact .inr (.inl h)
        ·exact .inr (.inr (.inl h))
        ·rcases HW.out.2.2.2.1 with e|⟨j2,e,sF⟩
         ·exact .inr (.inr (.inr (h.trans e)))
         ·rw[e]at h;have:=cG h;omega
       ·rcases HM.out.2.2.2.2 with e|⟨j2,e,sF⟩
        ·rw[e];exact HW.out.2.2.2.1
        ·exact .inr ⟨j2,e,by have:=gp.size;have:=HW.out.2.2.2.2;omega⟩
       ·have:=HM.out.2.2.2.1.size;have:=gp.size;have:=HW.out.2.2.2.2;omega
      case measure=>simp[vnat];omega
    ·obtain rfl:i=y:=aa;have hO:O=nL q i S.out:=by have:=HO.out.2;rw[gy]at this;exact this
     have mr:=ae hO;clear hO;go_wp2_with fail;refine eY (eQ rfl _ _ _) rfl ⟨k4,false,r',rfl,HW.out.1,xJ.out,?_,HW.out.2.2.1,HW.out.2.2.2.1⟩;rw[<-mr.out];exact HW.out.2.1
theorem am0 (b:Nat)(f n:Nat):ji n b (f+1)=if n<b then 0 else ji (n/2) b f+1:=rfl
theorem am1 (n e P:Nat)(hn:n<4611686018427387904)(hP:2^e=P)(am2:P<=4611686018427387904):bits .and .i64 (n:Int) ((P:Int)-1)=((n%P:Nat):Int):=by
 have h0:1<=P:=by rw[<-hP];exact Nat.two_pow_pos e
 have e1:((P:Int)-1)=((P-1:Nat):Int):=aa;rw[e1];show IntKind.i64.wrap ((BitVec.ofInt 64 (n:Int)&&&BitVec.ofInt 64 ((P-1:Nat):Int)).toNat:Int)=_
 have e2:(BitVec.ofInt 64 ((P-1:Nat):Int)).toNat=P-1:=by
  rw[qf];simp only[Nat.reducePow];omega
 have e3:(BitVec.ofInt 64 (n:Int)).toNat=n:=by rw[qf];simp only[Nat.reducePow];omega
 have e4:n&&&(P-1)=n%P:=by rw[<-hP];exact KA n e
 rw[BitVec.toNat_and,e2,e3,e4,aE];have:=rR n h0;generalize n%P=z at*;omega
theorem aab (n st h b E x m:Nat)(hh:2^st=h)(bu:h<=256)(auZ:st<=8)(hb:2*h=b)(hn:n<100000)(hE:ji n b 62=E)(hx:E*2^st+n/2^E=x)(hm:n%2^E=m)(w:World):
 Calls Tryz.prog 345 #[.int .i64 (n:Nat),.int .i64 (st:Nat)] w λ e w'=>e= .returned (.tuple #[.int .i64 (x:Nat),.int .i64 (E:Nat),.int .i64 (m:Nat)])/\Below w.heap.size w w':=by
 have mixed:Tryz.prog.follows Departure.mixedOrders=true:=ah;have aac:1<=h:=by rw[<-hh];exact Nat.two_pow_pos st
 have aC:2<=b:=aa;have au0:(2:Int)^st=(h:Int):=by rw[<-hh];push_cast;rfl
 have mb:IntKind.i64.wrap (2*(h:Int))=(b:Int):=by rw[aE];omega
 have au1:(st:Int)<64:=aa;have HE:=ae hE;have am3:E<=20:=by rw[<-hE];exact G0 (f:=0) (b:=b) aC (e:=20) (by have:b*2^20≥2*1048576:=yf aC aA;omega) 62
 rw[hh]at hx;have HX:=ae (af hx hm);clear hb hE hx hm hh;go_enter Tryz.func345,Tryz.ntmps345;go_wp2_with fail;go_loopw [7] (λ ve wr=>∃e:Nat,ve= .int .i64 (e:Nat)/\e<=E/\Hid (ji (n/2^e) b (62-e)+e=E)/\Hid (Below w.heap.size w wr)) (λ ve _=>64-vnat ve)
 case atStart=>exact⟨0,rfl,aa,ae (by simpa using HE.out),ae (aB _ _)⟩
 case round=>
  obtain⟨e,rfl,he,HI,HB⟩:=hrel;obtain⟨y,hy⟩:∃y,n/2^e=y:=⟨_,rfl⟩;obtain⟨P,hP⟩:∃P,2^e=P:=⟨_,rfl⟩;have am2:P<=2305843009213693952:=by rw[<-hP];exact ZT aa
  have au2:(2:Int)^e=(P:Int):=by rw[<-hP];push_cast;rfl
  have au3:(n:Int)/(P:Int)=(y:Int):=by rw[<-hy,hP];push_cast;rfl
  have au4:(e:Int)<64:=aa;have pJ:=HI.out;rw[hy,show 62-e=(61-e)+1 by omega,am0]at pJ;have iT:n/2^(e+1)=y/2:=by rw[Nat.pow_succ,<-Eu,hy]
  have RH:y<=n:=by rw[<-hy];exact Nat.div_le_self _ _
  by_cases ao:y<b
  ·rw[if_pos ao]at pJ;obtain rfl:e=E:=aa;have lk:¬(b:Int)<=(y:Int):=aa;obtain⟨q,hq⟩:∃q,e*h=q:=⟨_,rfl⟩;have ZW:q<=5120:=by rw[<-hq];exact yf am3 bu
   have m1:IntKind.i64.wrap ((e:Int)*(h:Int))=(q:Int):=by
    rw[show(e:Int)*(h:Int)=((e*h:Nat):Int)by push_cast;rfl,hq,aE];omega
   have m2:IntKind.i64.wrap ((q:Int)+(y:Int))=(q:Int)+(y:Int):=by rw[aE];omega
   have m3:IntKind.i64.wrap (P:Int)=(P:Int):=by rw[aE];omega
   have m4:IntKind.i64.wrap ((P:Int)-1)=(P:Int)-1:=by
    have:1<=P:=by rw[<-hP];exact Nat.two_pow_pos e
    rw[aE];omega
   have m5:=am1 n e P aa hP aa
   have HF:=ae (show x=q+y/\m=n%P by
    have h:=HX.out;rw[hy,hP,hq]at h;exact⟨h.1.symm,h.2.symm⟩)
   clear hy pJ iT ao hq hP;go_wp2_with fail;go_quiet (fail);go_wp2_with fail;go_quiet (fail);go_wp2_with fail;refine eX (v:=.tuple #[.int .i64 (x:Nat),.int .i64 (e:Nat),.int .i64 (m:Nat)]) (by rw[HF.out.1,HF.out.2];simp[results,Tryz.results345,go_sem]) rfl ⟨rfl,HB.out.trans ⟨rfl,rfl,rfl,ai _,λ _ _=>rfl⟩⟩
  ·rw[if_neg ao]at pJ;have lk:(b:Int)<=(y:Int):=aa;have HS:=ae pJ;have y_:=ae iT;clear hy pJ iT ao hP;go_wp2_with fail;go_quiet (fail);go_wp2_with fail;go_roundw
   case rel=>exact⟨e+1,by first|rfl|go_num,by have:=HS.out;omega,ae (by have:=HS.out;rw[y_.out,show 62-(e+1)=61-e by omega];omega),ae (HB.out.trans (by exact⟨rfl,rfl,rfl,ai _,λ _ _=>rfl⟩))⟩
   case measure=>simp[vnat];omega
theorem aad (n a b c:Nat)(h3:3<=n)(h:n<=258)(hl:dD n=(a,b,c))(w:World):
 Calls Tryz.prog 295 #[.int .i64 (n:Nat)] w λ e w'=>e= .returned (.tuple #[.int .i64 (a:Nat),.int .i64 (b:Nat),.int .i64 (c:Nat)])/\Below w.heap.size w w':=by
 unfold dD at hl;by_cases h1:n=258
 ·rw[if_pos h1]at hl;obtain⟨rfl,h2⟩:=Prod.mk.inj hl;obtain⟨rfl,rfl⟩:=Prod.mk.inj h2;subst h1;clear hl h2;go_enter Tryz.func295,Tryz.ntmps295;go_wp2_with fail;refine eX (v:=.tuple #[.int .i64 285,.int .i64 0,.int .i64 0]) (by simp[results,Tryz.results295,go_sem]) rfl ⟨rfl,aB _ _⟩
 ·rw[if_neg h1]at hl;have n1:((n:Int)==258)=false:=by simp;omega
  by_cases h2:n<11
  ·rw[if_pos h2]at hl;obtain⟨rfl,h4⟩:=Prod.mk.inj hl;obtain⟨rfl,rfl⟩:=Prod.mk.inj h4;have n2:(n:Int)<11:=aa;clear hl h4 h1 h2;go_enter Tryz.func295,Tryz.ntmps295;go_wp2_with fail;refine eX (v:=.tuple #[.int .i64 ((254+n:Nat):Int),.int .i64 0,.int .i64 0]) (by simp[results,Tryz.results295,go_sem]) rfl ⟨rfl,aB _ _⟩
  ·rw[if_neg h2]at hl;obtain⟨ha,h4⟩:=Prod.mk.inj hl;obtain⟨hb,hc⟩:=Prod.mk.inj h4;have n2:¬(n:Int)<11:=aa;obtain⟨q,hq⟩:∃q,n-3=q:=⟨_,rfl⟩;rw[hq]at ha hb hc;have tW:(n:Int)-3=(q:Int):=aa;rw[hb]at ha hc
   have pT:Hid (∀w',Calls Tryz.prog 345 #[.int .i64 (q:Nat),.int .i64 2] w' λ e bO=>e= .returned (.tuple #[.int .i64 ((a-257:Nat):Int),.int .i64 (b:Nat),.int .i64 (c:Nat)])/\Below w'.heap.size w' bO):=
    ae λ w'=>aab q 2 4 8 b (a-257) c aA aa aa aa aa hb (by rw[<-ha,show(2:Nat)^2=4 from rfl];generalize q/2^b=z;omega) hc w'
   have Nb:((a-257:Nat):Int)+257=(a:Int):=by rw[<-ha];generalize q/2^b=z;omega
   obtain⟨z,hz⟩:∃z,a-257=z:=⟨_,rfl⟩
   have Dz:z<=100000:=by
    have:=(EX n h3 h);unfold dD at this;rw[if_neg h1,if_neg h2,hq,hb]at this;have:=this.2.1;simp only at this;omega
   rw[hz]at pT Nb;have HA:=ae Nb;clear hl h4 h1 h2 ha hb hc hq hz Nb;go_enter Tryz.func295,Tryz.ntmps295;go_wp2_with fail;(with_reducible refine(pT.out _).mono ?_);rintro e w1 ⟨rfl,au⟩;go_wp2_with fail;refine eX (v:=.tuple #[.int .i64 (a:Nat),.int .i64 (b:Nat),.int .i64 (c:Nat)]) (by rw[<-HA.out,Int.add_comm];simp[results,Tryz.results295,go_sem]) rfl ⟨rfl,au⟩
theorem aae (n a b c:Nat)(h1:1<=n)(h:n<=32768)(hl:dJ n=(a,b,c))(w:World):
 Calls Tryz.prog 296 #[.int .i64 (n:Nat)] w λ e w'=>e= .returned (.tuple #[.int .i64 (a:Nat),.int .i64 (b:Nat),.int .i64 (c:Nat)])/\Below w.heap.size w w':=by
 unfold dJ at hl;by_cases h2:n<5
 ·rw[if_pos h2]at hl;obtain⟨rfl,h4⟩:=Prod.mk.inj hl;obtain⟨rfl,rfl⟩:=Prod.mk.inj h4;have n2:(n:Int)<5:=aa;obtain⟨q,hq⟩:∃q,n-1=q:=⟨_,rfl⟩;have tW:(n:Int)-1=(q:Int):=aa;have HQ:=ae hq;clear hl h4 h2 hq;go_enter Tryz.func296,Tryz.ntmps296;go_wp2_with fail;refine eX (v:=.tuple #[.int .i64 (q:Nat),.int .i64 0,.int .i64 0]) (by simp[results,Tryz.results296,go_sem]) rfl ⟨by rw[HQ.out];rfl,aB _ _⟩
 ·rw[if_neg h2]at hl;obtain⟨ha,h4⟩:=Prod.mk.inj hl;obtain⟨hb,hc⟩:=Prod.mk.inj h4;have n2:¬(n:Int)<5:=aa;obtain⟨q,hq⟩:∃q,n-1=q:=⟨_,rfl⟩;rw[hq]at ha hb hc;have tW:(n:Int)-1=(q:Int):=aa;rw[hb]at ha hc
  have pT:Hid (∀w',Calls Tryz.prog 345 #[.int .i64 (q:Nat),.int .i64 1] w' λ e bO=>e= .returned (.tuple #[.int .i64 (a:Nat),.int .i64 (b:Nat),.int .i64 (c:Nat)])/\Below w'.heap.size w' bO):=
   ae λ w'=>aab q 1 2 4 b a c aA aa aa aa aa hb aa hc w'
  clear hl h4 h2 ha hb hc hq;go_enter Tryz.func296,Tryz.ntmps296;go_wp2_with fail;(with_reducible refine(pT.out _).mono ?_);rintro e w1 ⟨rfl,au⟩;go_wp2_with fail;refine eX (v:=.tuple #[.int .i64 (a:Nat),.int .i64 (b:Nat),.int .i64 (c:Nat)]) (by simp[results,Tryz.results296,go_sem]) rfl ⟨rfl,au⟩
theorem RI (last:Bool)(kind g:Nat)(hk:kind<4)(r:Option Nat)(l:List Bool)(w:World)(h:eO w g r l)(hl:l.length<=800000000):
 Calls Tryz.prog 163 #[.pointer (some ⟨g,0,none⟩),.bool last,.int .i64 (kind:Nat)] w (ir w g r (l++(aH (ca last) 1++aH kind 2))):=by
 have HW:=ae h;have HL:=ae hl
 have xL:Hid (∀w' r',eO w' g r' (l++aH (ca last) 1)->Calls Tryz.prog 165 #[.pointer (some ⟨g,0,none⟩),.int .i64 (kind:Nat),.int .i64 2] w' (ir w' g r' ((l++aH (ca last) 1)++aH kind 2))):=
  ae λ w' r' h'=>vt kind 2 aa g r' _ w' h' (by rw[ag,fi];omega)
 clear h hl
 cases last
 ·have vu:Hid (∀w' r',eO w' g r' l->Calls Tryz.prog 165 #[.pointer (some ⟨g,0,none⟩),.int .i64 0,.int .i64 1] w' (ir w' g r' (l++aH 0 1))):=
   ae λ w' r' h'=>vt 0 1 aa g r' l w' h' (by have:=HL.out;omega)
  go_enter Tryz.func163,Tryz.ntmps163;go_wp2_with fail;(with_reducible refine(vu.out _ _ HW.out).mono ?_);rintro e w1 ⟨rfl,r1,eC,cN⟩;go_wp2_with fail;(with_reducible refine(xL.out _ _ eC).mono ?_);rintro e w2 ⟨rfl,r2,dS,dV⟩;go_wp2_with fail;exact eY (eQ rfl _ _ _) rfl ⟨rfl,r2,by rw[<-aN];exact dS,cN.trans dV⟩
 ·have vu:Hid (∀w' r',eO w' g r' l->Calls Tryz.prog 165 #[.pointer (some ⟨g,0,none⟩),.int .i64 1,.int .i64 1] w' (ir w' g r' (l++aH 1 1))):=
   ae λ w' r' h'=>vt 1 1 aa g r' l w' h' (by have:=HL.out;omega)
  go_enter Tryz.func163,Tryz.ntmps163;go_wp2_with fail;(with_reducible refine(vu.out _ _ HW.out).mono ?_);rintro e w1 ⟨rfl,r1,eC,cN⟩;go_wp2_with fail;(with_reducible refine(xL.out _ _ eC).mono ?_);rintro e w2 ⟨rfl,r2,dS,dV⟩;go_wp2_with fail;exact eY (eQ rfl _ _ _) rfl ⟨rfl,r2,by rw[<-aN];exact dS,cN.trans dV⟩
structure pX (w:World)(vl vc:Value)(ls:List Nat):Prop where
 lens:∃A c,vl= .slice A ls.length c/\ls.length<=c/\c<=maxLen/\Rd w A (nv ls)
 am4:∃A c,vc= .slice A ls.length c/\ls.length<=c/\c<=maxLen/\Rd w A (nv (jq ls))
theorem am5 {ls:List Nat}(hg:dh ls)(s:Nat)(hs:s<ls.length)(h1:0<ls.getD s 0):iU ls s<=32768:=by
 rw[Zg ls s aa];have hle:ls.getD s 0<=15:=hg.le _ (by rw[a_,aZ hs];exact mN hs);exact Zi hg s _ hle
theorem Nc (ls:List Nat)(hg:dh ls)(s g:Nat)(hs:s<ls.length)(h1:0<ls.getD s 0)(vl vc:Value)(r:Option Nat)(l:List Bool)(w:World)(hC:pX w vl vc ls)(h:eO w g r l)(hl:l.length<=800000000):
 Calls Tryz.prog 294 #[.agg #[vl,vc],.pointer (some ⟨g,0,none⟩),.int .i64 (s:Nat)] w (ir w g r (l++bW ls s)):=by
 obtain⟨⟨A,c,rfl,cR,bT,bY⟩,⟨A2,c2,rfl,jT,fj,vw⟩⟩:=hC;have hle:ls.getD s 0<=15:=hg.le _ (by rw[a_,aZ hs];exact mN hs);have jW:=am5 hg s hs h1;have fT:=Ze ls s hs;rw[if_neg aa]at fT;obtain⟨b1,o1,rfl,q1⟩:=bY.num hs;obtain⟨b2,o2,rfl,q2⟩:=vw.num (by rw[tT];exact hs);rw[fT]at q2;have RJ:=ae (show bW ls s=msb (iU ls s) (ls.getD s 0)from rfl);obtain⟨x,hx⟩:∃x,ls.getD s 0=x:=⟨_,rfl⟩;obtain⟨y,hy⟩:∃y,iU ls s=y:=⟨_,rfl⟩;obtain⟨n,hn⟩:∃n,ls.length=n:=⟨_,rfl⟩;rw[hx]at q1 hle RJ;rw[hy]at q2 jW RJ;rw[hn]at hs cR jT;rw[hn];have YD:(s:Int)<(n:Int):=aa;have HW:=ae h
 have RL:Hid (∀w' r',eO w' g r' l->Calls Tryz.prog 344 #[.pointer (some ⟨g,0,none⟩),.int .i64 (y:Nat),.int .i64 (x:Nat)] w' (ir w' g r' (l++msb y x))):=
  ae λ w' r' h'=>amf y x aa g r' l w' h' aa
 have gp:Below w.heap.size w (w.alloc (.cells #[.slice (some ⟨b1,o1,none⟩) n c,.slice (some ⟨b2,o2,none⟩) n c2] 335)):=(aB _ w).alloc (ai _) _;have dX:=ae gp;have k1:=(gp.cell (cQ w _ q1)).trans q1;have k2:=(gp.cell (cQ w _ q2)).trans q2;have dC:=Bk.new w 335 #[.slice (some ⟨b1,o1,none⟩) n c,.slice (some ⟨b2,o2,none⟩) n c2];have a0:=dC.cell_ 0 _ rfl;have a1:=dC.cell_ 1 _ rfl;clear hx hy hn bY vw fT hg h hl h1 gp q1 q2 dC;go_enter Tryz.func294,Tryz.ntmps294;go_upto_region 1 with fail;generalize w.alloc (.cells #[.slice (some ⟨b1,o1,none⟩) n c,.slice (some ⟨b2,o2,none⟩) n c2] 335)=w1 at*;go_region_with (go_at_call 344;go_must (refine(RL.out _ r ((HW.out.below dX.out).drew)).mono ?_);rintro e w2 ⟨rfl,r2,dS,dV⟩)
 all_goals
  go_wp2_with fail
  exact eY (eQ rfl _ _ _) rfl ⟨rfl,r2,by rw[RJ.out];exact dS,(PW.pQ dX.out).trans ((PW.drew w1 g r).trans dV)⟩
theorem IY (ls:List Nat)(A:Option Addr)(m c:Nat)(hl:ls.length=m)(hm:m<=320)(hg:dh ls)(pY:m<=c)(fG:c<=maxLen)(w:World)(hr:Rd w A (nv ls)):
 Calls Tryz.prog 230 #[.slice A m c] w λ e w'=>∃vc,e= .returned (.agg #[.slice A m c,vc])/\pX w' (.slice A m c) vc ls/\Below w.heap.size w w'/\∀A n c,vc= .slice A n c->∀ad,A=some ad->w.heap.size<=ad.block:=by
 have Nd:Hid (∀w',Below w.heap.size w w'->Calls Tryz.prog 297 #[.slice A m c] w' (Zj (jq ls) w')):=ae λ w' hb=>alK ls A m c hl hm hg w' (hr.below hb);have HR:=ae hr;have HL:=ae hl;clear hl hg hr;go_enter Tryz.func230,Tryz.ntmps230;go_wp2_with fail;(with_reducible refine(Nd.out _ ((aB _ w).alloc (ai _) _)).mono ?_);rintro e w1 ⟨A2,c2,rfl,h1,h2,h3,h4,h5⟩;have au:=bl ((aB _ w).alloc (ai _) _) h5;have dC:Bk w1 w.heap.size 335 #[.slice none 0 0,.slice none 0 0]:=(Bk.new w _ _).aL h5;have f0:=dC.cell_ 0 _ rfl;have f1:=dC.cell_ 1 _ rfl;have g0:=dC.frozen 0;have g1:=dC.frozen 1;have RL:=ae (show pX w1 (.slice A m c) (.slice A2 (jq ls).length c2) ls from⟨⟨A,c,by rw[HL.out],by rw[HL.out];exact pY,fG,HR.out.below au⟩,⟨A2,c2,by rw[tT],by rw[<-tT];exact h1,h2,h3⟩⟩);have cD:=ae (show Below w.heap.size w ((w1.setCell ⟨w.heap.size,0,none⟩ (.slice A m c)).setCell ⟨w.heap.size,1,none⟩ (.slice A2 (jq ls).length c2))from(au.setCell (p:=⟨w.heap.size,0,none⟩) (ai _) _).setCell (p:=⟨w.heap.size,1,none⟩) (ai _) _);have HZ:=ae ((dC.aP 0 (.slice A m c)).aP 1 (.slice A2 (jq ls).length c2))
 have kR:=ae (show pX ((w1.setCell ⟨w.heap.size,0,none⟩ (.slice A m c)).setCell ⟨w.heap.size,1,none⟩ (.slice A2 (jq ls).length c2)) (.slice A m c) (.slice A2 (jq ls).length c2) ls from by
  have e1:=HR.out.below cD.out;refine⟨⟨A,c,by rw[HL.out],by rw[HL.out];exact pY,fG,e1⟩,⟨A2,c2,by rw[tT],by rw[<-tT];exact h1,h2,?_⟩⟩;have hn:∀ad,A2=some ad->ad.block≠w.heap.size:=λ ad hA=>by have:=h4 ad hA;rw[lY]at this;omega
  exact(h3.only (aY w1 w.heap.size 0 _) λ _ ad hA=>hn ad hA).only (aY _ w.heap.size 1 _) λ _ ad hA=>hn ad hA)
 have DA:=ae (show∀ad,A2=some ad->w.heap.size<=ad.block from λ ad hA=>by have:=h4 ad hA;rw[lY]at this;omega);generalize(jq ls).length=q at*;clear h3 h5 au dC Nd RL h4;go_wp2_with fail;generalize(w1.setCell ⟨w.heap.size,0,none⟩ (.slice A m c)).setCell ⟨w.heap.size,1,none⟩ (.slice A2 q c2)=w2 at*;have z0:=HZ.out.cell_ 0 (.slice A m c) rfl;have z1:=HZ.out.cell_ 1 (.slice A2 q c2) rfl;refine eX (v:=.agg #[.slice A m c,.slice A2 q c2]) (by simp[results,Tryz.results230,go_sem,z0,z1]) rfl ⟨_,rfl,kR.out,cD.out,λ A n c e=>by cases e;exact DA.out⟩
def c_ (s:ByteArray):List Nat:=s.toList.map UInt8.toNat
theorem o_ (s:ByteArray):(c_ s).length=s.size:=by unfold c_;rw[eG,aD]
theorem IZ (s:ByteArray):∀x∈c_ s,x<256:=λ x hx=>by
 unfold c_ at hx;obtain⟨u,_,rfl⟩:=kJ.1 hx;exact gT u
theorem am6 (s:ByteArray):bH s.toList=fS (c_ s):=rfl
theorem am7 (s:ByteArray):jr (((jr (aH 1 1++aH 0 2)++aH s.size 16)++aH (s.size^^^65535) 16))++bH s.toList=nM (c_ s):=by
 have e1:jr (aH 1 1++aH 0 2)=aH 1 1++(aH 0 2++List.replicate 5 false):=by
  unfold jr;rw[ag,fi,fi,aN];rfl
 have e2:(((jr (aH 1 1++aH 0 2)++aH s.size 16)++aH (s.size^^^65535) 16)).length=40:=by
  rw[e1];simp only[ag,fi,cA]
 rw[alQ _ (by rw[e2]),e1,am6];unfold nM;rw[o_];simp only[aN]
structure WX (w wr:World)(g:Nat)(r:Option Nat)(l:List Bool):Prop where
 at_:eO wr g r l
 bl:Below w.heap.size w wr
 own:w.heap.size<=g/\∀k,r=some k->w.heap.size<=k
theorem WX.new (w:World):WX w (w.alloc (.cells #[.slice none 0 0,.int .i64 0] 254)) w.heap.size none []:=⟨eO.new w,(aB _ w).alloc (ai _) _,ai _,aj⟩
theorem WX.step {w wr w':World}{g:Nat}{r r':Option Nat}{l l':List Bool}(h:WX w wr g r l)(hw:eO w' g r' l')(hp:PW wr w' g r r'):WX w w' g r' l':=
 ⟨hw,h.bl.trans (hp.below h.bl.size h.own.1 h.own.2),h.own.1,λ k hk=>by
  rcases hp.row with e|⟨j,e,hj⟩
  ·exact h.own.2 k (e▸hk)
  ·rw[hk]at e;cases e;exact b_ h.bl.size hj⟩
theorem WX.below {w wr w':World}{g:Nat}{r:Option Nat}{l:List Bool}(h:WX w wr g r l)(hb:Below wr.heap.size wr w'):WX w w' g r l:=h.step (h.at_.below hb) (PW.pQ hb)
def RM (l:List Bool)(w:World)(e:Ending)(w':World):Prop:=e= .returned (.string (av (aX l)))/\Below w.heap.size w w'
theorem am8 (s:ByteArray)(hs:s.size<=65535)(w:World):Calls Tryz.prog 107 #[.string s] w (RM (nM (c_ s)) w):=by
 have xM:=ae (WX.new w);have DB:=Px s.size 65535 aa aa;have sM:s.size^^^65535<65536:=py (n:=16) aa aa;obtain⟨n,hn⟩:∃n,s.size=n:=⟨_,rfl⟩;have j3:=ae hn;rw[hn]at hs DB sM;obtain⟨q,hq⟩:∃q,n^^^65535=q:=⟨_,rfl⟩;rw[hq]at DB sM;have au5:bits .xor .i64 (n:Int) 65535=(q:Int):=DB;have Nf:Hid (jr (((jr (aH 1 1++aH 0 2)++aH n 16)++aH q 16))++bH s.toList=nM (c_ s)):=ae (by rw[<-am7,<-hq,hn]);have jJ:s.size=n:=hn;have RN:(jr (aH 1 1++aH 0 2)).length=8:=by rw[FA];rfl
 have gj:=ae RN;clear hq hn DB RN;go_enter Tryz.func107,Tryz.ntmps107;go_wp2_with fail;generalize w.alloc (.cells #[.slice none 0 0,.int .i64 0] 254)=w0 at*;generalize hg:w.heap.size=g at*;have FO:=ae hg;clear hg;go_loopw [0,4] (λ vs vf wr=>(vs= .string s/\vf= .bool true/\Hid (WX w wr g none []))∨(vs= .string ⟨#[]⟩/\vf= .bool false/\Hid (∃r,eO wr g r (nM (c_ s))/\Below w.heap.size w wr))) (λ _ vf _=>match vf with| .bool true=>1|_=>0)
 case atStart=>exact .inl ⟨rfl,rfl,xM⟩
 case round=>
  clear xM;rcases hrel with⟨rfl,rfl,HX⟩|⟨rfl,rfl,HX⟩
  ·have iT:((n:Int)==(n:Int))=true:=aj;have aaf:Hid (Calls Tryz.prog 163 #[.pointer (some ⟨g,0,none⟩),.bool true,.int .i64 0] wr (ir wr g none (aH 1 1++aH 0 2))):=ae (RI true 0 g aa none [] wr HX.out.at_ aj);go_wp2_with fail;(with_reducible refine aaf.out.mono ?_);rintro e w1 ⟨rfl,r1,eC,cN⟩;have H1:=ae (HX.out.step eC cN);clear eC cN HX aaf;go_wp2_with fail;(with_reducible refine(ZI g r1 _ w1 H1.out.at_ (by simp[fi])).mono ?_);rintro e w2 ⟨rfl,r2,dS,dV⟩;have H2:=ae (H1.out.step dS dV);have xL:Hid (Calls Tryz.prog 165 #[.pointer (some ⟨g,0,none⟩),.int .i64 (n:Nat),.int .i64 16] w2 (ir w2 g r2 (jr (aH 1 1++aH 0 2)++aH n 16))):=ae (vt n 16 aa g r2 _ w2 H2.out.at_ (by rw[gj.out];omega));clear dS dV H1;go_wp2_with fail;(with_reducible refine xL.out.mono ?_);rintro e w3 ⟨rfl,r3,vF,mQ⟩;have H3:=ae (H2.out.step vF mQ);have xx:Hid (Calls Tryz.prog 165 #[.pointer (some ⟨g,0,none⟩),.int .i64 (q:Nat),.int .i64 16] w3 (ir w3 g r3 ((jr (aH 1 1++aH 0 2)++aH n 16)++aH q 16))):=ae (vt q 16 aa g r3 _ w3 H3.out.at_ (by rw[ag,gj.out,fi];omega));clear vF mQ H2 xL;go_wp2_with fail;(with_reducible refine xx.out.mono ?_);rintro e w4 ⟨rfl,r4,pW,FP⟩;have H4:=ae (H3.out.step pW FP);have hex:s.extract 0 n=s:=ma (by rw[rW,bQ (by rw[aD,j3.out];omega)]);have aag:s.extract n n=⟨#[]⟩:=ma (by rw[tf,toList_nil,gy,mM]);have RO:=ae aag;have DC:=amg s (by rw[j3.out];omega) g r4 _ w4 H4.out.at_ (by rw[ag,ag,gj.out,fi,fi];omega) w.heap.size H4.out.own.1 H4.out.own.2;rw[Nf.out]at DC;have I0:Hid (Calls Tryz.prog 166 #[.pointer (some ⟨g,0,none⟩),.string (s.extract 0 n)] w4 (ZL w4 g w.heap.size (nM (c_ s)))):=ae (by rw[hex];exact DC);clear pW FP H3 xx hex aag DC;go_wp2_with fail;(with_reducible refine I0.out.mono ?_);rintro e w5 ⟨rfl,r5,kC,bE,jo⟩;have H5:=ae (af kC (H4.out.bl.trans bE));clear kC bE jo H4 I0;go_wp2_with fail;go_roundw
   case rel=>exact .inr ⟨by first|(rw[RO.out])|rfl,rfl,ae ⟨r5,H5.out⟩⟩
   case measure=>simp
  ·obtain⟨r,h1,h2⟩:=HX.out;have H1:=ae (af h1 h2);clear h1 h2 HX;go_wp2_with fail;(with_reducible refine(Rp g r _ wr H1.out.1).mono ?_);rintro e w1 ⟨rfl,au⟩;go_wp2_with fail;go_ret;exact⟨rfl,H1.out.2.trans (au.mono H1.out.2.size)⟩
end
section
open Go.RowKit
def fm:List Tk->List Value
 |[]=>[]
 |t::l=>.int .i64 (t.len:Nat):: .int .i64 (t.aq:Nat):: .int .i64 (t.lit:Nat)::fm l
theorem am9 (l:List Tk):(fm l).length=l.length*3:=by
 induction l with
 |nil=>rfl
 |cons x l ih=>simp only[fm,aU,ih];omega
theorem ana (a b:List Tk):fm (a++b)=fm a++fm b:=by
 induction a with
 |nil=>rfl
 |cons x a ih=>simp only[gU,fm,ih]
theorem anb (l:List Tk)(i:Nat):(fm l)[i*3]? =(l[i]?.map λ x=>Value.int .i64 (x.len:Nat))/\(fm l)[i*3+1]? =(l[i]?.map λ x=>Value.int .i64 (x.aq:Nat))/\(fm l)[i*3+2]? =(l[i]?.map λ x=>Value.int .i64 (x.lit:Nat)):=by
 induction l generalizing i with
 |nil=>simp[fm]
 |cons x l ih=>
  cases i with
  |zero=>exact⟨rfl,rfl,rfl⟩
  |succ i=>
   rw[show(i+1)*3=i*3+1+1+1 by omega,show i*3+1+1+1+1=(i*3+1)+1+1+1 by omega,show i*3+1+1+1+2=(i*3+2)+1+1+1 by omega];simp only[fm,eF];exact ih i
theorem anc {l:List Tk}(h:fm l=[]):l=[]:=dP (by have:=am9 l;rw[h]at this;simp at this;omega)
theorem Rd.tok {w:World}{A:Option Addr}{l:List Tk}(h:Rd w A (fm l)){i:Nat}{x:Tk}(hx:l[i]? =some x):
 ∃b o,A=some ⟨b,o,none⟩/\b<w.heap.size/\w.cell? ⟨b,o+i*3,none⟩=some (.int .i64 (x.len:Nat))/\w.cell? ⟨b,o+i*3+1,none⟩=some (.int .i64 (x.aq:Nat))/\w.cell? ⟨b,o+i*3+2,none⟩=some (.int .i64 (x.lit:Nat)):=by
 have hi:i<l.length:=(fX.1 hx).1;obtain⟨b,o,e,hc⟩:=h (λ e=>by rw[anc e]at hi;simp at hi);obtain⟨g0,g1,g2⟩:=anb l i;rw[hx]at g0 g1 g2;have q0:=hc _ _ g0;exact⟨b,o,e,cQ w _ q0,q0,hc _ _ g1,hc _ _ g2⟩
def xN (g:Nat)(r:Option Nat)(vl vc:Value)(ls:List Nat):Prop:=∀A n c,(vl= .slice A n c->nf g r A (nv ls))/\(vc= .slice A n c->nf g r A (nv (jq ls)))
theorem pX.pw {w w':World}{g:Nat}{r r':Option Nat}{vl vc:Value}{ls:List Nat}(h:pX w vl vc ls)(ho:xN g r vl vc ls)(hp:PW w w' g r r'):pX w' vl vc ls/\xN g r' vl vc ls:=by
 obtain⟨⟨A,c,e1,h1,h2,h3⟩,⟨A2,c2,e2,h4,h5,h6⟩⟩:=h;have o1:=(ho A _ c).1 e1;have o2:=(ho A2 _ c2).2 e2;refine⟨⟨⟨A,c,e1,h1,h2,h3.pw o1 hp⟩,⟨A2,c2,e2,h4,h5,h6.pw o2 hp⟩⟩,λ B n d=>⟨λ e=>?_,λ e=>?_⟩⟩
 ·rw[e1]at e;cases e;exact o1.step h3 hp
 ·rw[e2]at e;cases e;exact o2.step h6 hp
theorem pX.below {w w':World}{vl vc:Value}{ls:List Nat}(h:pX w vl vc ls)(hb:Below w.heap.size w w'):pX w' vl vc ls:=by
 obtain⟨⟨A,c,e1,h1,h2,h3⟩,⟨A2,c2,e2,h4,h5,h6⟩⟩:=h;exact⟨⟨A,c,e1,h1,h2,h3.below hb⟩,⟨A2,c2,e2,h4,h5,h6.below hb⟩⟩
structure tY (w wr:World)(g q0 q1:Nat)(r r':Option Nat)(vl vc j4 fV:Value)(lit aq:List Nat)(A:Option Addr)(l:List Tk)(B:List Bool):Prop where
 Bb:eO wr g r' B
 pw:PW w wr g r r'
 c1:pX wr vl vc lit
 o1:xN g r' vl vc lit
 c2:pX wr j4 fV aq
 o2:xN g r' j4 fV aq
 tk:Rd wr A (fm l)
 ot:nf g r' A (fm l)
 b0:Bk wr q0 335 #[vl,vc]
 b1:Bk wr q1 335 #[j4,fV]
section
variable {w wr w':World} {g q0 q1:Nat} {r r' AW:Option Nat} {vl vc j4 fV:Value} {lit aq:List Nat} {A:Option Addr} {l:List Tk} {B B':List Bool}
theorem tY.step (h:tY w wr g q0 q1 r r' vl vc j4 fV lit aq A l B)(hw:eO w' g AW B')(hp:PW wr w' g r' AW):tY w w' g q0 q1 r AW vl vc j4 fV lit aq A l B':=by
 obtain⟨a1,a2⟩:=h.c1.pw h.o1 hp;obtain⟨a3,a4⟩:=h.c2.pw h.o2 hp;obtain⟨v,hB,ho,hv,_⟩:=h.Bb;have n0:some q0≠r':=λ e=>fx ho h.b0 aA (hv.trans e.symm);have n1:some q1≠r':=λ e=>fx ho h.b1 aA (hv.trans e.symm);exact⟨hw,h.pw.trans hp,a1,a2,a3,a4,h.tk.pw h.ot hp,h.ot.step h.tk hp,h.b0.pw (iK h.b0 hB aA) n0 hp,h.b1.pw (iK h.b1 hB aA) n1 hp⟩
theorem tY.below (h:tY w wr g q0 q1 r r' vl vc j4 fV lit aq A l B)(hb:Below wr.heap.size wr w'):tY w w' g q0 q1 r r' vl vc j4 fV lit aq A l B:=
 h.step (h.Bb.below hb) (PW.pQ hb)
end
theorem tY.keep {w wr w':World}{g q0 q1:Nat}{r r' AW:Option Nat}{vl vc j4 fV:Value}{lit aq:List Nat}{A:Option Addr}{l:List Tk}{B:List Bool}{k:Nat}{t:TypeId}{cs:Array Value}(h:tY w wr g q0 q1 r r' vl vc j4 fV lit aq A l B)(hb:Bk wr k t cs)(h1:5≠t)(h2:t≠254)(hp:PW wr w' g r' AW):Bk w' k t cs:=by
 obtain⟨v,hB,ho,hv,_⟩:=h.Bb;exact hb.pw (iK hb hB h2) (λ e=>fx ho hb h1 (hv.trans e.symm)) hp
theorem ane (lit aq:List Nat)(hg:dh lit)(dU:dh aq)(t:Tk)(hd:t.aq<=32768)(hl:t.len<=258):(gA lit aq t).length<=60:=by
 have RP:∀(ls:List Nat),dh ls->∀s,ls.getD s 0<=15:=λ ls h s=>by
  rw[a_];rcases gx s ls.length with h1|h1
  ·rw[aZ h1];exact h.le _ (mN h1)
  ·rw[s7 h1];exact gV _
 unfold gA bW;split
 ·rw[wU];have:=RP lit hg t.lit;omega
 ·rw[ag,ag,ag,wU,fi,wU,fi];have h1:=RP lit hg (dD t.len).1;have h2:=RP aq dU (dJ t.aq).1
  have h3:(dD t.len).2.1<=5:=by
   unfold dD;split
   ·exact gV _
   ·split
    ·exact gV _
    ·exact G0 (f:=0) aa (e:=5) aa 62
  have h4:(dJ t.aq).2.1<=13:=by
   unfold dJ;split
   ·exact gV _
   ·exact G0 (f:=0) aa (e:=13) aa 62
  omega
theorem anf (lit aq:List Nat)(l:List Tk)(i:Nat)(t:Tk)(h:l[i]? =some t):(l.take (i+1)).flatMap (gA lit aq)=(l.take i).flatMap (gA lit aq)++gA lit aq t:=by
 rw[eu,h,Cz];simp
theorem aah (lit aq:List Nat)(hg:dh lit)(dU:dh aq)(l:List Tk)(n:Nat)(hn:l.length=n)(bq:∀t∈l,∃m,wW t m)(hh:∀t∈l,Has lit aq t)(he:0<lit.getD 256 0)(g:Nat)(r:Option Nat)(B:List Bool)(vl vc j4 fV:Value)(A:Option Addr)(c:Nat)(w:World)(fk:n<=1000000)(hB:B.length<=100000000)
 (hW:eO w g r B)(h1:pX w vl vc lit)(o1:xN g r vl vc lit)(h2:pX w j4 fV aq)(o2:xN g r j4 fV aq)(ht:Rd w A (fm l))(ot:nf g r A (fm l)):
 Calls Tryz.prog 229 #[.pointer (some ⟨g,0,none⟩),.slice A n c,.agg #[vl,vc],.agg #[j4,fV]] w (ir w g r (B++CY lit aq l)):=by
 have aC:Below w.heap.size w ((w.alloc (.cells #[vl,vc] 335)).alloc (.cells #[j4,fV] 335)):=((aB _ w).alloc (ai _) _).alloc aj _
 have pO:Hid (tY w ((w.alloc (.cells #[vl,vc] 335)).alloc (.cells #[j4,fV] 335)) g w.heap.size (w.heap.size+1) r r vl vc j4 fV lit aq A l B):=ae ⟨hW.below aC,PW.pQ aC,h1.below aC,o1,h2.below aC,o2,ht.below aC,ot,(Bk.new w _ _).alloc _,by
  have:=Bk.new (w.alloc (.cells #[vl,vc] 335)) 335 #[j4,fV];rw[lY]at this;exact this⟩
 have HN:=ae hn;have gE:=ae bq;have HH:=ae hh;have HG:=ae (af hg (af dU he));have cS:=ae hB;clear hn bq hh hg dU he hB hW h1 o1 h2 o2 ht ot aC;go_enter Tryz.func229,Tryz.ntmps229;go_wp2_with fail;generalize(w.alloc (.cells #[vl,vc] 335)).alloc (.cells #[j4,fV] 335)=w2 at*;generalize lI:w.heap.size=q0 at*;have au6:=ae lI;clear lI;go_loopw [15] (λ vi wr=>∃(i:Nat) (r':Option Nat),vi= .int .i64 (i:Nat)/\i<=n/\Hid (tY w wr g q0 (q0+1) r r' vl vc j4 fV lit aq A l (B++(l.take i).flatMap (gA lit aq)))) (λ vi _=>n-vnat vi)
 case atStart=>exact⟨0,r,rfl,aa,ae (by simpa using pO.out)⟩
 case round=>
  clear pO;obtain⟨i,r',rfl,hi,HX⟩:=hrel
  have fa:Hid ((B++(l.take i).flatMap (gA lit aq)).length<=100000000+60*n):=ae (by
   have h1:∀(k:Nat) (l2:List Tk),(∀t∈l2,∃m,wW t m)->(l2.flatMap (gA lit aq)).length<=60*l2.length:=by
    intro _ l2;induction l2 with
    |nil=>intro _;simp
    |cons t l2 ih=>
     intro h;rw[wJ,ag,aU];have h3:=ih λ x hx=>h x (Ew _ hx);obtain⟨m,hm⟩:=h t (s9);have h4:=ane lit aq HG.out.1 HG.out.2.1 t (by rcases hm with⟨_,h,_⟩|⟨_,_,_,_,_,h⟩<;>omega) (by rcases hm with⟨h,_⟩|⟨_,_,h,_⟩<;>omega);omega
   have h2:=h1 0 (l.take i) λ t ht=>gE.out t (s6 ht)
   rw[ag]
   rw[ba]at h2
   have:=cS.out
   omega)
  obtain⟨Bi,RR⟩:∃Bi,B++(l.take i).flatMap (gA lit aq)=Bi:=⟨_,rfl⟩;have Nf:=ae RR;rw[RR]at HX fa;clear RR;by_cases ao:(i:Int)<(n:Int)
  ·obtain⟨t,vH⟩:∃t,l[i]? =some t:=⟨_,aZ (by rw[HN.out];omega)⟩;have Bc:t∈l:=du vH;obtain⟨m,hm⟩:=gE.out t Bc;have Ng:=HH.out t Bc;obtain⟨b,o,rfl,qX,q1,q2,q3⟩:=HX.out.tk.tok vH;have I1:=ae (show B++(l.take (i+1)).flatMap (gA lit aq)=Bi++gA lit aq t by rw[anf lit aq l i t vH,<-aN,Nf.out]);obtain⟨tl,eL⟩:∃x,t.len=x:=⟨_,rfl⟩;obtain⟨td,sN⟩:∃x,t.aq=x:=⟨_,rfl⟩;obtain⟨tc,tZ⟩:∃x,t.lit=x:=⟨_,rfl⟩;rw[eL]at q1;rw[sN]at q2;rw[tZ]at q3;have au7:=ae (af eL (af sN tZ));have au8:=HX.out.b0.lt;have au9:=HX.out.b1.lt
   have Bd:Hid (∀(w':World) (r2:Option Nat) (B2:List Bool) (s:Nat),s<lit.length->0<lit.getD s 0->B2.length<=800000000->tY w w' g q0 (q0+1) r r2 vl vc j4 fV lit aq (some ⟨b,o,none⟩) l B2->Calls Tryz.prog 294 #[.agg #[vl,vc],.pointer (some ⟨g,0,none⟩),.int .i64 (s:Nat)] w' (ir w' g r2 (B2++bW lit s))):=
    ae λ w' r2 B2 s h1 h2 h3 hx=>Nc lit HG.out.1 s g h1 h2 vl vc r2 B2 w' hx.c1 hx.Bb h3
   have RS:Hid (∀(w':World) (r2:Option Nat) (B2:List Bool) (s:Nat),s<aq.length->0<aq.getD s 0->B2.length<=800000000->tY w w' g q0 (q0+1) r r2 vl vc j4 fV lit aq (some ⟨b,o,none⟩) l B2->Calls Tryz.prog 294 #[.agg #[j4,fV],.pointer (some ⟨g,0,none⟩),.int .i64 (s:Nat)] w' (ir w' g r2 (B2++bW aq s))):=
    ae λ w' r2 B2 s h1 h2 h3 hx=>Nc aq HG.out.2.1 s g h1 h2 j4 fV r2 B2 w' hx.c2 hx.Bb h3
   have gF:Below wr.heap.size wr (wr.alloc (.cells #[.int .i64 (tl:Nat),.int .i64 (td:Nat),.int .i64 (tc:Nat)] 343)):=(aB _ wr).alloc (ai _) _;have gQ:=ae (HX.out.below gF);have dC:=Bk.new wr 343 #[.int .i64 (tl:Nat),.int .i64 (td:Nat),.int .i64 (tc:Nat)];by_cases h0:tl=0
   ·subst h0;have FQ:=ae (show gA lit aq t=bW lit tc by unfold gA;rw[if_pos eL,tZ]);have uF:=Ng.1 eL;rw[tZ]at uF;have fW:=ae uF;clear vH Bc hm Ng eL sN tZ uF;go_upto_region 5 with fail;have a0:=gQ.out.b0.cell_ 0 _ rfl;have a1:=gQ.out.b0.cell_ 1 _ rfl;have c2:=dC.cell_ 2 _ rfl;clear gF dC q1 q2 q3;generalize wr.alloc (.cells #[.int .i64 ((0:Nat):Int),.int .i64 (td:Nat),.int .i64 (tc:Nat)] 343)=wa at*;generalize wr.heap.size=bx at*;go_wp2_with fail;(with_reducible refine(Bd.out wa r' Bi tc (mU fW.out) fW.out (by have:=fa.out;omega) gQ.out).mono ?_);rintro e w3 ⟨rfl,r2,vF,mQ⟩;have fA:=ae (gQ.out.step vF mQ);clear vF mQ a0 a1 c2 gQ HX Bd RS;go_wp2_with fail;go_roundw
    case rel=>exact⟨i+1,r2,by first|rfl|go_num,aa,ae (by rw[I1.out,FQ.out];exact fA.out)⟩
    case measure=>simp[vnat];omega
   ·have h3:3<=tl/\tl<=258/\1<=td/\td<=4096:=by
     rw[<-eL,<-sN];rcases hm with⟨h,_⟩|⟨_,h1,h2,h3,_,h4⟩
     ·exact absurd (eL.symm.trans h) h0
     ·exact⟨h1,h2,h3,h4⟩
    obtain⟨cN,dV⟩:=Ng.2 (by rw[eL];exact h0);rw[eL]at cN;rw[sN]at dV;have FQ:Hid (gA lit aq t=bW lit (dD tl).1++(aH (dD tl).2.2 (dD tl).2.1++(bW aq (dJ td).1++aH (dJ td).2.2 (dJ td).2.1))):=ae (by unfold gA;rw[if_neg (by rw[eL];exact h0),eL,sN]);obtain⟨la,za⟩:∃x,(dD tl).1=x:=⟨_,rfl⟩;obtain⟨lb,Be⟩:∃x,(dD tl).2.1=x:=⟨_,rfl⟩;obtain⟨lc,Ac⟩:∃x,(dD tl).2.2=x:=⟨_,rfl⟩;obtain⟨da,zb⟩:∃x,(dJ td).1=x:=⟨_,rfl⟩;obtain⟨db,Bf⟩:∃x,(dJ td).2.1=x:=⟨_,rfl⟩;obtain⟨dc,DD⟩:∃x,(dJ td).2.2=x:=⟨_,rfl⟩;obtain⟨_,_,_,_,FL,IV⟩:=EX tl h3.1 h3.2.1;obtain⟨_,_,_,FM,IW⟩:=G1 td h3.2.2.1 aa;rw[za]at cN;rw[zb]at dV;rw[Ac,Be]at FL;rw[Be]at IV;rw[DD,Bf]at FM;rw[Bf]at IW;rw[za,Be,Ac,zb,Bf,DD]at FQ;have gj:Hid (∀w',Calls Tryz.prog 295 #[.int .i64 (tl:Nat)] w' λ e bO=>e= .returned (.tuple #[.int .i64 (la:Nat),.int .i64 (lb:Nat),.int .i64 (lc:Nat)])/\Below w'.heap.size w' bO):=ae λ w'=>aad tl la lb lc h3.1 h3.2.1 (by rw[<-za,<-Be,<-Ac]) w';have FR:Hid (∀w',Calls Tryz.prog 296 #[.int .i64 (td:Nat)] w' λ e bO=>e= .returned (.tuple #[.int .i64 (da:Nat),.int .i64 (db:Nat),.int .i64 (dc:Nat)])/\Below w'.heap.size w' bO):=ae λ w'=>aae td da db dc h3.2.2.1 aa (by rw[<-zb,<-Bf,<-DD]) w'
    have RU:Hid (∀(w':World) (r2:Option Nat) (B2:List Bool) (v m:Nat),m<=13->B2.length<=800000000->eO w' g r2 B2->Calls Tryz.prog 165 #[.pointer (some ⟨g,0,none⟩),.int .i64 (v:Nat),.int .i64 (m:Nat)] w' (ir w' g r2 (B2++aH v m))):=
     ae λ w' r2 B2 v m h1 h2 h3=>vt v m aa g r2 B2 w' h3 aa
    have fW:=ae (af cN (af dV (af IV IW)))
    have CV:lit.getD la 0<=15:=by
     rw[a_,aZ (mU cN)];exact HG.out.1.le _ (mN (mU cN))
    have aai:aq.getD da 0<=15:=by
     rw[a_,aZ (mU dV)];exact HG.out.2.1.le _ (mN (mU dV))
    have kD:=ae (show(bW lit la).length<=15/\(bW aq da).length<=15 by unfold bW;rw[wU,wU];exact⟨CV,aai⟩);have x0:((tl:Int)==0)=false:=by simp;omega
    clear vH Bc hm Ng eL sN tZ cN dV za Be Ac zb Bf DD FL IV FM IW h3 h0 CV aai;go_upto_region 6 with fail;have mC:=ae dC;clear gF dC q1 q2 q3 HX;generalize wr.alloc (.cells #[.int .i64 (tl:Nat),.int .i64 (td:Nat),.int .i64 (tc:Nat)] 343)=wa at*;generalize wr.heap.size=bx at*;have e0:=mC.out.cell_ 0 _ rfl;go_wp2_with fail;(with_reducible refine(gj.out wa).mono ?_);rintro e w3 ⟨rfl,aO⟩;have fA:=ae (gQ.out.below aO);have tK:=ae (mC.out.aL aO);clear aO gQ mC e0;have a0:=fA.out.b0.cell_ 0 _ rfl;have a1:=fA.out.b0.cell_ 1 _ rfl;go_wp2_with fail;(with_reducible refine(Bd.out w3 r' Bi la (mU fW.out.1) fW.out.1 (by have:=fa.out;omega) fA.out).mono ?_);rintro e w4 ⟨rfl,r4,pW,FP⟩;have jY:=ae (fA.out.step pW FP);have I2:=ae (fA.out.keep tK.out aA aA FP);clear pW FP a0 a1 fA tK;go_wp2_with fail;(with_reducible refine(RU.out w4 r4 _ lc lb (by have:=fW.out.2.2.1;omega) (by rw[ag];have:=fa.out;have:=kD.out.1;omega) jY.out.Bb).mono ?_);rintro e w5 ⟨rfl,r5,kC,RV⟩;have dY:=ae (jY.out.step kC RV);have aaj:=ae (jY.out.keep I2.out aA aA RV);clear kC RV jY I2;have e1:=aaj.out.cell_ 1 _ rfl;go_wp2_with fail;(with_reducible refine(FR.out w5).mono ?_);rintro e w6 ⟨rfl,b9⟩;have Bg:=ae (dY.out.below b9);clear b9 dY aaj e1;have a0:=Bg.out.b1.cell_ 0 _ rfl;have a1:=Bg.out.b1.cell_ 1 _ rfl;go_wp2_with fail;(with_reducible refine(RS.out w6 r5 _ da (mU fW.out.2.1) fW.out.2.1 (by rw[ag,ag,fi];have:=fa.out;have:=kD.out.1;have:=fW.out.2.2.1;omega) Bg.out).mono ?_);rintro e w7 ⟨rfl,r7,aak,aal⟩;have DE:=ae (Bg.out.step aak aal);clear aak aal a0 a1 Bg;go_wp2_with fail;(with_reducible refine(RU.out w7 r7 _ dc db (by have:=fW.out.2.2.2;omega) (by rw[ag,ag,ag,fi];have:=fa.out;have:=kD.out;have:=fW.out.2.2.1;omega) DE.out.Bb).mono ?_);rintro e w8 ⟨rfl,r8,pK,aam⟩;have ang:=ae (DE.out.step pK aam);clear pK aam DE Bd RS RU gj FR;go_wp2_with fail;go_roundw
    case rel=>exact⟨i+1,r8,by first|rfl|go_num,aa,ae (by rw[I1.out,FQ.out];simpa[aN]using ang.out)⟩
    case measure=>simp[vnat];omega
  ·obtain rfl:i=n:=aa
   have gq:=ae (show B++CY lit aq l=Bi++bW lit 256 by
    have h:=Nf.out;rw[bQ (by rw[HN.out];omega)]at h;unfold CY;rw[<-aN,h])
   have a0:=HX.out.b0.cell_ 0 _ rfl;have a1:=HX.out.b0.cell_ 1 _ rfl;have DF:=Nc lit HG.out.1 256 g (mU HG.out.2.2) HG.out.2.2 vl vc r' Bi wr HX.out.c1 HX.out.Bb (by have:=fa.out;omega);rw[show((256:Nat):Int)=256 from rfl]at DF;have Dx:=ae DF;clear DF;go_wp2_with fail;(with_reducible refine Dx.out.mono ?_);rintro e w3 ⟨rfl,r2,vF,mQ⟩;go_wp2_with fail;exact eY (eQ rfl _ _ _) rfl ⟨rfl,r2,by rw[gq.out];exact vF,HX.out.pw.trans mQ⟩
end
section
open Go.RowKit
theorem RW (L:List Nat)(A:Option Addr)(n c least:Nat)(hn:L.length=n)(hle:least<=n)(hc:n<=c)(fG:c<=maxLen)(h1:1<=least)(w:World)(hr:Rd w A (nv L)):
 Calls Tryz.prog 300 #[.slice A n c,.int .i64 (least:Nat)] w λ e w'=>∃m,e= .returned (.slice A m c)/\m<=n/\lK L least (L.take m)/\w=w':=by
 unfold maxLen at fG;have HN:=ae hn;have HR:=ae hr;clear hn hr;go_enter Tryz.func300,Tryz.ntmps300;go_wp2_with fail;go_loop [0] (λ v0=>∃k:Nat,v0= .slice A k c/\least<=k/\k<=n/\Hid (∀x∈L.drop k,x=0)) (λ v0=>jK v0)
 case atStart=>exact⟨n,rfl,hle,ai _,ae (by rw[nD (by rw[HN.out];omega)];intro x hx;cases hx)⟩
 case round=>
  obtain⟨k,rfl,oP,bI,HZ⟩:=hrel;have HT:=ae (show lK L least (L.take k)from⟨k,rfl,oP,by rw[HN.out];exact bI,HZ.out⟩);by_cases ao:(least:Int)<(k:Int)
  ·obtain⟨q,rfl⟩:∃q,k=q+1:=⟨k-1,aa⟩;obtain⟨b,o,rfl,eT⟩:=HR.out.num (i:=q) (by rw[HN.out];omega);obtain⟨x,hx⟩:∃x,L.getD q 0=x:=⟨_,rfl⟩;rw[hx]at eT;have HX:=ae hx;clear hx;by_cases h0:x=0
   ·subst h0
    have yS:=ae (show∀x∈L.drop q,x=0 by
     rw[qj (by rw[HN.out];omega)];intro y hy;rcases eW.1 hy with e|hy
     ·rw[e];have h:=HX.out;rw[a_,aZ (by rw[HN.out];omega)]at h;exact h
     ·exact HZ.out y hy)
    have aan:(q:Int)<=(c:Int):=aa;go_wp2_with fail;go_round
    case rel=>exact⟨q,rfl,aa,aa,yS⟩
    case measure=>simp[jK]
   ·have iF:((x:Int)==0)=false:=by simp;omega
    go_wp2_with fail;go_ret;exact⟨q+1,rfl,bI,HT.out,rfl⟩
  ·go_wp2_with fail;go_ret;exact⟨k,rfl,bI,HT.out,rfl⟩
def pd:Array Value:=(nv ie).toArray
theorem aao:Tryz.prog.built 246 [(0,.int .i64 16),(1,.int .i64 17),(2,.int .i64 18),(3,.int .i64 0),(4,.int .i64 8),(5,.int .i64 7),(6,.int .i64 9),(7,.int .i64 6),(8,.int .i64 10),(9,.int .i64 5),(10,.int .i64 11),(11,.int .i64 4),(12,.int .i64 12),(13,.int .i64 3),(14,.int .i64 13),(15,.int .i64 2),(16,.int .i64 14),(17,.int .i64 1),(18,.int .i64 15)]=some pd:=ah
theorem I3:pd.size=19:=by unfold pd nv ie;rfl
theorem aap:pd.all (·.oneCell')=true:=by
 unfold pd;rw[Cy,nF];exact Ra _
theorem aaq:(Tryz.prog.info? 246).map (·.size)=some 19:=ah
theorem aar (i:Nat)(h:i<19):pd[i]? =some (.int .i64 (ie.getD i 0:Nat)):=by
 unfold pd;rw[gW,IJ _ _ (by exact h)]
theorem anh (w:World):Calls Tryz.prog 302 #[] w λ e w'=>e= .returned (.agg pd)/\Below w.heap.size w w':=by
 have il:∀w:World,(Instr.build 246 #[(0,.int .i64 16),(1,.int .i64 17),(2,.int .i64 18),(3,.int .i64 0),(4,.int .i64 8),(5,.int .i64 7),(6,.int .i64 9),(7,.int .i64 6),(8,.int .i64 10),(9,.int .i64 5),(10,.int .i64 11),(11,.int .i64 4),(12,.int .i64 12),(13,.int .i64 3),(14,.int .i64 13),(15,.int .i64 2),(16,.int .i64 14),(17,.int .i64 1),(18,.int .i64 15)]).run Tryz.prog w= .ok (.agg pd) w:=λ w=>run_build w _ _ _ aao;have pT:=ae il;have HI:=ae (show(Tryz.prog.info? 246).map (·.size)=some pd.size by rw[I3];exact aaq);have HS:=ae I3;have HO:=ae aap;clear il;generalize pd=C at*;go_enter Tryz.func302,Tryz.ntmps302;go_wp2_with (first|(refine MS rfl 246 _ rfl _ (.agg C) ?_ pT.out ?_;go_must (simp only[zP,List.map_cons,List.map_nil];rfl))|(refine nG rfl 246 _ _ rfl w.heap.size C rfl rfl 246 _ (l_ w _) HI.out (by rw[HS.out];rfl) HO.out ?_));refine eX (EF Tryz.results302 _ _ w.heap.size 246 C (0,0) _ rfl (kd _ w.heap.size _ C 246 (0,0) (l_ w _)) Tryz.underlying246 rfl HI.out) rfl ⟨rfl,below_setRow ((aB _ w).alloc (ai _) _) (ai _) _⟩
def lR:List Nat×List Nat:=((List.replicate 286 0).set 256 1,List.replicate 30 0)
structure sO (w wr:World)(ga gb:Nat)(p:List Nat×List Nat):Prop where
 ra:dF wr ga p.1
 rb:dF wr gb p.2
 ne:ga≠gb
 lt:w.heap.size<=ga/\w.heap.size<=gb
 bl:Below w.heap.size w wr
theorem sO.below {w wr w':World}{ga gb:Nat}{p:List Nat×List Nat}(h:sO w wr ga gb p)(hb:Below wr.heap.size wr w'):sO w w' ga gb p:=⟨h.ra.aL hb,h.rb.aL hb,h.ne,h.lt,h.bl.trans (hb.mono h.bl.size)⟩
theorem sO.Nh {w wr:World}{ga gb:Nat}{p:List Nat×List Nat}(h:sO w wr ga gb p)(i x:Nat):sO w (wr.setCell ⟨ga,i,none⟩ (.int .i64 (x:Nat))) ga gb (p.1.set i x,p.2):=
 ⟨h.ra.aP i x,h.rb.far (by simp;exact λ e=>h.ne e.symm) _,h.ne,h.lt,h.bl.setCell (p:=⟨ga,i,none⟩) h.lt.1 _⟩
theorem sO.aas {w wr:World}{ga gb:Nat}{p:List Nat×List Nat}(h:sO w wr ga gb p)(i x:Nat):sO w (wr.setCell ⟨gb,i,none⟩ (.int .i64 (x:Nat))) ga gb (p.1,p.2.set i x):=
 ⟨h.ra.far (by simp;exact h.ne) _,h.rb.aP i x,h.ne,h.lt,h.bl.setCell (p:=⟨gb,i,none⟩) h.lt.2 _⟩
theorem dF.drew {w:World}{g:Nat}{l:List Nat}(h:dF w g l):dF w.drew g l:=h
def DG (w:World)(v4 v5:Value)(wx:World):Prop:=∃ga gb,v4= .slice (some ⟨ga,0,none⟩) 286 286/\v5= .slice (some ⟨gb,0,none⟩) 30 30/\sO w wx ga gb (List.replicate 286 0,List.replicate 30 0)
theorem DG.one (w:World):DG w (.slice (some ⟨w.heap.size,0,none⟩) 286 286) (.slice (some ⟨w.heap.size+1,0,none⟩) 30 30) ((w.alloc (.cells (madeCells #[.int .i64 0] 286) 3)).alloc (.cells (madeCells #[.int .i64 0] 30) 3)).drew:=by
 have h1:Below w.heap.size w (w.alloc (.cells (madeCells #[.int .i64 0] 286) 3)):=(aB _ w).alloc (ai _) _;have h2:=(aB (w.alloc (.cells (madeCells #[.int .i64 0] 286) 3)).heap.size (w.alloc (.cells (madeCells #[.int .i64 0] 286) 3))).alloc (ai _) (.cells (madeCells #[.int .i64 0] 30) 3);have h3:=dF.made (w.alloc (.cells (madeCells #[.int .i64 0] 286) 3)) 30;rw[lY]at h3;exact⟨_,_,rfl,rfl,⟨((dF.made w 286).aL h2).drew,dF.drew h3,aa,aa,(Below.trans h1 (h2.mono aj)).drew⟩⟩
theorem DG.two (w:World):DG w (.slice (some ⟨w.heap.size+1,0,none⟩) 286 286) (.slice (some ⟨w.heap.size,0,none⟩) 30 30) ((w.alloc (.cells (madeCells #[.int .i64 0] 30) 3)).alloc (.cells (madeCells #[.int .i64 0] 286) 3)).drew:=by
 have h1:Below w.heap.size w (w.alloc (.cells (madeCells #[.int .i64 0] 30) 3)):=(aB _ w).alloc (ai _) _;have h2:=(aB (w.alloc (.cells (madeCells #[.int .i64 0] 30) 3)).heap.size (w.alloc (.cells (madeCells #[.int .i64 0] 30) 3))).alloc (ai _) (.cells (madeCells #[.int .i64 0] 286) 3);have h3:=dF.made (w.alloc (.cells (madeCells #[.int .i64 0] 30) 3)) 286;rw[lY]at h3;exact⟨_,_,rfl,rfl,⟨dF.drew h3,((dF.made w 30).aL h2).drew,aa,aa,(Below.trans h1 (h2.mono aj)).drew⟩⟩
def ani (p:List Nat×List Nat)(w:World)(e:Ending)(w':World):Prop:=∃ga gb,e= .returned (.tuple #[.slice (some ⟨ga,0,none⟩) 286 286,.slice (some ⟨gb,0,none⟩) 30 30])/\sO w w' ga gb p
theorem aat (l:List Tk):(l.foldl dK lR).1.length=286/\(l.foldl dK lR).2.length=30:=by
 have:=Ls l lR;exact⟨this.1.trans (by unfold lR;rw[iP,cA]),this.2.trans (by unfold lR;rw[cA])⟩
theorem aau (l:List Tk)(s:Nat):(l.foldl dK lR).1.getD s 0<=1+l.length/\(l.foldl dK lR).2.getD s 0<=l.length:=by
 have h:=G6 s l lR;refine⟨b_ h.1.2 ?_,b_ h.2.2 ?_⟩
 ·have:lR.1.getD s 0<=1:=by
   unfold lR;rw[a_,zO];split
   ·rw[cA];split<;>simp
   ·rw[nE];split<;>simp
  omega
 ·have:lR.2.getD s 0=0:=by
   unfold lR;rw[a_,nE];split<;>rfl
  omega
theorem anj (l:List Tk)(n:Nat)(hn:l.length=n)(fk:n<=1000000)(bq:∀t∈l,∃m,wW t m)(A:Option Addr)(c:Nat)(w:World)(ht:Rd w A (fm l)):
 Calls Tryz.prog 298 #[.slice A n c] w (ani (l.foldl dK lR) w):=by
 have iq:=run_make_row' (P:=Tryz.prog) 79 3 (.int .i64 0) 8 Tryz.underlying79 xF rfl .i64 .i64 286 aa aa;have rZ:=run_make_row' (P:=Tryz.prog) 79 3 (.int .i64 0) 8 Tryz.underlying79 xF rfl .i64 .i64 30 aa aa;have RX:∀w:World,(Instr.makeSlice 79 (.int .i64 286) (.int .i64 286)).run Tryz.prog w= .ok (.slice (some ⟨w.heap.size,0,none⟩) 286 286) (w.alloc (.cells (madeCells #[.int .i64 0] 286) 3)):=iq;have ank:∀w:World,(Instr.makeSlice 79 (.int .i64 30) (.int .i64 30)).run Tryz.prog w= .ok (.slice (some ⟨w.heap.size,0,none⟩) 30 30) (w.alloc (.cells (madeCells #[.int .i64 0] 30) 3)):=rZ;have HN:=ae hn;have gE:=ae bq;have HT:=ae ht;clear iq rZ hn bq ht;go_enter Tryz.func298,Tryz.ntmps298;go_upto_region 1 with fail;go_cut [4,5]from 11 to 12 (λ v4 v5 wx=>DG w v4 v5 wx)
 case first=>
  go_wp2_with fail;go_region
  ·go_wp2_with fail;go_meet;exact DG.one w
  ·go_wp2_with fail;go_meet;exact DG.two w
 case rest=>
  obtain⟨ga,gb,rfl,rfl,hT⟩:=hcut;have c0:=hT.ra.cell 256 aj;have f0:=hT.ra.frozen 256;have I4:=ae (hT.Nh 256 1);clear hT RX ank;go_wp2_with fail;have xI:Hid (sO w (wc.setCell ⟨ga,256,none⟩ (.int .i64 1)) ga gb lR):=I4;clear c0 f0 I4;generalize wc.setCell ⟨ga,256,none⟩ (.int .i64 1)=w1 at*;go_loopw [17] (λ vi wr=>∃i:Nat,vi= .int .i64 (i:Nat)/\i<=n/\Hid (sO w wr ga gb ((l.take i).foldl dK lR))) (λ vi _=>n-vnat vi)
  case atStart=>exact⟨0,rfl,aa,xI⟩
  case round=>
   clear xI;obtain⟨i,rfl,hi,HX⟩:=hrel;by_cases ao:(i:Int)<(n:Int)
   ·obtain⟨t,vH⟩:∃t,l[i]? =some t:=⟨_,aZ (by rw[HN.out];omega)⟩;have Bc:t∈l:=du vH;obtain⟨m,hm⟩:=gE.out t Bc;obtain⟨b,o,rfl,qX,q1,q2,q3⟩:=(HT.out.below HX.out.bl).tok vH;have cm:=ae (show(l.take (i+1)).foldl dK lR=dK ((l.take i).foldl dK lR) t by rw[eu,vH,rT];rfl);have pZ:=aat (l.take i);have jW:=aau (l.take i);obtain⟨P,hP⟩:∃P,(l.take i).foldl dK lR=P:=⟨_,rfl⟩;rw[hP]at HX cm pZ jW;have ava:(l.take i).length<=n:=by rw[ba,HN.out];omega
    have j5:=ae (show∀s,P.1.getD s 0<=2000000/\P.2.getD s 0<=2000000 from λ s=>by have:=jW s;omega);have fa:=ae pZ;obtain⟨tl,eL⟩:∃x,t.len=x:=⟨_,rfl⟩;obtain⟨td,sN⟩:∃x,t.aq=x:=⟨_,rfl⟩;obtain⟨tc,tZ⟩:∃x,t.lit=x:=⟨_,rfl⟩;rw[eL]at q1;rw[sN]at q2;rw[tZ]at q3;have gF:Below wr.heap.size wr (wr.alloc (.cells #[.int .i64 (tl:Nat),.int .i64 (td:Nat),.int .i64 (tc:Nat)] 343)):=(aB _ wr).alloc (ai _) _;have gQ:=ae (HX.out.below gF);have dC:=Bk.new wr 343 #[.int .i64 (tl:Nat),.int .i64 (td:Nat),.int .i64 (tc:Nat)];by_cases h0:tl=0
    ·subst h0
     have avb:tc<256:=by
      rw[<-tZ];rcases hm with⟨_,_,h⟩|⟨_,h1,_⟩
      ·exact h
      ·omega
     have mu:=ae (show dK P t=(P.1.set tc (P.1.getD tc 0+1),P.2)by unfold dK;rw[if_pos eL,tZ];rfl);clear vH Bc hm eL sN tZ hP pZ jW;go_upto_region 7 with fail;have c2:=dC.cell_ 2 _ rfl;clear gF dC q1 q2 q3 HX;generalize wr.alloc (.cells #[.int .i64 ((0:Nat):Int),.int .i64 (td:Nat),.int .i64 (tc:Nat)] 343)=wa at*;generalize wr.heap.size=bx at*;have e0:=gQ.out.ra.cell tc (by rw[fa.out.1];omega);have f0:=gQ.out.ra.frozen tc;obtain⟨y,hy⟩:∃y,P.1.getD tc 0=y:=⟨_,rfl⟩;have Fx:=(j5.out tc).1;rw[hy]at e0 Fx mu;have anl:(tc:Int)<286:=aa;have HY:=ae hy;clear hy;go_wp2_with fail;go_roundw
     case rel=>first
      |exact⟨i+1,by first|rfl|go_num,aa,ae (by rw[cm.out,mu.out];exact gQ.out.Nh tc (y+1))⟩
      |exact⟨_,_,.int .i64 ((i:Int)+1),⟨i+1,by first|rfl|go_num,aa,ae (by rw[cm.out,mu.out];exact gQ.out.Nh tc (y+1))⟩,rfl,rfl,rfl⟩
     case measure=>simp[vnat];omega
    ·have h3:3<=tl/\tl<=258/\1<=td/\td<=4096:=by
      rw[<-eL,<-sN];rcases hm with⟨h,_⟩|⟨_,h1,h2,h3,_,h4⟩
      ·exact absurd (eL.symm.trans h) h0
      ·exact⟨h1,h2,h3,h4⟩
     obtain⟨la,za⟩:∃x,(dD tl).1=x:=⟨_,rfl⟩;obtain⟨lb,Be⟩:∃x,(dD tl).2.1=x:=⟨_,rfl⟩;obtain⟨lc,Ac⟩:∃x,(dD tl).2.2=x:=⟨_,rfl⟩;obtain⟨da,zb⟩:∃x,(dJ td).1=x:=⟨_,rfl⟩;obtain⟨db,Bf⟩:∃x,(dJ td).2.1=x:=⟨_,rfl⟩;obtain⟨dc,DD⟩:∃x,(dJ td).2.2=x:=⟨_,rfl⟩;have anm:=(EX tl h3.1 h3.2.1).2.1;have ann:=(G1 td h3.2.2.1 aa).1;rw[za]at anm;rw[zb]at ann;have gj:Hid (∀w',Calls Tryz.prog 295 #[.int .i64 (tl:Nat)] w' λ e bO=>e= .returned (.tuple #[.int .i64 (la:Nat),.int .i64 (lb:Nat),.int .i64 (lc:Nat)])/\Below w'.heap.size w' bO):=ae λ w'=>aad tl la lb lc h3.1 h3.2.1 (by rw[<-za,<-Be,<-Ac]) w';have FR:Hid (∀w',Calls Tryz.prog 296 #[.int .i64 (td:Nat)] w' λ e bO=>e= .returned (.tuple #[.int .i64 (da:Nat),.int .i64 (db:Nat),.int .i64 (dc:Nat)])/\Below w'.heap.size w' bO):=ae λ w'=>aae td da db dc h3.2.2.1 aa (by rw[<-zb,<-Bf,<-DD]) w';have mu:=ae (show dK P t=(P.1.set la (P.1.getD la 0+1),P.2.set da (P.2.getD da 0+1))by unfold dK;rw[if_neg (by rw[eL];exact h0),eL,sN,za,zb];rfl);have x0:((tl:Int)==0)=false:=by simp;omega
     clear vH Bc hm eL sN tZ hP pZ jW za Be Ac zb Bf DD h3 h0;go_upto_region 8 with fail;have mC:=ae dC;clear gF dC q1 q2 q3 HX;generalize wr.alloc (.cells #[.int .i64 (tl:Nat),.int .i64 (td:Nat),.int .i64 (tc:Nat)] 343)=wa at*;generalize wr.heap.size=bx at*;have e0:=mC.out.cell_ 0 _ rfl;go_wp2_with fail;(with_reducible refine(gj.out wa).mono ?_);rintro e w3 ⟨rfl,aO⟩;have fA:=ae (gQ.out.below aO);have tK:=ae (mC.out.aL aO);clear aO gQ mC e0;have e0:=fA.out.ra.cell la (by rw[fa.out.1];omega);have f0:=fA.out.ra.frozen la;obtain⟨y,hy⟩:∃y,P.1.getD la 0=y:=⟨_,rfl⟩;have Fx:=(j5.out la).1;rw[hy]at e0 Fx mu;have anl:(la:Int)<286:=aa;clear hy;have jY:=ae (fA.out.Nh la (y+1));have I2:=ae (show Bk (w3.setCell ⟨ga,la,none⟩ (.int .i64 ((y+1:Nat):Int))) bx 343 _ from tK.out.far (iK tK.out fA.out.ra.choose_spec.1 aA) _);go_upto_region 10 with fail;rw[show((y:Int)+1)=((y+1:Nat):Int)by omega];generalize w3.setCell ⟨ga,la,none⟩ (.int .i64 ((y+1:Nat):Int))=w4 at*;clear fA tK e0 f0;have e1:=I2.out.cell_ 1 _ rfl;go_wp2_with fail;(with_reducible refine(FR.out w4).mono ?_);rintro e w5 ⟨rfl,bE⟩;have dY:=ae (jY.out.below bE);clear bE jY I2 e1;have e0:=dY.out.rb.cell da (by rw[fa.out.2];omega);have f0:=dY.out.rb.frozen da;obtain⟨z,hz⟩:∃z,P.2.getD da 0=z:=⟨_,rfl⟩;have Dz:=(j5.out da).2;simp only at e0;rw[hz]at e0 Dz mu;have avc:(da:Int)<30:=aa;clear hz;go_wp2_with fail;go_roundw
     case rel=>first
      |exact⟨i+1,by first|rfl|go_num,aa,ae (by rw[cm.out,mu.out];exact dY.out.aas da (z+1))⟩
      |exact⟨_,_,_,.int .i64 ((i:Int)+1),⟨i+1,by first|rfl|go_num,aa,ae (by rw[cm.out,mu.out];exact dY.out.aas da (z+1))⟩,rfl,rfl,rfl,rfl⟩
     case measure=>simp[vnat];omega
   ·obtain rfl:i=n:=aa;have HF:=HX.out;rw[bQ (by rw[HN.out];omega)]at HF;have mD:=ae HF;clear HF;go_wp2_with fail;go_ret2;exact⟨ga,gb,rfl,mD.out⟩
def gR:List (Nat×Nat×Nat)->List Value
 |[]=>[]
 |t::l=>.int .i64 (t.1:Nat):: .int .i64 (t.2.1:Nat):: .int .i64 (t.2.2:Nat)::gR l
theorem ano (l:List (Nat×Nat×Nat)):(gR l).length=l.length*3:=by
 induction l with
 |nil=>rfl
 |cons x l ih=>simp only[gR,aU,ih];omega
theorem Bh (a b:List (Nat×Nat×Nat)):gR (a++b)=gR a++gR b:=by
 induction a with
 |nil=>rfl
 |cons x a ih=>simp only[gU,gR,ih]
theorem anp (l:List (Nat×Nat×Nat))(i:Nat):(gR l)[i*3]? =(l[i]?.map λ x=>Value.int .i64 (x.1:Nat))/\(gR l)[i*3+1]? =(l[i]?.map λ x=>Value.int .i64 (x.2.1:Nat))/\(gR l)[i*3+2]? =(l[i]?.map λ x=>Value.int .i64 (x.2.2:Nat)):=by
 induction l generalizing i with
 |nil=>simp[gR]
 |cons x l ih=>
  cases i with
  |zero=>exact⟨rfl,rfl,rfl⟩
  |succ i=>
   rw[show(i+1)*3=i*3+1+1+1 by omega,show i*3+1+1+1+1=(i*3+1)+1+1+1 by omega,show i*3+1+1+1+2=(i*3+2)+1+1+1 by omega];simp only[gR,eF];exact ih i
theorem anq {l:List (Nat×Nat×Nat)}(h:gR l=[]):l=[]:=dP (by have:=ano l;rw[h]at this;simp at this;omega)
theorem Rd.run {w:World}{A:Option Addr}{l:List (Nat×Nat×Nat)}(h:Rd w A (gR l)){i:Nat}{x:Nat×Nat×Nat}(hx:l[i]? =some x):
 ∃b o,A=some ⟨b,o,none⟩/\b<w.heap.size/\w.cell? ⟨b,o+i*3,none⟩=some (.int .i64 (x.1:Nat))/\w.cell? ⟨b,o+i*3+1,none⟩=some (.int .i64 (x.2.1:Nat))/\w.cell? ⟨b,o+i*3+2,none⟩=some (.int .i64 (x.2.2:Nat)):=by
 have hi:i<l.length:=(fX.1 hx).1;obtain⟨b,o,e,hc⟩:=h (λ e=>by rw[anq e]at hi;simp at hi);obtain⟨g0,g1,g2⟩:=anp l i;rw[hx]at g0 g1 g2;have q0:=hc _ _ g0;exact⟨b,o,e,cQ w _ q0,q0,hc _ _ g1,hc _ _ g2⟩
theorem aav (x:Nat):∀(l:List Nat) (i:Nat),i<h_ x l->l[i]? =some x
 |[],i,h=>by rw[h_]at h;omega
 |y::l,i,h=>by
  rw[h_]at h;by_cases hy:y=x
  ·rw[if_pos hy]at h
   cases i with
   |zero=>rw[hy];rfl
   |succ i=>rw[eF];exact aav x l i aa
  ·rw[if_neg hy]at h;omega
theorem aaw (x:Nat):∀(l:List Nat) (y:Nat),l[h_ x l]? =some y->y≠x
 |[],y,h=>by simp at h
 |z::l,y,h=>by
  rw[h_]at h;by_cases hy:z=x
  ·rw[if_pos hy,eF]at h;exact aaw x l y h
  ·rw[if_neg hy]at h;simp at h;rw[<-h];exact hy
theorem Bj:El Tryz.prog 408 411 3 24:=El.kg (z:=.agg #[.int .i64 0,.int .i64 0,.int .i64 0]) Tryz.underlying408 ah aA (by rfl)
theorem vI {P:Program}(w:World){ops:Array Oper}{rest:List Oper}{o:Oper}{a:Act}{Q:Exit->Act->World->Prop}(d_:o.guard=none)(s x:Operand)(t:TypeId)
 (ho:o.op= .call {callee:=.builtin .append,args:=#[s,x],argTypes:=#[t,t]})
 (base:Nat)(e:TypeId)(size bytes:Nat)(jF:El P t e size bytes)
 (v:Value)(n:Nat)(xs:List Value)(aw:w.ownsRow base e size v n xs)(hs:a.eval s=v)(C:Array Value)(m:Nat)
 (hx:a.eval x= .slice (some ⟨w.heap.size,0,none⟩) m m)(hC:C.size=m*size)(h1:∀u∈C.toList,u.oneCell'=true)
 (kh:n+m<=maxLen)(iQ:(n+m)*bytes<=140737488355328)(jG:base<=w.heap.size)
 (h:∀v' w',w'.ownsRow base e size v' (n+m) (xs++C.toList)->Below base w w'->wpList P ops Q rest (a.put o.dst v') w'):wpList P ops Q (o::rest) a (w.alloc (.cells C e)):=
 qm (w.alloc (.cells C e)) d_ s x t ho base e size bytes jF v n xs (aw.alloc _) hs _ m m C.toList (Rd.new w e C) (by simpa using hC) hx h1 kh iQ (by simp;omega) λ v' w' h2 h3=>h v' w' h2 (((aB base w).alloc jG _).trans h3)
def anr (l:List (Nat×Nat×Nat))(w:World)(e:Ending)(w':World):Prop:=∃A c,e= .returned (.slice A l.length c)/\l.length<=c/\c<=maxLen/\Rd w' A (gR l)/\(∀ad,A=some ad->w.heap.size<=ad.block)/\Below w.heap.size w w'
theorem ans {L:List Nat}{k x:Nat}{l:List Nat}(h:L.drop k=x::l):eK (L.drop k)=nK x (h_ x l+1)++eK (L.drop (k+runK x (h_ x l+1))):=by
 rw[h,eK,<-h,uy]
theorem aax {w:World}{b o:Nat}{l:List Nat}(h:Rd w (some ⟨b,o,none⟩) (nv l))(k:Nat):Rd w (some ⟨b,o+k,none⟩) (nv (l.drop k)):=λ hn=>by
 obtain⟨b2,o2,e,hc⟩:=h (λ e=>hn (by rw[<-Y7,e];simp))
 cases e
 refine⟨b,o+k,rfl,λ j u hj=>?_⟩;rw[<-Y7,rO]at hj;rw[rQ];exact hc (k+j) u hj
def RY (L:List Nat)(n:Nat)(v0:Value)(k:Nat)(w:World):Prop:=∃(A:Option Addr) (q c:Nat),v0= .slice A q c/\q<=c/\c<=9223372036854775807/\k+q=n/\Rd w A (nv (L.drop k))
theorem ant (L:List Nat)(n:Nat)(hn:L.length=n)(fk:n<=1000)(kB:∀x∈L,x<16)(A:Option Addr)(c:Nat)(cR:n<=c)(bT:c<=9223372036854775807)(w:World)(hr:Rd w A (nv L)):
 Calls Tryz.prog 301 #[.slice A n c] w (anr (eK L) w):=by
 have HN:=ae hn;have HR:=ae hr;clear hn hr;go_enter Tryz.func301,Tryz.ntmps301;go_wp2_with fail;go_loopw [0,3] (λ v0 v3 wr=>∃(k:Nat) (D:List (Nat×Nat×Nat)),Hid (RY L n v0 k w)/\k<=n/\Hid (D++eK (L.drop k)=eK L)/\D.length<=2*k/\Hid (wr.ownsRow w.heap.size 411 3 v3 D.length (gR D)/\Below w.heap.size w wr)) (λ v0 _ _=>jK v0)
 case atStart=>exact⟨0,[],ae ⟨A,n,c,rfl,cR,bT,aa,HR.out⟩,aa,ae rfl,aj,ae ⟨jD _ _ _ _,aB _ _⟩⟩
 case round=>
  obtain⟨w3,rfl⟩:∃w3,w3=wr:=⟨_,rfl⟩;obtain⟨k,D,jt,hk,HD,aay,HO⟩:=hrel;obtain⟨A',q,c',rfl,t_,tF,avd,bY⟩:=jt.out;by_cases lI:q=0
  ·subst lI;have hF:=HD.out;rw[nD (by rw[HN.out];omega),eK,bV]at hF;have hO:=HO.out;rw[hF]at hO;have hR:=rX.own hO.1 hO.2 (ai _);obtain⟨A5,c5,e5,DH,DI,Bl,Bm,Bo⟩:=hR;obtain⟨z,hz⟩:∃z,(eK L).length=z:=⟨_,rfl⟩;have HZ:=ae hz;have HF:=ae (af DH (af DI (af Bl (af Bm Bo))));rw[hz]at e5;have e6:_=Value.slice A5 z c5:=Ending.returned.inj e5;subst e6;clear hF hO DH DI Bl Bm Bo hz HO jt bY;go_wp2_with fail;go_ret;exact⟨A5,c5,by rw[HZ.out];rfl,HF.out⟩
  ·obtain⟨x,l,sM⟩:∃x l,L.drop k=x::l:=by
    cases hd:L.drop k with
    |nil=>have:=congrArg List.length hd;rw[cw,HN.out]at this;simp at this;omega
    |cons x l=>exact⟨x,l,rfl⟩
   have zc:l.length+1=q:=by have:=congrArg List.length sM;rw[cw,HN.out]at this;simp at this;omega
   obtain⟨b,o,rfl,aV⟩:=(bY.below HO.out.2) (by rw[sM];simp[nv]);have gD:=ae (show∀i y,(x::l)[i]? =some y->w3.cell? ⟨b,o+i,none⟩=some (.int .i64 (y:Nat))from λ i y hy=>aV i _ (by rw[sM];unfold nv;rw[eH,hy];rfl));have c0:w3.cell? ⟨b,o,none⟩=some (.int .i64 (x:Nat)):=gD.out 0 x rfl;have Iv:x<16:=kB x (Cu (i:=k) (by rw[sM];simp));have qX:=cQ w3 _ c0;obtain⟨K,hK⟩:∃K,h_ x l+1=K:=⟨_,rfl⟩;have ave:K<=q:=by have:=PI x l;omega
   have HU:=ae (ans sM);rw[hK]at HU;have ju:=ae (af hK zc)
   have sx:Hid (∀m,1<=m->m<=q->(m<c'->RY L n (.slice (some ⟨b,o+m,none⟩) (q-m) (c'-m)) (k+m) w)/\(m=c'->RY L n (.slice (some ⟨b,o,none⟩) (q-m) (c'-m)) (k+m) w)):=ae λ m h1 h2=>by
    have e:(L.drop k).drop m=L.drop (k+m):=uy;refine⟨λ h=>⟨_,q-m,c'-m,rfl,aa,aa,aa,?_⟩,λ h=>⟨_,q-m,c'-m,rfl,aa,aa,aa,?_⟩⟩
    ·rw[<-e];exact aax bY m
    ·rw[nD (by rw[HN.out];omega)];exact Rd.nil _ _
   have avf:(0:Int)<(q:Int):=aa;clear aV sM zc hK bY jt;go_wp2_with fail;go_loopw [4] (λ v4 w4=>∃i:Nat,v4= .int .i64 (i:Nat)/\1<=i/\i<=K/\Hid (Below w3.heap.size w3 w4)) (λ v4 _=>q-vnat v4)
   case atStart=>exact⟨1,rfl,aa,by have:=ju.out.1;omega,ae (aB _ _)⟩
   case round=>
    obtain⟨i,rfl,aaz,CS,cU⟩:=hrel;have aaA:=(cU.out.cell (p:=⟨b,o,none⟩) qX).trans c0;by_cases anu:i<K
    ·have Ni:(i:Int)<(q:Int):=aa
     have ci:=(cU.out.cell (p:=⟨b,o+i,none⟩) qX).trans (gD.out i x (by
      obtain⟨j,rfl⟩:∃j,i=j+1:=⟨i-1,aa⟩
      rw[eF]
      exact aav x l j (by have:=ju.out.1;omega)))
     have mZ:((x:Int)==(x:Int))=true:=aj;go_wp2_with fail;go_quiet (fail);go_wp2_with fail;go_roundw
     case rel=>exact⟨i+1,by first|rfl|go_num,aa,aa,ae (cU.out.trans ((awI wr _).mono cU.out.size))⟩
     case measure=>simp[vnat];omega
    ·obtain rfl:i=K:=aa
     have anv:(¬(i:Int)<(q:Int))∨∃y:Nat,(i:Int)<(q:Int)/\wr.cell? ⟨b,o+i,none⟩=some (.int .i64 (y:Nat))/\((y:Int)==(x:Int))=false:=by
      rcases gx i q with h|h
      ·obtain⟨j,rfl⟩:∃j,i=j+1:=⟨i-1,aa⟩;obtain⟨y,hy⟩:∃y,l[j]? =some y:=⟨_,aZ (by have:=ju.out.2;omega)⟩;have FT:h_ x l=j:=by have:=ju.out.1;omega
       have aS:=aaw x l y (by rw[FT];exact hy);exact .inr ⟨y,aa,(cU.out.cell (p:=⟨b,o+(j+1),none⟩) qX).trans (gD.out (j+1) y hy),by simp;omega⟩
      ·exact .inl aa
     have iX:=ae aay;obtain⟨dl,kM⟩:∃dl,D.length=dl:=⟨_,rfl⟩;have hX:=af (kL HO.out.1 cU.out) (HO.out.2.trans (cU.out.mono HO.out.2.size));rw[kM]at hX;have Qo:dl<=2000:=aa;have HX:=ae hX;have Bp:=ae kM;have ua:=ae (show eK (L.drop k)=nK x i++eK (L.drop (k+runK x i))from HU.out);have Nj:=ae (PJ x i aaz);have DJ:=ae (EW x i);clear kM aay HU HO anu hX;rcases anv with hex|⟨y,anw,cy,anx⟩
     all_goals first
      |(have anz:decide ((i:Int)<(q:Int))=false:=(by simp;omega)
        have anA:decide (i<q)=false:=(by simp;omega)
        go_wp2_with fail
        go_quiet (fail)
        clear anz anA hex)
      |(go_wp2_with fail
        go_quiet (fail)
        clear anw cy anx)
     all_goals
      have avg:(wr.drewN nq).cell? ⟨b,o,none⟩=some (.int .i64 (x:Nat)):=aaA
      have dY:Hid ((wr.drewN nq).ownsRow w.heap.size 411 3 _ dl (gR D)/\Below w.heap.size w (wr.drewN nq)):=ae ⟨kL HX.out.1 (awI wr nq),HX.out.2.trans ((awI wr nq).mono HX.out.2.size)⟩
      clear aaA HX cU
      generalize wr.drewN nq=w5 at*
      by_cases h1:x=0/\10<i
      ·obtain⟨rfl,xv⟩:=h1;have jt:=ae (show nK 0 i=[(18,7,min i 138-11)]/\runK 0 i=min i 138 by unfold nK runK;rw[if_pos ⟨rfl,xv⟩,if_pos ⟨rfl,xv⟩];exact⟨rfl,rfl⟩);obtain⟨m,hm⟩:∃m,min i 138=m:=⟨_,rfl⟩;rw[hm]at jt;have mW:(if(138:Int)<(i:Int)then(138:Int)else(i:Int))=(m:Int):=by split<;>omega
       have iq:1<=m:=aa;have avh:11<=m:=aa;have aaB:m<=q:=aa;have avi:(10:Int)<(i:Int):=aa;obtain⟨z,hz⟩:∃z,m-11=z:=⟨_,rfl⟩;have Nk:(m:Int)-11=(z:Int):=aa;rw[jt.out.1,jt.out.2,hz]at ua;clear hm xv Nj DJ jt hz;rcases gx m c' with pY|pY
       ·have RZ:¬m=c':=aa;have mE:=ae ((sx.out m aa aa).1 pY);go_wp2_with (at_builtin;go_must (refine vI _ rfl (.tmp 42) (.tmp 46) 408 rfl w.heap.size 411 3 24 Bj _ dl (gR D) dY.out.1 rfl _ 1 rfl rfl (by intro u hu;simp at hu;rcases hu with rfl|rfl|rfl<;>rfl) (by unfold maxLen;omega) aa dY.out.2.size ?_);intro v6 w6 j6 b9);go_roundw
        case rel=>exact⟨k+m,D++[(18,7,z)],mE,aa,ae (by rw[<-HD.out,ua.out,aN]),by rw[ag];have:=iX.out;simp;omega,ae ⟨by rw[ag,Bp.out,Bh];exact j6,dY.out.2.trans b9⟩⟩
        case measure=>simp[jK];omega
       ·obtain rfl:m=c':=aa;have zd:m=i:=aa;subst zd;have p':=(sx.out m aa aa).2 rfl;rw[show q-m=0 by omega,gy]at p';have mE:=ae p';clear p';go_wp2_with (at_builtin;go_must (refine vI _ rfl (.tmp 42) (.tmp 46) 408 rfl w.heap.size 411 3 24 Bj _ dl (gR D) dY.out.1 rfl _ 1 rfl rfl (by intro u hu;simp at hu;rcases hu with rfl|rfl|rfl<;>rfl) (by unfold maxLen;omega) aa dY.out.2.size ?_);intro v6 w6 j6 b9);go_roundw
        case rel=>exact⟨k+m,D++[(18,7,z)],mE,aa,ae (by rw[<-HD.out,ua.out,aN]),by rw[ag];have:=iX.out;simp;omega,ae ⟨by rw[ag,Bp.out,Bh];exact j6,dY.out.2.trans b9⟩⟩
        case measure=>simp[jK];omega
      ·by_cases h2:x=0/\2<i
       ·obtain⟨rfl,h3⟩:=h2;have xv:¬(10:Int)<(i:Int):=aa;have jt:=ae (show nK 0 i=[(17,3,i-3)]/\runK 0 i=i by unfold nK runK;rw[if_neg h1,if_neg h1,if_pos ⟨rfl,h3⟩,if_pos ⟨rfl,h3⟩];exact⟨rfl,rfl⟩);obtain⟨m,hm⟩:∃m,m=i:=⟨_,rfl⟩;have iq:1<=m:=aa;have aaB:m<=q:=aa;have amI:(2:Int)<(i:Int):=aa;obtain⟨z,hz⟩:∃z,i-3=z:=⟨_,rfl⟩;have Nk:(i:Int)-3=(z:Int):=aa;rw[jt.out.1,jt.out.2,hz]at ua;subst hm;clear h3 Nj DJ jt hz h1;rcases gx m c' with pY|pY
        ·have RZ:¬m=c':=aa;have mE:=ae ((sx.out m aa aa).1 pY);go_wp2_with (at_builtin;go_must (refine vI _ rfl (.tmp 57) (.tmp 61) 408 rfl w.heap.size 411 3 24 Bj _ dl (gR D) dY.out.1 rfl _ 1 rfl rfl (by intro u hu;simp at hu;rcases hu with rfl|rfl|rfl<;>rfl) (by unfold maxLen;omega) aa dY.out.2.size ?_);intro v6 w6 j6 b9);go_roundw
         case rel=>exact⟨k+m,D++[(17,3,z)],mE,aa,ae (by rw[<-HD.out,ua.out,aN]),by rw[ag];have:=iX.out;simp;omega,ae ⟨by rw[ag,Bp.out,Bh];exact j6,dY.out.2.trans b9⟩⟩
         case measure=>simp[jK];omega
        ·obtain rfl:m=c':=aa;have p':=(sx.out m aa aa).2 rfl;rw[show q-m=0 by omega,gy]at p';have mE:=ae p';clear p';go_wp2_with (at_builtin;go_must (refine vI _ rfl (.tmp 57) (.tmp 61) 408 rfl w.heap.size 411 3 24 Bj _ dl (gR D) dY.out.1 rfl _ 1 rfl rfl (by intro u hu;simp at hu;rcases hu with rfl|rfl|rfl<;>rfl) (by unfold maxLen;omega) aa dY.out.2.size ?_);intro v6 w6 j6 b9);go_roundw
         case rel=>exact⟨k+m,D++[(17,3,z)],mE,aa,ae (by rw[<-HD.out,ua.out,aN]),by rw[ag];have:=iX.out;simp;omega,ae ⟨by rw[ag,Bp.out,Bh];exact j6,dY.out.2.trans b9⟩⟩
         case measure=>simp[jK];omega
       ·by_cases h3:3<i
        ·skip;have jt:=ae (show nK x i=[(x,0,0),(16,2,min i 7-4)]/\runK x i=min i 7 by unfold nK runK;rw[if_neg h1,if_neg h1,if_neg h2,if_neg h2,if_pos h3,if_pos h3];exact⟨rfl,rfl⟩)
         have iF:((x:Int)==0)=false:=by
          simp;omega
         obtain⟨m,hm⟩:∃m,min i 7=m:=⟨_,rfl⟩;rw[hm]at jt;have mW:(if(7:Int)<(i:Int)then(7:Int)else(i:Int))=(m:Int):=by split<;>omega
         have iq:1<=m:=aa;have aaB:m<=q:=aa;have Rx:(3:Int)<(i:Int):=aa;obtain⟨z,hz⟩:∃z,m-4=z:=⟨_,rfl⟩;have Nk:(m:Int)-4=(z:Int):=aa;rw[jt.out.1,jt.out.2,hz]at ua;clear hm h3 Nj DJ jt hz h1 h2;rcases gx m c' with pY|pY
         ·have RZ:¬m=c':=aa;have mE:=ae ((sx.out m aa aa).1 pY);go_wp2_with (at_builtin;go_must (refine vI _ rfl (.tmp 68) (.tmp 76) 408 rfl w.heap.size 411 3 24 Bj _ dl (gR D) dY.out.1 rfl _ 2 rfl rfl (by intro u hu;simp at hu;rcases hu with rfl|rfl|rfl|rfl|rfl|rfl<;>rfl) (by unfold maxLen;omega) aa dY.out.2.size ?_);intro v6 w6 j6 b9);go_roundw
          case rel=>exact⟨k+m,D++[(x,0,0),(16,2,z)],mE,aa,ae (by rw[<-HD.out,ua.out,aN]),by rw[ag];have:=iX.out;simp;omega,ae ⟨by rw[ag,Bp.out,Bh];exact j6,dY.out.2.trans b9⟩⟩
          case measure=>simp[jK];omega
         ·obtain rfl:m=c':=aa;have zd:m=i:=aa;subst zd;have p':=(sx.out m aa aa).2 rfl;rw[show q-m=0 by omega,gy]at p';have mE:=ae p';clear p';go_wp2_with (at_builtin;go_must (refine vI _ rfl (.tmp 68) (.tmp 76) 408 rfl w.heap.size 411 3 24 Bj _ dl (gR D) dY.out.1 rfl _ 2 rfl rfl (by intro u hu;simp at hu;rcases hu with rfl|rfl|rfl|rfl|rfl|rfl<;>rfl) (by unfold maxLen;omega) aa dY.out.2.size ?_);intro v6 w6 j6 b9);go_roundw
          case rel=>exact⟨k+m,D++[(x,0,0),(16,2,z)],mE,aa,ae (by rw[<-HD.out,ua.out,aN]),by rw[ag];have:=iX.out;simp;omega,ae ⟨by rw[ag,Bp.out,Bh];exact j6,dY.out.2.trans b9⟩⟩
          case measure=>simp[jK];omega
        ·skip;have jt:=ae (show nK x i=[(x,0,0)]/\runK x i=1 by unfold nK runK;rw[if_neg h1,if_neg h1,if_neg h2,if_neg h2,if_neg h3,if_neg h3];exact⟨rfl,rfl⟩);have Rx:¬(3:Int)<(i:Int):=aa;rw[jt.out.1,jt.out.2]at ua;have xv:¬(10:Int)<(i:Int):=aa
         have iF:(((x:Int)==0)=true/\¬(2:Int)<(i:Int))∨((x:Int)==0)=false:=by
          by_cases hx:x=0
          ·exact .inl ⟨by rw[hx];rfl,aa⟩
          ·right;simp;omega
         clear h3 Nj DJ jt h1 h2;rcases iF with⟨avj,ff⟩|iF
         all_goals
          rcases gx 1 c' with pY|pY
          ·have RZ:¬1=c':=aa;have mE:=ae ((sx.out 1 aa aa).1 pY);go_wp2_with (at_builtin;go_must (refine vI _ rfl (.tmp 24) (.tmp 29) 408 rfl w.heap.size 411 3 24 Bj _ dl (gR D) dY.out.1 rfl _ 1 rfl rfl (by intro u hu;simp at hu;rcases hu with rfl|rfl|rfl<;>rfl) (by unfold maxLen;omega) aa dY.out.2.size ?_);intro v6 w6 j6 b9);go_roundw
           case rel=>exact⟨k+1,D++[(x,0,0)],mE,aa,ae (by rw[<-HD.out,ua.out,aN]),by rw[ag];have:=iX.out;simp;omega,ae ⟨by rw[ag,Bp.out,Bh];exact j6,dY.out.2.trans b9⟩⟩
           case measure=>simp[jK];omega
          ·obtain rfl:1=c':=aa;have p':=(sx.out 1 aa aa).2 rfl;rw[show q-1=0 by omega,gy]at p';have mE:=ae p';clear p';go_wp2_with (at_builtin;go_must (refine vI _ rfl (.tmp 24) (.tmp 29) 408 rfl w.heap.size 411 3 24 Bj _ dl (gR D) dY.out.1 rfl _ 1 rfl rfl (by intro u hu;simp at hu;rcases hu with rfl|rfl|rfl<;>rfl) (by unfold maxLen;omega) aa dY.out.2.size ?_);intro v6 w6 j6 b9);go_roundw
           case rel=>exact⟨k+1,D++[(x,0,0)],mE,aa,ae (by rw[<-HD.out,ua.out,aN]),by rw[ag];have:=iX.out;simp;omega,ae ⟨by rw[ag,Bp.out,Bh];exact j6,dY.out.2.trans b9⟩⟩
           case measure=>simp[jK];omega
