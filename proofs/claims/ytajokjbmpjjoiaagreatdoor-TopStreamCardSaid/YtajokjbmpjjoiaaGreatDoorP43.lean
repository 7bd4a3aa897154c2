import Derived.Test.YtajokjbmpjjoiaaGreatDoorP31
import Derived.Test.YtajokjbmpjjoiaaGreatDoorP32
import Derived.Test.YtajokjbmpjjoiaaGreatDoorP38
import Derived.Test.YtajokjbmpjjoiaaGreatDoorP42
set_option maxRecDepth 20000
set_option maxHeartbeats 0
set_option linter.unusedSimpArgs false
set_option linter.unusedVariables false
namespace Go.Proofs.YtajokjbmpjjoiaaGreatDoor
section
open Go.RowKit Go.Lib
theorem ar4 (S:List UInt8)(j:Nat):iH S j=(S.drop (192*j)).take (min 192 (S.drop (192*j)).length)++List.replicate (192-min 192 (S.drop (192*j)).length) 0:=by
 unfold iH;rw[ba];congr 1;rcases Nat.le_total 192 (S.drop (192*j)).length with h|h
 ·rw[lB h]
 ·rw[Nat.min_eq_right h,bQ h,bQ (ai _)]
theorem ar5 (S:List UInt8)(j:Nat):(S.drop (192*j)).drop (min 192 (S.drop (192*j)).length)=S.drop (192*(j+1)):=by
 rcases Nat.le_total 192 (S.drop (192*j)).length with h|h
 ·rw[lB h,uy,show 192*j+192=192*(j+1)by omega]
 ·rw[Nat.min_eq_right h,rU (ai _)];rw[cw]at h;rw[rU aa]
def sY (S:List UInt8):List ByteArray:=(EZ S).map av
theorem aeY (S:List UInt8):(sY S).length=cM S:=by unfold sY;rw[eG,WH]
theorem ar6 (S:List UInt8)(j:Nat)(h:j<cM S):(sY S).take j++[av (iH S j)]=(sY S).take (j+1):=by
 unfold sY;rw[eu,eH,PQ S j h];rfl
theorem ar7 (s:ByteArray)(hs:s.size<=100000)(w:World):Calls Tryz.prog 22 #[.string s] w (rX w (cM s.toList) (cO (sY s.toList))):=by
 obtain⟨B,hB⟩:∃B,w.heap.size=B:=⟨_,rfl⟩;have mK:=ae hB;obtain⟨S,hS⟩:∃S,s.toList=S:=⟨_,rfl⟩;have dt:=ae (af hS (show S.length<=100000 by rw[<-hS,aD];exact hs));rw[hS];clear hB hs hS;go_enter Tryz.func22,Tryz.ntmps22;go_wp2_with fail;go_loopw [0,3] (λ v0 y3 wr=>∃(v3:Value) (j:Nat) (t:ByteArray),v3=y3/\v0= .string t/\j<=cM S/\Hid (t.toList=S.drop (192*j))/\Hid (wr.ownsRow B 9 1 v3 j (cO ((sY S).take j))/\Below B w wr)) (λ v0 _ _=>match v0 with| .string t=>t.size|_=>0)
 case atStart=>exact⟨_,0,s,rfl,rfl,aa,ae (by rw[dt.out.1];rfl),ae ⟨jD _ _ _ _,by rw[<-mK.out];exact aB _ _⟩⟩
 case round=>
  obtain⟨v3,j,t,rfl,rfl,hj,HT,HX⟩:=hrel;by_cases he:t.toList=[]
  ·have wR:t.toList.isEmpty=true:=by rw[he];rfl
   have H_:Hid (j=cM S/\True):=ae ⟨by
    have h:=HT.out
    rw[he]at h
    have h2:(S.drop (192*j)).length=0:=by rw[<-h];rfl
    rw[cw]at h2
    unfold cM at hj⊢
    omega,trivial⟩
   have aw:=HX.out.1;rw[bQ (by rw[aeY];have:=H_.out.1;omega)]at aw;have HR:Hid (rX w (cM S) (cO (sY S)) (.returned v3) wr):=ae (by rw[<-H_.out.1];exact rX.own aw (by rw[mK.out];exact HX.out.2) (by rw[mK.out];exact ai _));clear aw HX he;go_wp2_with fail;go_ret;exact HR.out
  ·have wR:t.toList.isEmpty=false:=by cases h:t.toList with|nil=>exact absurd h he|cons=>rfl
   have eL:0<t.size:=by rw[<-aD];exact oK.2 he
   have tC:t.size=S.length-192*j:=by rw[<-aD,HT.out,cw]
   have nT:j<cM S:=by unfold cM;omega
   obtain⟨m,hm⟩:∃m:Nat,min 192 t.size=m:=⟨_,rfl⟩;have iq:m<=t.size/\0<m/\m<=192:=aa;have n3:(if(192:Int)<(t.size:Int)then(192:Int)else(t.size:Int))=(m:Int):=by split<;>omega
   have n4:min (192:Int) (t.size:Int)=(m:Int):=aa;obtain⟨q,hq⟩:∃q:Nat,192-m=q:=⟨_,rfl⟩;obtain⟨x,hx⟩:∃x,t.extract 0 m=x:=⟨_,rfl⟩;have eB:x.size=m:=by rw[<-hx,<-aD,rW,ba,aD];omega
   have awm:(192:Int)-(x.size:Int)=(q:Int):=by rw[eB];omega
   obtain⟨z,hz⟩:∃z,av (List.replicate q (0:UInt8))=z:=⟨_,rfl⟩;have DJ:=ae (λ w'=>abQ q (q:Int) rfl z hz aa w');have lh:z.size=q:=by rw[<-hz,cV,cA]
   obtain⟨u,hu⟩:∃u,x++z=u:=⟨_,rfl⟩;have m1:¬(9223372036854775807<x.size+z.size):=aa
   have HU:=ae (show u=av (iH S j)by
    rw[ar4,<-HT.out,aD,hm,hq,<-KC,hz,<-hu,<-hx];congr 1;exact ma (by rw[rW,cn]))
   have Gq:=ae (ar6 S j nT);obtain⟨t2,jI⟩:∃t2,t.extract m t.size=t2:=⟨_,rfl⟩;have jX:Hid (t2.toList=S.drop (192*(j+1))):=ae (by rw[<-jI,tg,<-ar5,<-HT.out,aD,hm]);have ar8:=ae (show t2.size<t.size by rw[<-aD,jX.out,cw];omega);have rZ:(m:Int)<=(t.size:Int):=aa;have rh:(0:Int)<=(m:Int):=aa;have awn:j<=1000:=by have:=dt.out.2;omega
   have pO:=HX;clear hm hq hz eB lh tC eL he iq;go_wp2_with fail;(with_reducible refine(DJ.out wr).mono ?_);rintro e w1 ⟨rfl,au⟩;have aw:w1.ownsRow B 9 1 v3 j (cO ((sY S).take j)):=kL HX.out.1 au;have HOW:=ae aw;have cD:=ae (HX.out.2.trans (au.mono (by rw[<-mK.out];exact(mK.out▸HX.out.2).size)));have Tc:=ae (show B<=w1.heap.size from b_ (by rw[<-mK.out];exact(mK.out▸HX.out.2).size) au.size);clear au aw HX pO DJ;go_wp2_with (at_builtin;go_must (refine lg w1 rfl (.tmp 17) (.tmp 24) 27 rfl B 9 1 16 N2 v3 j _ HOW.out rfl #[.string u] rfl rfl (by intro u hu;simp at hu;subst hu;rfl) (by unfold maxLen;omega) aa Tc.out ?_);intro v4 w2 dk aC;have mr:=ae (af dk (cD.out.trans aC));clear dk aC);go_roundw
   case rel=>exact⟨_,j+1,t2,rfl,rfl,aa,jX,ae ⟨by rw[<-Gq.out,<-N3,<-HU.out];exact mr.out.1,mr.out.2⟩⟩
   case measure=>exact ar8.out
def aeZ (l:List Fl)(w:World)(e:Ending)(w':World):Prop:=∃us:List (List Bool),sd (c_ (dp l)) us/\(aX us.flatten).length<=(dp l).size+5/\e= .returned (.tuple #[.string (av (aX us.flatten)),.int .i64 ((dp l).size:Nat),.int .i64 0])/\Below w.heap.size w w'
theorem ar9 (l:List Fl)(A:Option Addr)(n c:Nat)(k:Int)(hk:iW l=k)(eR:k≠0)(hn:l.length=n)(hc:n<=c)(nS:n<=1000)(aG:∀x∈l,x.1.size<=100000000/\x.2.size<=100000000)(w:World)(hr:Rd w A (fl l)):
 Calls Tryz.prog 21 #[.slice A n c] w λ e w'=>e= .returned (.tuple #[.string ⟨#[]⟩,.int .i64 0,.int .i64 k])/\Below w.heap.size w w':=by
 have HP:=ae (ac1 l A n c k (dp l) hk rfl hn hc nS aG w hr);obtain⟨s,hs⟩:∃s,dp l=s:=⟨_,rfl⟩;rw[hs]at HP;have oP:(k !=0)=true:=by simpa using eR
 have bI:(k==0)=false:=by simpa using eR
 clear hk eR hn aG hr hs;go_enter Tryz.func21,Tryz.ntmps21;go_wp2_with fail;(with_reducible refine HP.out.mono ?_);rintro e w1 ⟨rfl,au⟩;have HB:=ae au;clear au HP;go_wp2_with fail;go_ret3;exact⟨rfl,HB.out⟩
theorem asa (l:List Fl)(A:Option Addr)(n c:Nat)(hk:iW l=0)(hs:(dp l).size<=40000)(hn:l.length=n)(hc:n<=c)(nS:n<=1000)(aG:∀x∈l,x.1.size<=100000000/\x.2.size<=100000000)(w:World)(hr:Rd w A (fl l)):
 Calls Tryz.prog 21 #[.slice A n c] w (aeZ l w):=by
 have HP:=ae (ac1 l A n c 0 (dp l) hk rfl hn hc nS aG w hr);unfold aeZ;obtain⟨s,eI⟩:∃s,dp l=s:=⟨_,rfl⟩;rw[eI]at HP hs⊢;have HF:=ae (λ w'=>ari s aa w');have j3:=ae hs;clear hk hn aG hr hs eI;go_enter Tryz.func21,Tryz.ntmps21;go_wp2_with fail;(with_reducible refine HP.out.mono ?_);rintro e w1 ⟨rfl,au⟩;have HB:=ae au;clear au HP;go_wp2_with fail;(with_reducible refine(HF.out w1).mono ?_);rintro e w2 ⟨us,hp,⟨rfl,aC⟩,hl⟩;have fB:=ae hp;obtain⟨t,ht⟩:∃t,av (aX us.flatten)=t:=⟨_,rfl⟩;have eL:t.size<=s.size+5:=by rw[<-ht,cV];exact hl
 have hlen:¬(49152:Int)<(t.size:Int):=by have:=j3.out;omega
 have bG:=ae (bl HB.out aC);have HT:=ae (af ht hl);rw[ht];clear hp aC hl ht eL HB;go_wp2_with fail;go_ret3;exact⟨us,fB.out,HT.out.2,by rw[HT.out.1];rfl,bG.out⟩
def j_ (en mc:ByteArray)(S:List UInt8):List ByteArray:=(EZ S).mapIdx λ i c=>av (nA en.toList mc.toList i c)
theorem OJ (en mc:ByteArray)(S:List UInt8):(j_ en mc S).length=cM S:=by unfold j_;rw[uz,WH]
theorem Uo (en mc:ByteArray)(S:List UInt8)(i:Nat)(h:i<cM S):(j_ en mc S)[i]? =some (av (nA en.toList mc.toList i (iH S i))):=by
 unfold j_;rw[List.getElem?_mapIdx,PQ S i h];rfl
theorem asb (en mc:ByteArray)(S:List UInt8)(i:Nat)(h:i<cM S):(j_ en mc S).take i++[av (nA en.toList mc.toList i (iH S i))]=(j_ en mc S).take (i+1):=by
 rw[eu,Uo en mc S i h];rfl
theorem Up (en mc:ByteArray)(S:List UInt8):∀s∈j_ en mc S,s.size=224:=λ s hs=>by
 obtain⟨i,hi,he⟩:=List.mem_iff_getElem.1 hs;have h2:=Uo en mc S i (by rw[OJ]at hi;exact hi);rw[aZ hi,he]at h2
 cases h2
 rw[cV,aeX,G7]
def wD (secret bS:ByteArray)(id:Int)(S:List UInt8)(raw:Int):ByteArray:=rf (ph secret) id bS (cM S:Nat) (S.length:Nat) raw (mJ (j_ (iY secret bS) (iZ secret bS) S))
def ae0 (w:World)(secret bS:ByteArray)(id:Int)(S:List UInt8)(raw:Int)(e:Ending)(w':World):Prop:=
 ∃A c,e= .returned (.tuple #[wk id bS (cM S:Nat) (S.length:Nat) raw (mJ (j_ (iY secret bS) (iZ secret bS) S)) (wD secret bS id S raw) A (cM S) c,.int .i64 0])/\cM S<=c/\c<=maxLen/\Rd w' A (cO (j_ (iY secret bS) (iZ secret bS) S))/\Below w.heap.size w w'/\w'.ownsRow w.heap.size 9 1 (.slice A (cM S) c) (cM S) (cO (j_ (iY secret bS) (iZ secret bS) S))
theorem asc {w:World}{b b2 size n:Nat}{e:TypeId}{v:Value}{xs:List Value}(h:w.ownsRow b e size v n xs)(hb:b2<=b):w.ownsRow b2 e size v n xs:=by
 refine⟨h.1,h.2.imp id ?_⟩;rintro⟨g,cap,cur,h1,h2,h3⟩;exact⟨g,cap,cur,h1,b_ hb h2,h3⟩
theorem ae1 {w w':World}{b size n g:Nat}{e:TypeId}{v:Value}{xs:List Value}(h:w.ownsRow b e size v n xs)(hg:w.grownBy w' (some g))(hb:g<b):w'.ownsRow b e size v n xs:=
 h.kept hg (by
   rcases h.2 with⟨rfl,_⟩|⟨g2,cap,cur,rfl,h2,_⟩
   ·exact .inl rfl
   ·exact .inr (by simp[Value.ownBlock];omega))
def ae2 (w:World)(l:List Fl)(secret bS:ByteArray)(id:Int)(e:Ending)(w':World):Prop:=
 ∃us:List (List Bool),sd (c_ (dp l)) us/\(aX us.flatten).length<=(dp l).size+5/\ae0 w secret bS id (aX us.flatten) ((dp l).size:Nat) e w'
def rI:Array Value:=#[.int .i64 0,.string ⟨#[]⟩,.int .i64 0,.int .i64 0,.int .i64 0,.string ⟨#[]⟩,.string ⟨#[]⟩,.slice none 0 0]
theorem asd (l:List Fl)(A:Option Addr)(n c:Nat)(k:Int)(secret bS:ByteArray)(id:Int)(pg:bS.size=16)(Uq:1<=id)(Ur:id<=1000)(hk:iW l=k)(eR:k≠0)(hn:l.length=n)(hc:n<=c)(nS:n<=1000)(aG:∀x∈l,x.1.size<=100000000/\x.2.size<=100000000)(w:World)(hr:Rd w A (fl l)):
 Calls Tryz.prog 6 #[.string secret,.string bS,.int .i64 id,.slice A n c] w λ e w'=>e= .returned (.tuple #[.agg rI,.int .i64 k])/\Below w.heap.size w w':=by
 have ej:=xP w (.cells rI 29);have Gr:=ae (ar9 l A n c k hk eR hn hc nS aG (w.alloc (.cells rI 29)) (hr.below ej));have jv:=ae (af ej (Bk.new w 29 rI));have oP:(k !=0)=true:=by simpa using eR
 have kB:((bS.size:Int) !=16)=false:=by rw[pg];rfl
 have n1:¬id<1:=aa;have n2:¬(4294967295:Int)<id:=aa;unfold rI at*;clear ej pg Uq Ur hk eR hn hc nS aG hr;go_enter Tryz.func6,Tryz.ntmps6;go_upto_region 1 with fail;generalize w.alloc (.cells #[.int .i64 0,.string ⟨#[]⟩,.int .i64 0,.int .i64 0,.int .i64 0,.string ⟨#[]⟩,.string ⟨#[]⟩,.slice none 0 0] 29)=w0 at*;generalize hg:w.heap.size=g at*;go_wp2_with fail;(with_reducible refine Gr.out.mono ?_);rintro e w1 ⟨rfl,au⟩;have hB:=Bk.aL jv.out.2 au;have cD:=ae (jv.out.1.trans (au.mono (by rw[<-hg];exact jv.out.1.size)));have mC:=ae hB;clear au hB jv Gr;go_wp2_with (refine nG rfl 29 _ _ rfl g #[.int .i64 0,.string ⟨#[]⟩,.int .i64 0,.int .i64 0,.int .i64 0,.string ⟨#[]⟩,.string ⟨#[]⟩,.slice none 0 0] rfl rfl 29 _ mC.out Cf rfl (Td _ _ _ _ _ _ _ _ _ _) ?_);refine eX (MP Tryz.results6 _ _ g 29 #[.int .i64 0,.string ⟨#[]⟩,.int .i64 0,.int .i64 0,.int .i64 0,.string ⟨#[]⟩,.string ⟨#[]⟩,.slice none 0 0] (0,0) _ _ rfl rfl (kd w1 g _ _ 29 (0,0) mC.out) Tryz.underlying29 rfl Cf) rfl ⟨rfl,?_⟩;exact below_setRow (by rw[hg];exact cD.out) (Nat.le_of_eq hg) _
structure zC (w wr:World)(g iB dg B2:Nat)(en mc hd:ByteArray)(A1:Option Addr)(chunks bl:List ByteArray)(v:Value)(i:Nat):Prop where
 res:Bk wr g 29 rI
 keys:Bk wr iB 40 #[.string en,.string mc,.string hd]
 rJ:Bk wr dg 29 #[.int .i64 0,.string ⟨#[]⟩,.int .i64 0,.int .i64 0,.int .i64 0,.string ⟨#[]⟩,.string ⟨#[]⟩,v]
 own:wr.ownsRow B2 9 1 v i (cO (bl.take i))
 ch:Rd wr A1 (cO chunks)
 off:cO chunks≠[]->∀ad,A1=some ad->dg<ad.block/\ad.block<B2
 b:Below g w wr
 lt:g<iB/\iB<dg/\dg<B2/\B2<=wr.heap.size
theorem zC.below {w wr w':World}{g iB dg B2:Nat}{en mc hd:ByteArray}{A1:Option Addr}{chunks bl:List ByteArray}{v:Value}{i:Nat}(h:zC w wr g iB dg B2 en mc hd A1 chunks bl v i)(hb:Below wr.heap.size wr w'):zC w w' g iB dg B2 en mc hd A1 chunks bl v i:=
 ⟨h.res.aL hb,h.keys.aL hb,h.rJ.aL hb,kL h.own hb,h.ch.below hb,h.off,h.b.trans (hb.mono (by have:=h.lt;omega)),by have:=h.lt;have:=hb.size;omega⟩
theorem ase {w w':World}{A:Option Addr}{xs:List Value}{B:Nat}(h:Rd w A xs)(hB:xs≠[]->∀ad,A=some ad->ad.block<B)(hb:Below B w w'):Rd w' A xs:=λ hn=>by
 obtain⟨b,o,e,hc⟩:=h hn;exact⟨b,o,e,λ j u hj=>(hb.cell (p:=⟨b,o+j,none⟩) (show b<B from hB hn ⟨b,o,none⟩ e)).trans (hc j u hj)⟩
theorem zC.put {w wr w':World}{g iB dg B2:Nat}{en mc hd:ByteArray}{A1:Option Addr}{chunks bl:List ByteArray}{v v':Value}{i:Nat}{s:ByteArray}(h:zC w wr g iB dg B2 en mc hd A1 chunks bl v i)(aw:w'.ownsRow B2 9 1 v' (i+1) (cO (bl.take i)++[.string s]))(hb:Below B2 wr w')(hs:bl.take i++[s]=bl.take (i+1)):
 zC w (w'.setCell ⟨dg,7,none⟩ v') g iB dg B2 en mc hd A1 chunks bl v' (i+1):=by
 obtain⟨l1,l2,l3,l4⟩:=h.lt;refine⟨Bk.far (h.res.below hb aa) (p:=⟨dg,7,none⟩) (show g≠dg by omega) _,Bk.far (h.keys.below hb aa) (p:=⟨dg,7,none⟩) (show iB≠dg by omega) _,?_,?_,(ase h.ch (λ hn ad e=>(h.off hn ad e).2) hb).only (aY _ _ _ _) (λ hn ad e=>by have:=(h.off hn ad e).1;omega),h.off,(h.b.trans (hb.mono aa)).setCell (p:=⟨dg,7,none⟩) (show g<=dg by omega) _,⟨l1,l2,l3,by have:=hb.size;simp[World.setCell];omega⟩⟩
 ·exact(h.rJ.below hb l3).aP 7 v'
 ·rw[<-hs,<-N3]
  exact aw.kept (row:=some dg) (aY w' dg 7 v') (by
   by_cases hv:v'.ownBlock=none
   ·exact Or.inl hv
   ·refine Or.inr λ e=>?_;have:=(aw.lt dg e).1;omega)
theorem ae3 {w w1:World}(hb:Below w.heap.size w w1){a0 a1:Addr}{v0 v1:Value}(h:w.cell? a0=some v0/\w.cell? a1=some v1):w1.cell? a0=some v0/\w1.cell? a1=some v1:=by
 have k:∀{a:Addr} {v:Value},w.cell? a=some v->w1.cell? a=some v:=λ h=>(hb.cell (cQ w _ h)).trans h;exact⟨k h.1,k h.2⟩
set_option maxRecDepth 100000 in
theorem ae4 (l:List Fl) (A:Option Addr) (n c:Nat) (secret bS:ByteArray) (id:Int) (xU:secret.size<=1000) (pg:bS.size=16) (Uq:1<=id) (Ur:id<=1000) (hk:iW l=0) (hs:(dp l).size<=40000) (hn:l.length=n) (hc:n<=c) (nS:n<=1000) (aG:∀x∈l,x.1.size<=100000000/\x.2.size<=100000000) (w:World) (hr:Rd w A (fl l)):
 Calls Tryz.prog 6 #[.string secret,.string bS,.int .i64 id,.slice A n c] w (ae2 w l secret bS id):=by
 have ej:=xP w (.cells rI 29);have Gr:=ae (asa l A n c hk hs hn hc nS aG (w.alloc (.cells rI 29)) (hr.below ej));have jv:=ae (af ej (Bk.new w 29 rI));have Eh:=ae (λ w'=>Sf secret bS aa aa w');unfold Ny at Eh;have Us:=ae (af (Sd secret bS) (af (Se secret bS) (Nx secret)));unfold ae2 ae0 wD;generalize iY secret bS=en at*;generalize iZ secret bS=mc at*;generalize ph secret=hd at*;have xJ:=ae hs;generalize oX:dp l=ps at*;have kB:((bS.size:Int) !=16)=false:=by rw[pg];rfl
 have n1:¬id<1:=aa;have n2:¬(4294967295:Int)<id:=aa;have J3:=ae oX;have Ut:=ae pg;clear ej xU pg Uq Ur hk hs hn hc nS aG hr oX;unfold rI at Gr jv;go_enter Tryz.func6,Tryz.ntmps6;go_upto_region 1 with fail;generalize w.alloc (.cells #[.int .i64 0,.string ⟨#[]⟩,.int .i64 0,.int .i64 0,.int .i64 0,.string ⟨#[]⟩,.string ⟨#[]⟩,.slice none 0 0] 29)=w0 at*;generalize hg:w.heap.size=g at*;go_wp2_with fail;(with_reducible refine Gr.out.mono ?_);rintro e w1 ⟨us,hp,hl,rfl,au⟩;rw[J3.out]at hp hl;have fB:=ae (af hp hl);obtain⟨S,hS⟩:∃S,aX us.flatten=S:=⟨_,rfl⟩;rw[hS]at hl;simp only[hS,J3.out];have HS:=ae hS;obtain⟨t,ht⟩:∃t,av S=t:=⟨_,rfl⟩;have HT:=ae (af ht (show(t.size:Int)=(S.length:Int)by rw[<-ht,cV]));simp only[ht];have H1:=ae (af (Bk.aL jv.out.2 au) (jv.out.1.trans (au.mono (by rw[<-hg];exact jv.out.1.size))));have Oy:S.length<=40005:=by have:=xJ.out;omega
 have zA:g<w1.heap.size:=H1.out.1.lt;clear hp hl au jv Gr hS ht;go_wp2_with fail;(with_reducible refine(Eh.out w1).mono ?_);rintro e w2 ⟨rfl,aC⟩;have H2:=ae (af (Bk.aL H1.out.1 aC) (H1.out.2.trans (aC.mono (Nat.le_of_lt zA))));have fO:g<w2.heap.size:=H2.out.1.lt;clear aC H1 Eh;go_upto_region 8 with fail;have t_:=Bk.new w2 40 #[.string en,.string mc,.string hd];have Uu:=xP w2 (.cells #[.string en,.string mc,.string hd] 40);have tF:=Bk.new (w2.alloc (.cells #[.string en,.string mc,.string hd] 40)) 29 rI;have Ko:=xP (w2.alloc (.cells #[.string en,.string mc,.string hd] 40)) (.cells rI 29);unfold rI at tF Ko;have ae5:((w2.alloc (.cells #[.string en,.string mc,.string hd] 40)).alloc (.cells #[.int .i64 0,.string ⟨#[]⟩,.int .i64 0,.int .i64 0,.int .i64 0,.string ⟨#[]⟩,.string ⟨#[]⟩,.slice none 0 0] 29)).heap.size=w2.heap.size+2:=aj;have ae6:=Bk.aL t_ Ko;have lI:=Bk.aL (Bk.aL H2.out.1 Uu) Ko;have zo:Below g w ((w2.alloc (.cells #[.string en,.string mc,.string hd] 40)).alloc (.cells #[.int .i64 0,.string ⟨#[]⟩,.int .i64 0,.int .i64 0,.int .i64 0,.string ⟨#[]⟩,.string ⟨#[]⟩,.slice none 0 0] 29)):=(H2.out.2.trans (Uu.mono (Nat.le_of_lt fO))).trans (Ko.mono (by simp;omega));rw[show(w2.alloc (.cells #[.string en,.string mc,.string hd] 40)).heap.size=w2.heap.size+1 by simp]at tF;clear t_ Uu Ko H2;generalize(w2.alloc (.cells #[.string en,.string mc,.string hd] 40)).alloc (.cells #[.int .i64 0,.string ⟨#[]⟩,.int .i64 0,.int .i64 0,.int .i64 0,.string ⟨#[]⟩,.string ⟨#[]⟩,.slice none 0 0] 29)=w3 at*;generalize w2.heap.size=iB at*;generalize ae7:iB+1=dg at*;have H3:=ae (af lI (af ae6 (af tF (af zo (af ae5 ae7)))));have hN:cM S<=210:=by unfold cM;omega
 have awo:=Oy;have Kp:=ae (ar7 (av S) (by rw[cV];omega) w3);rw[cn,HT.out.1]at Kp;obtain⟨N,jB⟩:∃N,cM S=N:=⟨_,rfl⟩;have y_:=ae jB;rw[jB]at Kp hN;have asf:=ae (show(sY S).length=N by rw[aeY,jB])
 have Ec:=ae (λ i (h:i<N)=>show(sY S)[i]? =some (av (iH S i))/\(j_ en mc S).take i++[av (nA en.toList mc.toList i (iH S i))]=(j_ en mc S).take (i+1)by
  rw[<-jB]at h;exact⟨by unfold sY;rw[eH,PQ S i h];rfl,asb en mc S i h⟩)
 have cS:=ae (show(j_ en mc S).length=N/\∀s∈j_ en mc S,s.size=224 from⟨by rw[OJ,jB],Up en mc S⟩);obtain⟨CH,ae8⟩:∃CH,sY S=CH:=⟨_,rfl⟩;obtain⟨BL,Gs⟩:∃BL,j_ en mc S=BL:=⟨_,rfl⟩;simp only[ae8,Gs]at Ec Kp asf cS;have mK:=ae Gs;clear ae8 Gs jB lI ae6 tF zo ae5 ae7;go_wp2_with fail;(with_reducible refine Kp.out.mono ?_);rintro e w4 ⟨A1,c1,rfl,cR,bT,fK,ae9,cu⟩;obtain⟨g0,g1,g2,g3,g4,g5⟩:=H3.out;have H4:Hid (zC w w4 g iB dg w4.heap.size en mc hd A1 CH BL (.slice none 0 0) 0):=ae ⟨Bk.aL g0 cu,Bk.aL g1 cu,Bk.aL g2 cu,jD _ _ _ _,fK,λ hn ad h=>⟨by have:=ae9 ad h;omega,by obtain⟨b,o,e,hc⟩:=fK hn;rw[h]at e;cases e;cases hx:cO CH with|nil=>exact absurd hx hn|cons x xs=>exact cQ w4 _ (hc 0 x (by rw[hx];rfl))⟩,g3.trans (cu.mono aa),⟨aa,aa,by have:=cu.size;omega,ai _⟩⟩;have mR:N<=9223372036854775807:=aa;clear bT fK ae9 cu g0 g1 g2 g3 g4 g5 H3 Kp;generalize w4.heap.size=B2 at*;go_wp2_with fail;go_loopw [47] (λ Uv wr=>∃i:Nat,Uv= .int .i64 (i:Nat)/\i<=N/\Hid (∃v,zC w wr g iB dg B2 en mc hd A1 CH BL v i)) (λ Uv _=>N-vnat Uv)
 case atStart=>exact⟨0,rfl,aa,ae ⟨_,H4.out⟩⟩
 case round=>
  clear H4;obtain⟨wp,rfl⟩:∃wp,wp=wr:=⟨_,rfl⟩;obtain⟨i,rfl,hi,HX⟩:=hrel;obtain⟨v,hX⟩:=HX.out;have gG:=ae hX;clear hX HX;by_cases ao:(i:Int)<(N:Int)
  ·obtain⟨h1,h2⟩:=Ec.out i aa;have fe:(cO CH)[i]? =some (.string (av (iH S i))):=by unfold cO;rw[eH,h1];rfl
   obtain⟨b,o,rfl,eT⟩:=gG.out.ch (by intro e;rw[e]at fe;cases fe);have c0:=eT _ _ fe;have D6:=ae (λ w'=>arY en mc hd (av (iH S i)) i Us.out.1 (by rw[Us.out.2.1];omega) aa (by rw[cV,G7]) w');rw[cn]at D6;have Gq:=ae h2;obtain⟨x,hx⟩:∃x,av (iH S i)=x:=⟨_,rfl⟩;obtain⟨y,hy⟩:∃y,av (nA en.toList mc.toList i (iH S i))=y:=⟨_,rfl⟩;simp only[hx,hy]at c0 D6 Gq;obtain⟨k0,k1,k2⟩:=OH gG.out.keys;clear h1 h2 fe eT hx hy;go_wp2_with fail;(with_reducible refine(D6.out wp).mono ?_);rintro e w5 ⟨rfl,bE⟩;have dY:=ae (gG.out.below bE);have p7:=dY.out.rJ.cell_ 7 v rfl;clear bE gG D6 c0 k0 k1 k2;go_wp2_with (at_builtin;go_must (refine lg w5 rfl (.tmp 60) (.tmp 62) 27 rfl B2 9 1 16 N2 v i _ dY.out.own rfl #[.string y] rfl rfl (by intro u hu;simp at hu;subst hu;rfl) (by unfold maxLen;omega) aa dY.out.lt.2.2.2 ?_);intro v4 w6 vG b9;obtain⟨A6,c6,Uw,_,_,_⟩:=JW (Sl.own vG);subst Uw;have q7:=(dY.out.rJ.below b9 dY.out.lt.2.2.1).cell_ 7 v rfl;have f7:=Bk.frozen (dY.out.rJ.below b9 dY.out.lt.2.2.1) 7;have Bg:=ae (af vG b9);clear vG b9 p7);have DE:Hid (zC w (w6.setCell ⟨dg,7,none⟩ (.slice A6 (i+1) c6)) g iB dg B2 en mc hd (some ⟨b,o,none⟩) CH BL (.slice A6 (i+1) c6) (i+1)):=ae (dY.out.put Bg.out.1 Bg.out.2 Gq.out);go_roundw
   case rel=>exact⟨i+1,by first|rfl|go_num,aa,ae ⟨_,DE.out⟩⟩
   case measure=>simp[vnat];omega
  ·obtain rfl:i=N:=aa;have aw:=gG.out.own;rw[bQ (by rw[cS.out.1];exact ai _)]at aw;obtain⟨A2,c2,hv,jT,fj,cH⟩:=JW (Sl.own aw);subst hv;have asg:=ae aw;have Ux:=ae (af gG.out.lt trivial);have sC:=ae (af jT (af fj cH));have Uy:=ae (show th dg A2 (cO BL)from λ _ ad hA=>by subst hA;have h1:=(aw.lt _ rfl).1;have h2:=gG.out.lt;omega);have ash:=ae (show cO BL≠[]->∀ad,A2=some ad->g<ad.block from λ _ ad hA=>by subst hA;have h1:=(aw.lt _ rfl).1;have h2:=gG.out.lt;omega);have sZ:=ae (gG.out.below ((aB wp.heap.size wp).drew));have hT:wp.drew.cell? ⟨iB,2,none⟩=some (.string hd)/\wp.drew.cell? ⟨dg,7,none⟩=some (.slice A2 i c2):=⟨(gG.out.keys).cell_ 2 _ rfl,gG.out.rJ.cell_ 7 _ rfl⟩;have xC:=ae (ap5 BL A2 i c2 cS.out.1 aa (λ s hs=>by rw[cS.out.2 s hs];omega) wp.drew (cH.below ((aB wp.heap.size wp).drew)));have qO:=Tb BL;have Dr:=ae (λ w'=>anP hd id bS (i:Nat) (t.size:Nat) (ps.size:Nat) (mJ BL) ⟨#[]⟩ (by rw[Us.out.2.2];omega) (by rw[Ut.out];omega) aa w');unfold uX at Dr;have afa:=ae (show rf hd id bS (i:Nat) (t.size:Nat) (ps.size:Nat) (mJ BL)=rf hd id bS (i:Nat) (S.length:Nat) (ps.size:Nat) (mJ BL)/\True by rw[HT.out.2];exact⟨rfl,trivial⟩);generalize rf hd id bS (i:Nat) (t.size:Nat) (ps.size:Nat) (mJ BL)=TG at*;obtain⟨RT,Uz⟩:∃RT,mJ BL=RT:=⟨_,rfl⟩;rw[Uz]at xC Dr afa;have asi:=ae Uz;clear aw jT fj cH gG qO Uz;go_upto_region 14 with fail;refine Qh (T:=λ w'=>w'.cell? ⟨iB,2,none⟩=some (.string hd)/\w'.cell? ⟨dg,7,none⟩=some (.slice A2 i c2)) (k:=16) ah ?_;refine cZ (i:=0) (v:=?_) rfl ah ah ah (λ _ _ _ h=>h) aA (by rfl) ?_ (λ _=>hT) ?_;rotate_left
   ·intro w';go_simp;(try with_reducible rfl)
   try simp only[Act.put,bP,bL,bN]
   refine AA (i:=1) (v:=?_) rfl ah ah ah (λ _ _ _ h=>h) aA (by rfl) ?_ hT (by rfl) ah ?_;rotate_left
   ·intro w' qe;(try dsimp only at qe);go_simp;(try with_reducible rfl)
   try simp only[Act.put,bP,bL,bN]
   refine cZ (i:=2) (v:=?_) rfl ah ah ah (λ _ _ _ h=>h) aA (by rfl) ?_ (λ _=>hT) ?_;rotate_left
   ·intro w';go_simp;(try with_reducible rfl)
   try simp only[Act.put,bP,bL,bN]
   refine cZ (i:=3) (v:=?_) rfl ah ah ah (λ _ _ _ h=>h) aA (by rfl) ?_ (λ _=>hT) ?_;rotate_left
   ·intro w';go_simp;(try with_reducible rfl)
   try simp only[Act.put,bP,bL,bN]
   refine cZ (i:=4) (v:=?_) rfl ah ah ah (λ _ _ _ h=>h) aA (by rfl) ?_ (λ _=>hT) ?_;rotate_left
   ·intro w';go_simp;(try with_reducible rfl)
   try simp only[Act.put,bP,bL,bN]
   refine AA (i:=5) (v:=?_) rfl ah ah ah (λ _ _ _ h=>h) aA (by rfl) ?_ hT (by rfl) ah ?_;rotate_left
   ·intro w' qe;(try dsimp only at qe);go_simp;(try with_reducible rfl)
   try simp only[Act.put,bP,bL,bN]
   refine cZ (i:=6) (v:=?_) rfl ah ah ah (λ _ _ _ h=>h) aA (by rfl) ?_ (λ _=>hT) ?_;rotate_left
   ·intro w';go_simp;(try with_reducible rfl)
   try simp only[Act.put,bP,bL,bN]
   refine cZ (i:=7) (v:=?_) rfl ah ah ah (λ _ _ _ h=>h) aA (by rfl) ?_ (λ _=>hT) ?_;rotate_left
   ·intro w';go_simp;(try with_reducible rfl)
   try simp only[Act.put,bP,bL,bN]
   refine cZ (i:=8) (v:=?_) rfl ah ah ah (λ _ _ _ h=>h) aA (by rfl) ?_ (λ _=>hT) ?_;rotate_left
   ·intro w';go_simp;(try with_reducible rfl)
   try simp only[Act.put,bP,bL,bN]
   refine cZ (i:=9) (v:=?_) rfl ah ah ah (λ _ _ _ h=>h) aA (by rfl) ?_ (λ _=>hT) ?_;rotate_left
   ·intro w';go_simp;(try with_reducible rfl)
   try simp only[Act.put,bP,bL,bN]
   refine cZ (i:=10) (v:=?_) rfl ah ah ah (λ _ _ _ h=>h) aA (by rfl) ?_ (λ _=>hT) ?_;rotate_left
   ·intro w';go_simp;(try with_reducible rfl)
   try simp only[Act.put,bP,bL,bN]
   refine AA (i:=11) (v:=?_) rfl ah ah ah (λ _ _ _ h=>h) aA (by rfl) ?_ hT (by rfl) ah ?_;rotate_left
   ·intro w' qe;(try dsimp only at qe);go_simp;(try with_reducible rfl)
   try simp only[Act.put,bP,bL,bN]
   refine uO (i:=12) rfl ah (by rfl) (λ K hK=>?_);go_simp;(refine xC.out.mono ?_);rintro e w6 ⟨rfl,b9⟩;have Ei:=ae3 b9 hT;have H6:=ae b9;refine hK.out _ _ (λ _=>Ei) ?_;clear hT b9;have hT:=Ei;clear Ei;clear hK K;try simp only[Act.put,bP,bL,bN]
   refine cZ (i:=13) (v:=?_) rfl ah ah ah (λ _ _ _ h=>h) aA (by rfl) ?_ (λ _=>hT) ?_;rotate_left
   ·intro w';go_simp;(try with_reducible rfl)
   try simp only[Act.put,bP,bL,bN]
   refine uO (i:=14) rfl ah (by rfl) (λ K hK=>?_);go_simp;(refine(Dr.out w6).mono ?_);rintro e w7 ⟨rfl,uf⟩;have UA:=ae3 uf hT;have H7:=ae (bl H6.out uf);refine hK.out _ _ (λ _=>UA) ?_;clear hT uf;have hT:=UA;clear UA;clear hK K;try simp only[Act.put,bP,bL,bN]
   refine cZ (i:=15) (v:=?_) rfl ah ah ah (λ _ _ _ h=>h) aA (by rfl) ?_ (λ _=>hT) ?_;rotate_left
   ·intro w';go_simp;(try with_reducible rfl)
   try simp only[Act.put,bP,bL,bN]
   refine uO (i:=16) rfl ah (by rfl) (λ K hK=>?_);have lA:=sZ.out.rJ.aL H7.out;have d0:=lA.cell_ 0 (.int .i64 0) rfl;have d1:=lA.cell_ 1 (.string ⟨#[]⟩) rfl;have d2:=lA.cell_ 2 (.int .i64 0) rfl;have d3:=lA.cell_ 3 (.int .i64 0) rfl;have d4:=lA.cell_ 4 (.int .i64 0) rfl;have d5:=lA.cell_ 5 (.string ⟨#[]⟩) rfl;have d6:=lA.cell_ 6 (.string ⟨#[]⟩) rfl;have f0:=Bk.frozen lA 0;have f1:=Bk.frozen lA 1;have f2:=Bk.frozen lA 2;have f3:=Bk.frozen lA 3;have f4:=Bk.frozen lA 4;have f5:=Bk.frozen lA 5;have f6:=Bk.frozen lA 6;clear lA;go_simp;refine hK.out _ _ (λ h=>by cases h) ?_;clear d0 d1 d2 d3 d4 d5 d6 f0 f1 f2 f3 f4 f5 f6;clear hK K;try simp only[Act.put,bP,bL,bN]
   refine Qg ah ?_ _;have lA:=((((((((sZ.out.rJ.aL H7.out).aP 0 (.int .i64 id)).aP 1 (.string bS)).aP 2 (.int .i64 (i:Nat))).aP 3 (.int .i64 (t.size:Nat))).aP 4 (.int .i64 (ps.size:Nat))).aP 5 (.string RT)).aP 6 (.string TG));have Kq:=aQ (aQ (aQ (aQ (aQ (aQ (aY w7 dg 0 (.int .i64 id)) (aY _ dg 1 (.string bS))) (aY _ dg 2 (.int .i64 (i:Nat)))) (aY _ dg 3 (.int .i64 (t.size:Nat)))) (aY _ dg 4 (.int .i64 (ps.size:Nat)))) (aY _ dg 5 (.string RT))) (aY _ dg 6 (.string TG));have ao:=sZ.out.lt;have H8:=ae (af lA (af (Bk.only (sZ.out.res.aL H7.out) Kq (show g≠dg by omega)) (af (Rd.only ((sC.out.2.2.below ((aB wp.heap.size wp).drew)).below H7.out) Kq Uy.out) (af ((sZ.out.b.trans (H7.out.mono (by rw[<-hg];exact sZ.out.b.size))).trans (me Kq (show g<=dg by omega) (b_ (by rw[<-hg];exact sZ.out.b.size) H7.out.size))) (ae1 (kL (kL asg.out ((aB wp.heap.size wp).drew)) H7.out) Kq (by have:=Ux.out.1;omega))))));clear lA Kq ao hT;generalize((((((w7.setCell ⟨dg,0,none⟩ (.int .i64 id)).setCell ⟨dg,1,none⟩ (.string bS)).setCell ⟨dg,2,none⟩ (.int .i64 (i:Nat))).setCell ⟨dg,3,none⟩ (.int .i64 (t.size:Nat))).setCell ⟨dg,4,none⟩ (.int .i64 (ps.size:Nat))).setCell ⟨dg,5,none⟩ (.string RT)).setCell ⟨dg,6,none⟩ (.string TG)=w8 at*;have Kr:Hid (Bk w8 dg 29 #[.int .i64 id,.string bS,.int .i64 (i:Nat),.int .i64 (t.size:Nat),.int .i64 (ps.size:Nat),.string RT,.string TG,.slice A2 i c2]):=ae H8.out.1;have Ks:Hid (Bk w8 g 29 #[.int .i64 0,.string ⟨#[]⟩,.int .i64 0,.int .i64 0,.int .i64 0,.string ⟨#[]⟩,.string ⟨#[]⟩,.slice none 0 0]):=ae H8.out.2.1;have H9:=ae H8.out.2.2;clear H8;go_wp2_with (first|(refine qk rfl 29 _ rfl dg rfl 29 #[.int .i64 id,.string bS,.int .i64 (i:Nat),.int .i64 (t.size:Nat),.int .i64 (ps.size:Nat),.string RT,.string TG,.slice A2 i c2] (0,0) _ Kr.out Tryz.underlying29 rfl Cf ?_)|(refine nG rfl 29 _ _ rfl g #[.int .i64 id,.string bS,.int .i64 (i:Nat),.int .i64 (t.size:Nat),.int .i64 (ps.size:Nat),.string RT,.string TG,.slice A2 i c2] rfl rfl 29 _ Ks.out Cf rfl (Td _ _ _ _ _ _ _ _ _ _) ?_));refine eX (MP Tryz.results6 _ _ g 29 #[.int .i64 id,.string bS,.int .i64 (i:Nat),.int .i64 (t.size:Nat),.int .i64 (ps.size:Nat),.string RT,.string TG,.slice A2 i c2] (0,0) _ _ rfl rfl (kd w8 g _ _ 29 (0,0) Ks.out) Tryz.underlying29 rfl Cf) rfl ⟨us,fB.out.1,fB.out.2,A2,c2,?_⟩;rw[HS.out,y_.out,mK.out,asi.out,<-afa.out.1,<-HT.out.2];exact⟨rfl,sC.out.1,sC.out.2.1,Rd.only H9.out.1 (Te w8 g _) (λ hn ad hA=>by have h1:=ash.out hn ad hA;omega),below_setRow H9.out.2.1 (ai _) _,asc (ae1 H9.out.2.2 (Te w8 g _) (by have:=Ux.out.1;omega)) (by have:=Ux.out.1;omega)⟩
