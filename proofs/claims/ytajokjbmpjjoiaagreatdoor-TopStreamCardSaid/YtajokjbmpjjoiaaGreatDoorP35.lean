import Derived.Test.YtajokjbmpjjoiaaGreatDoorP06
import Derived.Test.YtajokjbmpjjoiaaGreatDoorP17
import Derived.Lib.SliceRun
set_option maxRecDepth 20000
set_option maxHeartbeats 0
namespace Go.Proofs.YtajokjbmpjjoiaaGreatDoor
section
namespace Cn
open So
open Go.RowKit
abbrev Fl:=Nat×Bool
def fw (a b:Nat):Int:=if a<b then-1 else if b<a then 1 else 0
theorem mi (x y:Fl):fw x.1 y.1<0↔aM x y:=by
 unfold fw So.aM;by_cases h:x.1<y.1
 ·rw[if_pos h];exact⟨λ _=>h,λ _=>by decide⟩
 ·rw[if_neg h];refine⟨λ h2=>?_,λ h2=>absurd h2 h⟩;split at h2<;>exact absurd h2 aA
def fl:List Fl->List Value
 |[]=>[]
 |x::l=>.int .i64 (x.1:Nat):: .bool x.2::fl l
theorem kQ (l:List Fl):(fl l).length=l.length*2:=by
 induction l with
 |nil=>rfl
 |cons x l ih=>simp only[fl,aU,ih];omega
theorem tJ (a b:List Fl):fl (a++b)=fl a++fl b:=by
 induction a with
 |nil=>rfl
 |cons x a ih=>simp only[gU,fl,ih]
theorem xo (l:List Fl):∀u∈fl l,u.oneCell'=true:=by
 induction l with
 |nil=>intro u hu;cases hu
 |cons x l ih=>
  intro u hu;simp only[fl,eW]at hu;rcases hu with rfl|rfl|hu
  ·rfl
  ·rfl
  ·exact ih u hu
theorem Hq (l:List Fl)(i:Nat):(fl l)[i*2]? =l[i]?.map λ x=>Value.int .i64 (x.1:Nat):=by
 induction l generalizing i with
 |nil=>simp[fl]
 |cons x l ih=>
  cases i with
  |zero=>rfl
  |succ i=>rw[show(i+1)*2=i*2+1+1 by omega];simp only[fl,eF];exact ih i
theorem Hr (l:List Fl)(i:Nat):(fl l)[i*2+1]? =l[i]?.map λ x=>Value.bool x.2:=by
 induction l generalizing i with
 |nil=>simp[fl]
 |cons x l ih=>
  cases i with
  |zero=>rfl
  |succ i=>rw[show(i+1)*2+1=i*2+1+1+1 by omega];simp only[fl,eF];exact ih i
theorem Qi (l:List Fl)(i:Nat)(x:Fl):fl (l.set i x)=((fl l).set (i*2) (.int .i64 (x.1:Nat))).set (i*2+1) (.bool x.2):=by
 induction l generalizing i with
 |nil=>simp[fl]
 |cons y l ih=>
  cases i with
  |zero=>rfl
  |succ i=>
   rw[show(i+1)*2=i*2+1+1 by omega,show i*2+1+1+1=(i*2+1)+1+1 by omega];simp only[bN,fl,ih]
def ay (w:World)(g:Nat)(l:List Fl):Prop:=∃cur:Array Value,Bk w g 446 cur/\cur.toList.take (l.length*2)=fl l
theorem ay.lt {w:World}{g:Nat}{l:List Fl}(h:ay w g l):g<w.heap.size:=by obtain⟨_,h,_⟩:=h;exact h.lt
theorem ay.aL {w w':World}{g:Nat}{l:List Fl}(h:ay w g l)(hb:Below w.heap.size w w'):ay w' g l:=by
 obtain⟨cur,h1,h2⟩:=h;exact⟨cur,h1.aL hb,h2⟩
theorem ay.drew {w:World}{g:Nat}{l:List Fl}(h:ay w g l):ay w.drew g l:=h
theorem ay.cell {w:World}{g:Nat}{l:List Fl}(h:ay w g l){i:Nat}{x:Fl}(hx:l[i]? =some x):w.cell? ⟨g,i*2,none⟩=some (.int .i64 (x.1:Nat))/\w.cell? ⟨g,i*2+1,none⟩=some (.bool x.2):=by
 obtain⟨cur,h1,h2⟩:=h;have hi:i<l.length:=(fX.1 hx).1;have a0:=Hq l i;have a1:=Hr l i;rw[<-h2,mL,if_pos aa,hx,rM]at a0 a1;exact⟨(h1.cell _).trans a0,(h1.cell _).trans a1⟩
theorem ay.free {w:World}{g:Nat}{l:List Fl}(h:ay w g l)(i:Nat):w.frozen? ⟨g,i,none⟩=false:=by
 obtain⟨cur,h1,_⟩:=h;exact h1.frozen i
theorem ay.put {w:World}{g:Nat}{l:List Fl}(h:ay w g l)(i:Nat)(x:Fl):ay ((w.setCell ⟨g,i*2,none⟩ (.int .i64 (x.1:Nat))).setCell ⟨g,i*2+1,none⟩ (.bool x.2)) g (l.set i x):=by
 obtain⟨cur,h1,h2⟩:=h;refine⟨_,(h1.aP (i*2) (.int .i64 (x.1:Nat))).aP (i*2+1) (.bool x.2),?_⟩;rw[Qi,<-h2,iP];simp only[yc];rw[List.take_set,List.take_set]
theorem ay.swp {w:World}{g:Nat}{l:List Fl}(h:ay w g l)(i j:Nat){x y:Fl}(hi:l[i]? =some x)(hj:l[j]? =some y):
 ay ((((w.setCell ⟨g,i*2,none⟩ (.int .i64 (y.1:Nat))).setCell ⟨g,i*2+1,none⟩ (.bool y.2)).setCell ⟨g,j*2,none⟩ (.int .i64 (x.1:Nat))).setCell ⟨g,j*2+1,none⟩ (.bool x.2)) g (sw l i j):=by
 have e:sw l i j=(l.set i y).set j x:=by
  unfold sw;rw[a_,a_,hi,hj];rfl
 rw[e];exact(h.put i y).put j x
end Cn
end
section
namespace Cn
open So
open Go.RowKit
def qI (w:World)(g:Nat)(l:List Fl)(e:Ending)(w':World):Prop:=e= .returned (.tuple #[])/\ay w' g l/\w.grownBy w' (some g)
theorem jl (w:World)(g:Nat):w.grownBy w (some g):=⟨rfl,rfl,rfl,ai _,λ _ _ _=>rfl⟩
theorem jm {w w':World}(h:Below w.heap.size w w')(g:Nat):w.grownBy w' (some g):=⟨h.os,h.tape,h.output,h.size,λ k hk _=>h.block k hk⟩
theorem yL (w:World)(g a b c d:Nat)(v0 v1 v2 v3:Value):w.grownBy ((((w.setCell ⟨g,a,none⟩ v0).setCell ⟨g,b,none⟩ v1).setCell ⟨g,c,none⟩ v2).setCell ⟨g,d,none⟩ v3) (some g):=
 aQ (aQ (aQ (aY _ _ _ _) (aY _ _ _ _)) (aY _ _ _ _)) (aY _ _ _ _)
theorem Hs (g cap N a b n:Nat)(l:List Fl)(fv:Value)(w:World)(hN:l.length=N)(hm:N<=1000)(pH:a+n<=b)(hb:b+n<=N)(hr:ay w g l):
 Calls Tryz.prog 408 #[.slice (some ⟨g,0,none⟩) N cap,.int .i64 a,.int .i64 b,.int .i64 n,fv] w (qI w g (dE l a b n)):=by
 have HN:=ae hN;clear hN;go_enter Tryz.func408,Tryz.ntmps408;go_wp2_with fail;go_loopw [10] (λ i wr=>∃k:Nat,k<=n/\i= .int .i64 k/\ay wr g (dE l a b k)/\w.grownBy wr (some g)) (λ i _=>n-(intOf i).toNat)
 case atStart=>exact⟨0,aa,rfl,hr,jl _ _⟩
 case round=>
  obtain⟨k,hk,rfl,hF,hg⟩:=hrel;by_cases ao:(k:Int)<(n:Int)
  ·have uP:a+k<(dE l a b k).length:=by rw[se,HN.out];omega
   have nR:b+k<(dE l a b k).length:=by rw[se,HN.out];omega
   obtain⟨x,hx⟩:∃x,(dE l a b k)[a+k]? =some x:=⟨_,getD_some uP⟩;obtain⟨y,hy⟩:∃y,(dE l a b k)[b+k]? =some y:=⟨_,getD_some nR⟩;have ig:=hF.swp (a+k) (b+k) hx hy;obtain⟨xp,xd⟩:=x;obtain⟨yp,yd⟩:=y;obtain⟨x0,x1⟩:=hF.cell hx;obtain⟨y0,y1⟩:=hF.cell hy;have uQ:=hF.free ((a+k)*2);have C8:=hF.free ((a+k)*2+1);have uR:=hF.free ((b+k)*2);have C9:=hF.free ((b+k)*2+1);have wa:IntKind.i64.wrap ((a:Int)+(k:Int))=((a+k:Nat):Int):=by rw[aE];omega
   have wb:IntKind.i64.wrap ((b:Int)+(k:Int))=((b+k:Nat):Int):=by rw[aE];omega
   have la:((a+k:Nat):Int)<(N:Int):=by rw[se,HN.out]at uP;omega
   have lb:((b+k:Nat):Int)<(N:Int):=by rw[se,HN.out]at nR;omega
   have aS:(a+k)*2≠(b+k)*2:=aa;have C':(a+k)*2+1≠(b+k)*2:=aa;have uS:(a+k)*2≠(b+k)*2+1:=aa;have HF:=ae ig;have HG:=ae (aQ hg (yL wr g ((a+k)*2) ((a+k)*2+1) ((b+k)*2) ((b+k)*2+1) (.int .i64 (yp:Nat)) (.bool yd) (.int .i64 (xp:Nat)) (.bool xd)));clear hF ig hg hx hy uP nR;generalize AB:a+k=ak at*;generalize AD:b+k=bk at*;have EA:=ae AB;have EB:=ae AD;clear AB AD;go_wp2_with fail;have mixed:Tryz.prog.follows Departure.mixedOrders=true:=ah;go_big_region_o;go_wp2_with fail;go_round
   case rel=>exact⟨k+1,aa,by first|rfl|go_num,by rw[dE,EA.out,EB.out];exact HF.out,aQ HG.out (oL _ _)⟩
   case measure=>simp[intOf];omega
  ·obtain rfl:k=n:=aa;go_wp2_with fail;go_end0;exact⟨rfl,hF,hg⟩
end Cn
end
section
namespace Cn
open So
open Go.RowKit
theorem uT (g cap N:Nat)(a b n:Int)(a' b' n':Nat)(l l':List Fl)(fv:Value)(w:World)(ea:a=a')(eb:b=b')(en:n=n')(hN:l.length=N)(hm:N<=1000)(pH:a'+n'<=b')(hb:b'+n'<=N)(hr:ay w g l)(hl:dE l a' b' n'=l'):
 Calls Tryz.prog 408 #[.slice (some ⟨g,0,none⟩) N cap,.int .i64 a,.int .i64 b,.int .i64 n,fv] w (qI w g l'):=by
 subst ea;subst eb;subst en;subst hl;exact Hs g cap N a' b' n' l fv w hN hm pH hb hr
def jn (goal:List Fl)(m i j:Nat)(l:List Fl):Prop:=∃P U V S:List Fl,l=P++(U++(V++S))/\U.length=i/\V.length=j/\m=P.length+i/\P++(V++(U++S))=goal
theorem AE {goal l:List Fl}{m i j:Nat}(h:jn goal m i j l):l.length=goal.length/\i<=m/\m+j<=l.length:=by
 obtain⟨P,U,V,S,rfl,rfl,rfl,rfl,rfl⟩:=h;simp only[ag];omega
theorem Hu {goal l:List Fl}{m i j:Nat}(h:jn goal m i j l)(gB:j<i):jn goal m (i-j) j (dE l (m-i) m j):=by
 obtain⟨P,U,V,S,rfl,rfl,rfl,rfl,rfl⟩:=h;have hu:U.take V.length++U.drop V.length=U:=gI _ _;have hl:(U.take V.length).length=V.length:=by rw[ba];omega
 have e:=wZ P (U.drop V.length) S (U.take V.length) V hl (P.length+U.length-U.length) (P.length+U.length) V.length aa (by rw[hl,cw];omega) hl.symm;rw[<-aN (U.take V.length),hu]at e;refine⟨P++V,U.drop V.length,U.take V.length,S,?_,?_,hl,?_,?_⟩
 ·rw[e];simp only[aN]
 ·rw[cw]
 ·simp only[ag];omega
 ·rw[aN,<-aN (U.take V.length),hu]
theorem qv {goal l:List Fl}{m i j:Nat}(h:jn goal m i j l)(gB:i<j):jn goal m i (j-i) (dE l (m-i) (m+j-i) i):=by
 obtain⟨P,U,V,S,rfl,rfl,rfl,rfl,rfl⟩:=h;have hv:V.take (V.length-U.length)++V.drop (V.length-U.length)=V:=gI _ _;have hl:(V.drop (V.length-U.length)).length=U.length:=by rw[cw];omega
 have cI:(V.take (V.length-U.length)).length=V.length-U.length:=by rw[ba];omega
 have e:=wZ P (V.take (V.length-U.length)) S U (V.drop (V.length-U.length)) hl.symm (P.length+U.length-U.length) (P.length+U.length+V.length-U.length) U.length aa (by rw[cI];omega) rfl;rw[<-aN (V.take _),hv]at e;refine⟨P,V.drop (V.length-U.length),V.take (V.length-U.length),U++S,?_,hl,cI,?_,?_⟩
 ·rw[e]
 ·omega
 ·rw[<-aN (V.take _),hv]
theorem Hx {goal l:List Fl}{m i j:Nat}(h:jn goal m i j l)(gB:i=j):dE l (m-i) m i=goal:=by
 obtain⟨P,U,V,S,rfl,rfl,rfl,rfl,rfl⟩:=h;have e:=wZ P [] S U V gB (P.length+U.length-U.length) (P.length+U.length) U.length aa aj rfl;simp only[List.nil_append]at e;exact e
theorem Hy (g cap N a m b:Nat)(l goal:List Fl)(fv:Value)(w:World)(hN:l.length=N)(hm:N<=1000)(hR:jn goal m (m-a) (b-m) l)(h1:a<m)(h2:m<b)(hr:ay w g l):
 Calls Tryz.prog 407 #[.slice (some ⟨g,0,none⟩) N cap,.int .i64 a,.int .i64 m,.int .i64 b,fv] w (qI w g goal):=by
 have ei:=AE hR;have qJ:b<=N:=aa;have w1:IntKind.i64.wrap ((m:Int)-(a:Int))=((m-a:Nat):Int):=by rw[aE];omega
 have w2:IntKind.i64.wrap ((b:Int)-(m:Int))=((b-m:Nat):Int):=by rw[aE];omega
 have HR:=ae hR;have HL:=ae (show goal.length=N by omega);clear hR ei hN;obtain⟨i0,xq⟩:∃i,m-a=i:=⟨_,rfl⟩;obtain⟨j0,AF⟩:∃j,b-m=j:=⟨_,rfl⟩;rw[xq]at w1 HR;rw[AF]at w2 HR;have p1:1<=i0:=aa;have p2:1<=j0:=aa;have q1:i0<=1000:=aa;have q2:j0<=1000:=aa;have q3:m<=1000:=aa;clear xq AF;go_enter Tryz.func407,Tryz.ntmps407;go_wp2_with fail;go_loopw [10,11] (λ vi vj wr=>∃(i j:Nat) (lr:List Fl),vi= .int .i64 i/\vj= .int .i64 j/\1<=i/\1<=j/\i<=1000/\j<=1000/\Hid (jn goal m i j lr)/\ay wr g lr/\w.grownBy wr (some g)) (λ vi vj _=>(intOf vi).toNat+(intOf vj).toNat)
 case atStart=>exact⟨i0,j0,l,rfl,rfl,p1,p2,q1,q2,ae HR.out,hr,jl _ _⟩
 case round=>
  obtain⟨i,j,lr,rfl,rfl,k1,k2,k3,k4,hA,hF,hg⟩:=hrel;have ei:=AE hA.out;have qK:=ae (show lr.length=N by rw[ei.1];exact HL.out);have c1:i<=m:=ei.2.1;have c2:m+j<=N:=by rw[<-qK.out];exact ei.2.2
  have v1:IntKind.i64.wrap ((m:Int)-(i:Int))=(m:Int)-(i:Int):=by rw[aE];omega
  have v2:IntKind.i64.wrap ((m:Int)+(j:Int))=(m:Int)+(j:Int):=by rw[aE];omega
  have v3:IntKind.i64.wrap ((m:Int)+(j:Int)-(i:Int))=(m:Int)+(j:Int)-(i:Int):=by rw[aE];omega
  have v4:IntKind.i64.wrap ((i:Int)-(j:Int))=(i:Int)-(j:Int):=by rw[aE];omega
  have v5:IntKind.i64.wrap ((j:Int)-(i:Int))=(j:Int)-(i:Int):=by rw[aE];omega
  clear ei;by_cases heq:(i:Int)=(j:Int)
  ·have HG:=ae (Hx hA.out (by omega:i=j));clear hA;go_wp2_with fail;(with_reducible refine(uT g cap N _ _ _ (m-i) m i lr goal fv _ aa rfl aa qK.out hm aa aa hF HG.out).mono ?_);rintro e w3 ⟨rfl,bZ,cz⟩;go_wp2_with fail;go_end0;exact⟨rfl,bZ,aQ hg cz⟩
  ·by_cases ao:(j:Int)<(i:Int)
   ·have lq:=ae (Hu hA.out (by omega:j<i));clear hA;go_wp2_with fail;(with_reducible refine(uT g cap N _ _ _ (m-i) m j lr _ fv _ aa rfl rfl qK.out hm aa aa hF rfl).mono ?_);rintro e w3 ⟨rfl,bZ,cz⟩;go_wp2_with fail;go_round
    case rel=>exact⟨i-j,j,_,by congr 1;omega,rfl,aa,k2,aa,k4,lq,bZ,aQ hg cz⟩
    case measure=>simp[intOf];omega
   ·have lq:=ae (qv hA.out (by omega:i<j));clear hA;go_wp2_with fail;(with_reducible refine(uT g cap N _ _ _ (m-i) (m+j-i) i lr _ fv _ aa aa rfl qK.out hm aa aa hF rfl).mono ?_);rintro e w3 ⟨rfl,bZ,cz⟩;go_wp2_with fail;go_round
    case rel=>exact⟨i,j-i,_,rfl,by congr 1;omega,k1,aa,k3,aa,lq,bZ,aQ hg cz⟩
    case measure=>simp[intOf];omega
end Cn
end
section
namespace In
open So
open Go.RowKit
abbrev Fl:=Nat×Nat
def fw (a b:Nat):Int:=IL a b
theorem mi (x y:Fl):fw x.1 y.1<0↔aM x y:=by
 unfold fw IL So.aM;by_cases h:x.1<y.1
 ·rw[if_pos h];exact⟨λ _=>h,λ _=>by decide⟩
 ·rw[if_neg h];refine⟨λ h2=>?_,λ h2=>absurd h2 h⟩;split at h2<;>exact absurd h2 aA
def fl (l:List Fl):List Value:=l.map λ x=>.int .i64 (x.2:Nat)
theorem kQ (l:List Fl):(fl l).length=l.length:=eG _
theorem aql (l:List Fl)(i:Nat):(fl l)[i]? =l[i]?.map λ x=>Value.int .i64 (x.2:Nat):=by unfold fl;rw[eH]
structure Fq where
 t:Nat
 A:Option Addr
 c:Nat
 F:List Nat
def uh (Q:Fq)(w:World):Prop:=w.cell? ⟨Q.t,0,none⟩=some (.slice Q.A Q.F.length Q.c)/\Rd w Q.A (nv Q.F)
def Fq.fn (Q:Fq):Value:=.func (.func 349) #[] #[.pointer (some ⟨Q.t,0,none⟩)]
def ay (Q:Fq)(w:World)(g:Nat)(l:List Fl):Prop:=(∃cur:Array Value,Bk w g 3 cur/\cur.toList.take l.length=fl l)/\uh Q w/\(Q.t≠g/\∀ad,Q.A=some ad->Q.F≠[]->ad.block≠g)/\∀x∈l,x.2<Q.F.length/\x.1=Q.F.getD x.2 0
variable {Q:Fq} {w w':World} {g:Nat} {l:List Fl}
theorem ay.row (h:ay Q w g l):∃cur:Array Value,Bk w g 3 cur/\cur.toList.take l.length=fl l:=h.1
theorem ay.fq (h:ay Q w g l):uh Q w:=h.2.1
theorem ay.off (h:ay Q w g l):Q.t≠g/\∀ad,Q.A=some ad->Q.F≠[]->ad.block≠g:=h.2.2.1
theorem ay.key (h:ay Q w g l):∀x∈l,x.2<Q.F.length/\x.1=Q.F.getD x.2 0:=h.2.2.2
theorem aqm {l:List Nat}(h:nv l≠[]):l≠[]:=λ e=>h (by rw[e];rfl)
theorem uh.only (h:uh Q w)(hg:w.grownBy w' (some g))(ho:Q.t≠g/\∀ad,Q.A=some ad->Q.F≠[]->ad.block≠g):uh Q w':=by
 refine⟨(ED (hg.block Q.t (cQ w _ h.1) (by simp;exact ho.1))).trans h.1,h.2.only hg λ hn ad e=>ho.2 ad e (aqm hn)⟩
theorem uh.below (h:uh Q w)(hb:Below w.heap.size w w'):uh Q w':=⟨(hb.cell (p:=⟨Q.t,0,none⟩) (cQ w _ h.1)).trans h.1,h.2.below hb⟩
theorem ay.lt (h:ay Q w g l):g<w.heap.size:=by obtain⟨_,h,_⟩:=h.row;exact h.lt
theorem ay.aL (h:ay Q w g l)(hb:Below w.heap.size w w'):ay Q w' g l:=by
 obtain⟨cur,h1,h2⟩:=h.row;exact⟨⟨cur,h1.aL hb,h2⟩,h.fq.below hb,h.off,h.key⟩
theorem ay.drew (h:ay Q w g l):ay Q w.drew g l:=⟨h.row,h.fq,h.off,h.key⟩
theorem ay.cell (h:ay Q w g l){i:Nat}{x:Fl}(hx:l[i]? =some x):w.cell? ⟨g,i,none⟩=some (.int .i64 (x.2:Nat)):=by
 obtain⟨cur,h1,h2⟩:=h.row;have hi:i<l.length:=(fX.1 hx).1;have a0:=aql l i;rw[<-h2,mL,if_pos hi,hx,rM]at a0;exact(h1.cell _).trans a0
theorem ay.free (h:ay Q w g l)(i:Nat):w.frozen? ⟨g,i,none⟩=false:=by
 obtain⟨cur,h1,_⟩:=h.row;exact h1.frozen i
theorem ay.put (h:ay Q w g l)(i:Nat)(x:Fl)(hx:x.2<Q.F.length/\x.1=Q.F.getD x.2 0):ay Q (w.setCell ⟨g,i,none⟩ (.int .i64 (x.2:Nat))) g (l.set i x):=by
 obtain⟨cur,h1,h2⟩:=h.row;refine⟨⟨_,h1.aP i (.int .i64 (x.2:Nat)),?_⟩,h.fq.only (aY w g i _) h.off,h.off,λ y hy=>?_⟩
 ·rw[iP,yc,List.take_set,h2];unfold fl;rw[zQ]
 ·rcases List.mem_or_eq_of_mem_set hy with hy|rfl
  ·exact h.key y hy
  ·exact hx
theorem ay.swp (h:ay Q w g l)(i j:Nat){x y:Fl}(hi:l[i]? =some x)(hj:l[j]? =some y):
 ay Q ((w.setCell ⟨g,i,none⟩ (.int .i64 (y.2:Nat))).setCell ⟨g,j,none⟩ (.int .i64 (x.2:Nat))) g (sw l i j):=by
 have e:sw l i j=(l.set i y).set j x:=by
  unfold sw;rw[a_,a_,hi,hj];rfl
 rw[e];exact(h.put i y (h.key y (du hj))).put j x (h.key x (du hi))
end In
end
section
namespace In
open So
open Go.RowKit
variable {Q:Fq}
def qI (Q:Fq)(w:World)(g:Nat)(l:List Fl)(e:Ending)(w':World):Prop:=e= .returned (.tuple #[])/\ay Q w' g l/\w.grownBy w' (some g)
theorem jl (w:World)(g:Nat):w.grownBy w (some g):=⟨rfl,rfl,rfl,ai _,λ _ _ _=>rfl⟩
theorem jm {w w':World}(h:Below w.heap.size w w')(g:Nat):w.grownBy w' (some g):=⟨h.os,h.tape,h.output,h.size,λ k hk _=>h.block k hk⟩
theorem N8 (w:World)(g a b:Nat)(v0 v1:Value):w.grownBy ((w.setCell ⟨g,a,none⟩ v0).setCell ⟨g,b,none⟩ v1) (some g):=aQ (aY _ _ _ _) (aY _ _ _ _)
theorem Hs (g cap N a b n:Nat)(l:List Fl)(fv:Value)(w:World)(hN:l.length=N)(hm:N<=1000)(pH:a+n<=b)(hb:b+n<=N)(hr:ay Q w g l):
 Calls Tryz.prog 406 #[.slice (some ⟨g,0,none⟩) N cap,.int .i64 a,.int .i64 b,.int .i64 n,fv] w (qI Q w g (dE l a b n)):=by
 have HN:=ae hN;clear hN;go_enter Tryz.func406,Tryz.ntmps406;go_wp2_with fail;go_loopw [10] (λ i wr=>∃k:Nat,k<=n/\i= .int .i64 k/\ay Q wr g (dE l a b k)/\w.grownBy wr (some g)) (λ i _=>n-(intOf i).toNat)
 case atStart=>exact⟨0,aa,rfl,hr,jl _ _⟩
 case round=>
  obtain⟨k,hk,rfl,hF,hg⟩:=hrel;by_cases ao:(k:Int)<(n:Int)
  ·have uP:a+k<(dE l a b k).length:=by rw[se,HN.out];omega
   have nR:b+k<(dE l a b k).length:=by rw[se,HN.out];omega
   obtain⟨x,hx⟩:∃x,(dE l a b k)[a+k]? =some x:=⟨_,getD_some uP⟩;obtain⟨y,hy⟩:∃y,(dE l a b k)[b+k]? =some y:=⟨_,getD_some nR⟩;have ig:=hF.swp (a+k) (b+k) hx hy;obtain⟨xp,xd⟩:=x;obtain⟨yp,yd⟩:=y;have x0:=hF.cell hx;have y0:=hF.cell hy;have uQ:=hF.free ((a+k));have uR:=hF.free ((b+k));have wa:IntKind.i64.wrap ((a:Int)+(k:Int))=((a+k:Nat):Int):=by rw[aE];omega
   have wb:IntKind.i64.wrap ((b:Int)+(k:Int))=((b+k:Nat):Int):=by rw[aE];omega
   have la:((a+k:Nat):Int)<(N:Int):=by rw[se,HN.out]at uP;omega
   have lb:((b+k:Nat):Int)<(N:Int):=by rw[se,HN.out]at nR;omega
   have aS:(a+k)≠(b+k):=aa;have HF:=ae ig;have HG:=ae (aQ hg (N8 wr g (a+k) (b+k) (.int .i64 (yd:Nat)) (.int .i64 (xd:Nat))));clear hF ig hg hx hy uP nR;generalize AB:a+k=ak at*;generalize AD:b+k=bk at*;have EA:=ae AB;have EB:=ae AD;clear AB AD;go_wp2_with fail;have mixed:Tryz.prog.follows Departure.mixedOrders=true:=ah;go_big_region_o;go_wp2_with fail;go_round
   case rel=>exact⟨k+1,aa,by first|rfl|go_num,by rw[dE,EA.out,EB.out];exact HF.out,aQ HG.out (oL _ _)⟩
   case measure=>simp[intOf];omega
  ·obtain rfl:k=n:=aa;go_wp2_with fail;go_end0;exact⟨rfl,hF,hg⟩
end In
end
section
namespace In
open So
open Go.RowKit
variable {Q:Fq}
theorem uT (g cap N:Nat)(a b n:Int)(a' b' n':Nat)(l l':List Fl)(fv:Value)(w:World)(ea:a=a')(eb:b=b')(en:n=n')(hN:l.length=N)(hm:N<=1000)(pH:a'+n'<=b')(hb:b'+n'<=N)(hr:ay Q w g l)(hl:dE l a' b' n'=l'):
 Calls Tryz.prog 406 #[.slice (some ⟨g,0,none⟩) N cap,.int .i64 a,.int .i64 b,.int .i64 n,fv] w (qI Q w g l'):=by
 subst ea;subst eb;subst en;subst hl;exact Hs g cap N a' b' n' l fv w hN hm pH hb hr
def jn (goal:List Fl)(m i j:Nat)(l:List Fl):Prop:=∃P U V S:List Fl,l=P++(U++(V++S))/\U.length=i/\V.length=j/\m=P.length+i/\P++(V++(U++S))=goal
theorem AE {goal l:List Fl}{m i j:Nat}(h:jn goal m i j l):l.length=goal.length/\i<=m/\m+j<=l.length:=by
 obtain⟨P,U,V,S,rfl,rfl,rfl,rfl,rfl⟩:=h;simp only[ag];omega
theorem Hu {goal l:List Fl}{m i j:Nat}(h:jn goal m i j l)(gB:j<i):jn goal m (i-j) j (dE l (m-i) m j):=by
 obtain⟨P,U,V,S,rfl,rfl,rfl,rfl,rfl⟩:=h;have hu:U.take V.length++U.drop V.length=U:=gI _ _;have hl:(U.take V.length).length=V.length:=by rw[ba];omega
 have e:=wZ P (U.drop V.length) S (U.take V.length) V hl (P.length+U.length-U.length) (P.length+U.length) V.length aa (by rw[hl,cw];omega) hl.symm;rw[<-aN (U.take V.length),hu]at e;refine⟨P++V,U.drop V.length,U.take V.length,S,?_,?_,hl,?_,?_⟩
 ·rw[e];simp only[aN]
 ·rw[cw]
 ·simp only[ag];omega
 ·rw[aN,<-aN (U.take V.length),hu]
theorem qv {goal l:List Fl}{m i j:Nat}(h:jn goal m i j l)(gB:i<j):jn goal m i (j-i) (dE l (m-i) (m+j-i) i):=by
 obtain⟨P,U,V,S,rfl,rfl,rfl,rfl,rfl⟩:=h;have hv:V.take (V.length-U.length)++V.drop (V.length-U.length)=V:=gI _ _;have hl:(V.drop (V.length-U.length)).length=U.length:=by rw[cw];omega
 have cI:(V.take (V.length-U.length)).length=V.length-U.length:=by rw[ba];omega
 have e:=wZ P (V.take (V.length-U.length)) S U (V.drop (V.length-U.length)) hl.symm (P.length+U.length-U.length) (P.length+U.length+V.length-U.length) U.length aa (by rw[cI];omega) rfl;rw[<-aN (V.take _),hv]at e;refine⟨P,V.drop (V.length-U.length),V.take (V.length-U.length),U++S,?_,hl,cI,?_,?_⟩
 ·rw[e]
 ·omega
 ·rw[<-aN (V.take _),hv]
theorem Hx {goal l:List Fl}{m i j:Nat}(h:jn goal m i j l)(gB:i=j):dE l (m-i) m i=goal:=by
 obtain⟨P,U,V,S,rfl,rfl,rfl,rfl,rfl⟩:=h;have e:=wZ P [] S U V gB (P.length+U.length-U.length) (P.length+U.length) U.length aa aj rfl;simp only[List.nil_append]at e;exact e
theorem Hy (g cap N a m b:Nat)(l goal:List Fl)(fv:Value)(w:World)(hN:l.length=N)(hm:N<=1000)(hR:jn goal m (m-a) (b-m) l)(h1:a<m)(h2:m<b)(hr:ay Q w g l):
 Calls Tryz.prog 402 #[.slice (some ⟨g,0,none⟩) N cap,.int .i64 a,.int .i64 m,.int .i64 b,fv] w (qI Q w g goal):=by
 have ei:=AE hR;have qJ:b<=N:=aa;have w1:IntKind.i64.wrap ((m:Int)-(a:Int))=((m-a:Nat):Int):=by rw[aE];omega
 have w2:IntKind.i64.wrap ((b:Int)-(m:Int))=((b-m:Nat):Int):=by rw[aE];omega
 have HR:=ae hR;have HL:=ae (show goal.length=N by omega);clear hR ei hN;obtain⟨i0,xq⟩:∃i,m-a=i:=⟨_,rfl⟩;obtain⟨j0,AF⟩:∃j,b-m=j:=⟨_,rfl⟩;rw[xq]at w1 HR;rw[AF]at w2 HR;have p1:1<=i0:=aa;have p2:1<=j0:=aa;have q1:i0<=1000:=aa;have q2:j0<=1000:=aa;have q3:m<=1000:=aa;clear xq AF;go_enter Tryz.func402,Tryz.ntmps402;go_wp2_with fail;go_loopw [10,11] (λ vi vj wr=>∃(i j:Nat) (lr:List Fl),vi= .int .i64 i/\vj= .int .i64 j/\1<=i/\1<=j/\i<=1000/\j<=1000/\Hid (jn goal m i j lr)/\ay Q wr g lr/\w.grownBy wr (some g)) (λ vi vj _=>(intOf vi).toNat+(intOf vj).toNat)
 case atStart=>exact⟨i0,j0,l,rfl,rfl,p1,p2,q1,q2,ae HR.out,hr,jl _ _⟩
 case round=>
  obtain⟨i,j,lr,rfl,rfl,k1,k2,k3,k4,hA,hF,hg⟩:=hrel;have ei:=AE hA.out;have qK:=ae (show lr.length=N by rw[ei.1];exact HL.out);have c1:i<=m:=ei.2.1;have c2:m+j<=N:=by rw[<-qK.out];exact ei.2.2
  have v1:IntKind.i64.wrap ((m:Int)-(i:Int))=(m:Int)-(i:Int):=by rw[aE];omega
  have v2:IntKind.i64.wrap ((m:Int)+(j:Int))=(m:Int)+(j:Int):=by rw[aE];omega
  have v3:IntKind.i64.wrap ((m:Int)+(j:Int)-(i:Int))=(m:Int)+(j:Int)-(i:Int):=by rw[aE];omega
  have v4:IntKind.i64.wrap ((i:Int)-(j:Int))=(i:Int)-(j:Int):=by rw[aE];omega
  have v5:IntKind.i64.wrap ((j:Int)-(i:Int))=(j:Int)-(i:Int):=by rw[aE];omega
  clear ei;by_cases heq:(i:Int)=(j:Int)
  ·have HG:=ae (Hx hA.out (by omega:i=j));clear hA;go_wp2_with fail;(with_reducible refine(uT g cap N _ _ _ (m-i) m i lr goal fv _ aa rfl aa qK.out hm aa aa hF HG.out).mono ?_);rintro e w3 ⟨rfl,bZ,cz⟩;go_wp2_with fail;go_end0;exact⟨rfl,bZ,aQ hg cz⟩
  ·by_cases ao:(j:Int)<(i:Int)
   ·have lq:=ae (Hu hA.out (by omega:j<i));clear hA;go_wp2_with fail;(with_reducible refine(uT g cap N _ _ _ (m-i) m j lr _ fv _ aa rfl rfl qK.out hm aa aa hF rfl).mono ?_);rintro e w3 ⟨rfl,bZ,cz⟩;go_wp2_with fail;go_round
    case rel=>exact⟨i-j,j,_,by congr 1;omega,rfl,aa,k2,aa,k4,lq,bZ,aQ hg cz⟩
    case measure=>simp[intOf];omega
   ·have lq:=ae (qv hA.out (by omega:i<j));clear hA;go_wp2_with fail;(with_reducible refine(uT g cap N _ _ _ (m-i) (m+j-i) i lr _ fv _ aa aa rfl qK.out hm aa aa hF rfl).mono ?_);rintro e w3 ⟨rfl,bZ,cz⟩;go_wp2_with fail;go_round
    case rel=>exact⟨i,j-i,_,rfl,by congr 1;omega,k1,aa,k3,aa,lq,bZ,aQ hg cz⟩
    case measure=>simp[intOf];omega
end In
