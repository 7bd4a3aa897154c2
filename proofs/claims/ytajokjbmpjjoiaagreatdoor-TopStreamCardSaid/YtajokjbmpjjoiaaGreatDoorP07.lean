import Derived.Test.YtajokjbmpjjoiaaGreatDoorP05
import Derived.Test.YtajokjbmpjjoiaaGreatDoorP06
import Derived.Lib.SliceRun
set_option maxRecDepth 20000
set_option maxHeartbeats 0
namespace Go.Proofs.YtajokjbmpjjoiaaGreatDoor
section
open Go.RowKit
abbrev Fl:=ByteArray×ByteArray
def fl:List Fl->List Value
 |[]=>[]
 |x::l=>.string x.1:: .string x.2::fl l
theorem kQ (l:List Fl):(fl l).length=l.length*2:=by
 induction l with
 |nil=>rfl
 |cons x l ih=>simp only[fl,aU,ih];omega
theorem tJ (a b:List Fl):fl (a++b)=fl a++fl b:=by
 induction a with
 |nil=>rfl
 |cons x a ih=>simp only[gU,fl,ih]
theorem xo (l:List Fl):∀u∈fl l,u.oneCell'=true:=by
 induction l with
 |nil=>intro u hu;cases hu
 |cons x l ih=>
  intro u hu;simp only[fl,eW]at hu;rcases hu with rfl|rfl|hu
  ·rfl
  ·rfl
  ·exact ih u hu
theorem Hq (l:List Fl)(i:Nat):(fl l)[i*2]? =l[i]?.map λ x=>Value.string x.1:=by
 induction l generalizing i with
 |nil=>simp[fl]
 |cons x l ih=>
  cases i with
  |zero=>rfl
  |succ i=>rw[show(i+1)*2=i*2+1+1 by omega];simp only[fl,eF];exact ih i
theorem Hr (l:List Fl)(i:Nat):(fl l)[i*2+1]? =l[i]?.map λ x=>Value.string x.2:=by
 induction l generalizing i with
 |nil=>simp[fl]
 |cons x l ih=>
  cases i with
  |zero=>rfl
  |succ i=>rw[show(i+1)*2+1=i*2+1+1+1 by omega];simp only[fl,eF];exact ih i
theorem Qi (l:List Fl)(i:Nat)(x:Fl):fl (l.set i x)=((fl l).set (i*2) (.string x.1)).set (i*2+1) (.string x.2):=by
 induction l generalizing i with
 |nil=>simp[fl]
 |cons y l ih=>
  cases i with
  |zero=>rfl
  |succ i=>
   rw[show(i+1)*2=i*2+1+1 by omega,show i*2+1+1+1=(i*2+1)+1+1 by omega];simp only[bN,fl,ih]
def ay (w:World)(g:Nat)(l:List Fl):Prop:=∃cur:Array Value,Bk w g 53 cur/\cur.toList.take (l.length*2)=fl l
theorem ay.lt {w:World}{g:Nat}{l:List Fl}(h:ay w g l):g<w.heap.size:=by obtain⟨_,h,_⟩:=h;exact h.lt
theorem ay.aL {w w':World}{g:Nat}{l:List Fl}(h:ay w g l)(hb:Below w.heap.size w w'):ay w' g l:=by
 obtain⟨cur,h1,h2⟩:=h;exact⟨cur,h1.aL hb,h2⟩
theorem ay.drew {w:World}{g:Nat}{l:List Fl}(h:ay w g l):ay w.drew g l:=h
theorem ay.cell {w:World}{g:Nat}{l:List Fl}(h:ay w g l){i:Nat}{x:Fl}(hx:l[i]? =some x):w.cell? ⟨g,i*2,none⟩=some (.string x.1)/\w.cell? ⟨g,i*2+1,none⟩=some (.string x.2):=by
 obtain⟨cur,h1,h2⟩:=h;have hi:i<l.length:=(fX.1 hx).1;have a0:=Hq l i;have a1:=Hr l i;rw[<-h2,mL,if_pos aa,hx,rM]at a0 a1;exact⟨(h1.cell _).trans a0,(h1.cell _).trans a1⟩
theorem ay.free {w:World}{g:Nat}{l:List Fl}(h:ay w g l)(i:Nat):w.frozen? ⟨g,i,none⟩=false:=by
 obtain⟨cur,h1,_⟩:=h;exact h1.frozen i
theorem ay.put {w:World}{g:Nat}{l:List Fl}(h:ay w g l)(i:Nat)(x:Fl):ay ((w.setCell ⟨g,i*2,none⟩ (.string x.1)).setCell ⟨g,i*2+1,none⟩ (.string x.2)) g (l.set i x):=by
 obtain⟨cur,h1,h2⟩:=h;refine⟨_,(h1.aP (i*2) (.string x.1)).aP (i*2+1) (.string x.2),?_⟩;rw[Qi,<-h2,iP];simp only[yc];rw[List.take_set,List.take_set]
def sw (l:List Fl)(i j:Nat):List Fl:=(l.set i (l.getD j default)).set j (l.getD i default)
theorem yD (l:List Fl)(i j:Nat):(sw l i j).length=l.length:=by simp[sw]
theorem getD_some {l:List Fl}{i:Nat}(h:i<l.length):l[i]? =some (l.getD i default):=by
 rw[a_,aZ h];rfl
theorem ay.swp {w:World}{g:Nat}{l:List Fl}(h:ay w g l)(i j:Nat){x y:Fl}(hi:l[i]? =some x)(hj:l[j]? =some y):
 ay ((((w.setCell ⟨g,i*2,none⟩ (.string y.1)).setCell ⟨g,i*2+1,none⟩ (.string y.2)).setCell ⟨g,j*2,none⟩ (.string x.1)).setCell ⟨g,j*2+1,none⟩ (.string x.2)) g (sw l i j):=by
 have e:sw l i j=(l.set i y).set j x:=by
  unfold sw;rw[a_,a_,hi,hj];rfl
 rw[e];exact(h.put i y).put j x
theorem tG (A B C:List Fl)(x y:Fl)(i j:Nat)(hi:i=A.length)(hj:j=A.length+1+B.length):sw (A++x::(B++y::C)) i j=A++y::(B++x::C):=by
 subst hi;subst hj
 have e1:(A++x::(B++y::C)).getD (A.length+1+B.length) default=y:=by
  rw[a_,lf aa,show A.length+1+B.length-A.length=B.length+1 by omega,eF,lf (ai _),gy];rfl
 have e2:(A++x::(B++y::C)).getD A.length default=x:=by
  rw[a_,lf (ai _),gy];rfl
 unfold sw;rw[e1,e2,qi _ _ (ai _),gy,bL,qi _ _ aa,show A.length+1+B.length-A.length=B.length+1 by omega,bN,qi _ _ (ai _),gy,bL]
def dE (l:List Fl)(a b:Nat):Nat->List Fl
 |0=>l
 |n+1=>sw (dE l a b n) (a+n) (b+n)
theorem se (l:List Fl)(a b n:Nat):(dE l a b n).length=l.length:=by
 induction n with
 |zero=>rfl
 |succ n ih=>rw[dE,yD,ih]
theorem PT (P M S:List Fl)(U V:List Fl)(h:U.length=V.length)(n:Nat)(hn:n<=U.length):
 dE (P++(U++(M++(V++S)))) P.length (P.length+U.length+M.length) n=P++((V.take n++U.drop n)++(M++((U.take n++V.drop n)++S))):=by
 induction n with
 |zero=>simp[dE]
 |succ n ih=>
  rw[dE,ih aa];have hu:n<U.length:=aa;have hv:n<V.length:=aa;have d1:U.drop n=U[n]::U.drop (n+1):=qj hu;have d2:V.drop n=V[n]::V.drop (n+1):=qj hv;have t1:U.take (n+1)=U.take n++[U[n]]:=by rw[eu,aZ hu];rfl
  have t2:V.take (n+1)=V.take n++[V[n]]:=by rw[eu,aZ hv];rfl
  have e:=tG (P++V.take n) (U.drop (n+1)++(M++U.take n)) (V.drop (n+1)++S) U[n] V[n] (P.length+n) (P.length+U.length+M.length+n)
   (by rw[ag,ba];omega) (by simp only[ag,ba,cw];omega)
  rw[d1,d2,t1,t2];simp only[aN,gU,List.nil_append]at e⊢;exact e
theorem wZ (P M S U V:List Fl)(h:U.length=V.length)(a b n:Nat)(ha:a=P.length)(hb:b=P.length+U.length+M.length)(hn:n=U.length):
 dE (P++(U++(M++(V++S)))) a b n=P++(V++(M++(U++S))):=by
 subst ha;subst hb;subst hn;rw[PT P M S U V h _ (ai _),List.drop_length,zL,bQ aa,rU aa,bV,bV]
def qI (w:World)(g:Nat)(l:List Fl)(e:Ending)(w':World):Prop:=e= .returned (.tuple #[])/\ay w' g l/\w.grownBy w' (some g)
theorem jl (w:World)(g:Nat):w.grownBy w (some g):=⟨rfl,rfl,rfl,ai _,λ _ _ _=>rfl⟩
theorem jm {w w':World}(h:Below w.heap.size w w')(g:Nat):w.grownBy w' (some g):=⟨h.os,h.tape,h.output,h.size,λ k hk _=>h.block k hk⟩
theorem yL (w:World)(g a b c d:Nat)(v0 v1 v2 v3:Value):w.grownBy ((((w.setCell ⟨g,a,none⟩ v0).setCell ⟨g,b,none⟩ v1).setCell ⟨g,c,none⟩ v2).setCell ⟨g,d,none⟩ v3) (some g):=
 aQ (aQ (aQ (aY _ _ _ _) (aY _ _ _ _)) (aY _ _ _ _)) (aY _ _ _ _)
theorem Hs (g cap N a b n:Nat)(l:List Fl)(fv:Value)(w:World)(hN:l.length=N)(hm:N<=1000)(pH:a+n<=b)(hb:b+n<=N)(hr:ay w g l):
 Calls Tryz.prog 371 #[.slice (some ⟨g,0,none⟩) N cap,.int .i64 a,.int .i64 b,.int .i64 n,fv] w (qI w g (dE l a b n)):=by
 have HN:=ae hN;clear hN;go_enter Tryz.func371,Tryz.ntmps371;go_wp2_with fail;go_loopw [10] (λ i wr=>∃k:Nat,k<=n/\i= .int .i64 k/\ay wr g (dE l a b k)/\w.grownBy wr (some g)) (λ i _=>n-(intOf i).toNat)
 case atStart=>exact⟨0,aa,rfl,hr,jl _ _⟩
 case round=>
  obtain⟨k,hk,rfl,hF,hg⟩:=hrel;by_cases ao:(k:Int)<(n:Int)
  ·have uP:a+k<(dE l a b k).length:=by rw[se,HN.out];omega
   have nR:b+k<(dE l a b k).length:=by rw[se,HN.out];omega
   obtain⟨x,hx⟩:∃x,(dE l a b k)[a+k]? =some x:=⟨_,getD_some uP⟩;obtain⟨y,hy⟩:∃y,(dE l a b k)[b+k]? =some y:=⟨_,getD_some nR⟩;have ig:=hF.swp (a+k) (b+k) hx hy;obtain⟨xp,xd⟩:=x;obtain⟨yp,yd⟩:=y;obtain⟨x0,x1⟩:=hF.cell hx;obtain⟨y0,y1⟩:=hF.cell hy;have uQ:=hF.free ((a+k)*2);have C8:=hF.free ((a+k)*2+1);have uR:=hF.free ((b+k)*2);have C9:=hF.free ((b+k)*2+1);have wa:IntKind.i64.wrap ((a:Int)+(k:Int))=((a+k:Nat):Int):=by rw[aE];omega
   have wb:IntKind.i64.wrap ((b:Int)+(k:Int))=((b+k:Nat):Int):=by rw[aE];omega
   have la:((a+k:Nat):Int)<(N:Int):=by rw[se,HN.out]at uP;omega
   have lb:((b+k:Nat):Int)<(N:Int):=by rw[se,HN.out]at nR;omega
   have aS:(a+k)*2≠(b+k)*2:=aa;have C':(a+k)*2+1≠(b+k)*2:=aa;have uS:(a+k)*2≠(b+k)*2+1:=aa;have HF:=ae ig;have HG:=ae (aQ hg (yL wr g ((a+k)*2) ((a+k)*2+1) ((b+k)*2) ((b+k)*2+1) (.string yp) (.string yd) (.string xp) (.string xd)));clear hF ig hg hx hy uP nR;generalize AB:a+k=ak at*;generalize AD:b+k=bk at*;have EA:=ae AB;have EB:=ae AD;clear AB AD;go_wp2_with fail;have mixed:Tryz.prog.follows Departure.mixedOrders=true:=ah;go_big_region_o;go_wp2_with fail;go_round
   case rel=>exact⟨k+1,aa,by first|rfl|go_num,by rw[dE,EA.out,EB.out];exact HF.out,aQ HG.out (oL _ _)⟩
   case measure=>simp[intOf];omega
  ·obtain rfl:k=n:=aa;go_wp2_with fail;go_end0;exact⟨rfl,hF,hg⟩
theorem uT (g cap N:Nat)(a b n:Int)(a' b' n':Nat)(l l':List Fl)(fv:Value)(w:World)(ea:a=a')(eb:b=b')(en:n=n')(hN:l.length=N)(hm:N<=1000)(pH:a'+n'<=b')(hb:b'+n'<=N)(hr:ay w g l)(hl:dE l a' b' n'=l'):
 Calls Tryz.prog 371 #[.slice (some ⟨g,0,none⟩) N cap,.int .i64 a,.int .i64 b,.int .i64 n,fv] w (qI w g l'):=by
 subst ea;subst eb;subst en;subst hl;exact Hs g cap N a' b' n' l fv w hN hm pH hb hr
def jn (goal:List Fl)(m i j:Nat)(l:List Fl):Prop:=∃P U V S:List Fl,l=P++(U++(V++S))/\U.length=i/\V.length=j/\m=P.length+i/\P++(V++(U++S))=goal
theorem AE {goal l:List Fl}{m i j:Nat}(h:jn goal m i j l):l.length=goal.length/\i<=m/\m+j<=l.length:=by
 obtain⟨P,U,V,S,rfl,rfl,rfl,rfl,rfl⟩:=h;simp only[ag];omega
theorem Hu {goal l:List Fl}{m i j:Nat}(h:jn goal m i j l)(gB:j<i):jn goal m (i-j) j (dE l (m-i) m j):=by
 obtain⟨P,U,V,S,rfl,rfl,rfl,rfl,rfl⟩:=h;have hu:U.take V.length++U.drop V.length=U:=gI _ _;have hl:(U.take V.length).length=V.length:=by rw[ba];omega
 have e:=wZ P (U.drop V.length) S (U.take V.length) V hl (P.length+U.length-U.length) (P.length+U.length) V.length aa (by rw[hl,cw];omega) hl.symm;rw[<-aN (U.take V.length),hu]at e;refine⟨P++V,U.drop V.length,U.take V.length,S,?_,?_,hl,?_,?_⟩
 ·rw[e];simp only[aN]
 ·rw[cw]
 ·simp only[ag];omega
 ·rw[aN,<-aN (U.take V.length),hu]
theorem aiY {goal l:List Fl}{m i j:Nat}(h:jn goal m i j l)(gB:i<j):jn goal m i (j-i) (dE l (m-i) (m+j-i) i):=by
 obtain⟨P,U,V,S,rfl,rfl,rfl,rfl,rfl⟩:=h;have hv:V.take (V.length-U.length)++V.drop (V.length-U.length)=V:=gI _ _;have hl:(V.drop (V.length-U.length)).length=U.length:=by rw[cw];omega
 have cI:(V.take (V.length-U.length)).length=V.length-U.length:=by rw[ba];omega
 have e:=wZ P (V.take (V.length-U.length)) S U (V.drop (V.length-U.length)) hl.symm (P.length+U.length-U.length) (P.length+U.length+V.length-U.length) U.length aa (by rw[cI];omega) rfl;rw[<-aN (V.take _),hv]at e;refine⟨P,V.drop (V.length-U.length),V.take (V.length-U.length),U++S,?_,hl,cI,?_,?_⟩
 ·rw[e]
 ·omega
 ·rw[<-aN (V.take _),hv]
theorem Hx {goal l:List Fl}{m i j:Nat}(h:jn goal m i j l)(gB:i=j):dE l (m-i) m i=goal:=by
 obtain⟨P,U,V,S,rfl,rfl,rfl,rfl,rfl⟩:=h;have e:=wZ P [] S U V gB (P.length+U.length-U.length) (P.length+U.length) U.length aa aj rfl;simp only[List.nil_append]at e;exact e
theorem Hy (g cap N a m b:Nat)(l goal:List Fl)(fv:Value)(w:World)(hN:l.length=N)(hm:N<=1000)(hR:jn goal m (m-a) (b-m) l)(h1:a<m)(h2:m<b)(hr:ay w g l):
 Calls Tryz.prog 343 #[.slice (some ⟨g,0,none⟩) N cap,.int .i64 a,.int .i64 m,.int .i64 b,fv] w (qI w g goal):=by
 have ei:=AE hR;have qJ:b<=N:=aa;have w1:IntKind.i64.wrap ((m:Int)-(a:Int))=((m-a:Nat):Int):=by rw[aE];omega
 have w2:IntKind.i64.wrap ((b:Int)-(m:Int))=((b-m:Nat):Int):=by rw[aE];omega
 have HR:=ae hR;have HL:=ae (show goal.length=N by omega);clear hR ei hN;obtain⟨i0,xq⟩:∃i,m-a=i:=⟨_,rfl⟩;obtain⟨j0,AF⟩:∃j,b-m=j:=⟨_,rfl⟩;rw[xq]at w1 HR;rw[AF]at w2 HR;have p1:1<=i0:=aa;have p2:1<=j0:=aa;have q1:i0<=1000:=aa;have q2:j0<=1000:=aa;have q3:m<=1000:=aa;clear xq AF;go_enter Tryz.func343,Tryz.ntmps343;go_wp2_with fail;go_loopw [10,11] (λ vi vj wr=>∃(i j:Nat) (lr:List Fl),vi= .int .i64 i/\vj= .int .i64 j/\1<=i/\1<=j/\i<=1000/\j<=1000/\Hid (jn goal m i j lr)/\ay wr g lr/\w.grownBy wr (some g)) (λ vi vj _=>(intOf vi).toNat+(intOf vj).toNat)
 case atStart=>exact⟨i0,j0,l,rfl,rfl,p1,p2,q1,q2,ae HR.out,hr,jl _ _⟩
 case round=>
  obtain⟨i,j,lr,rfl,rfl,k1,k2,k3,k4,hA,hF,hg⟩:=hrel;have ei:=AE hA.out;have qK:=ae (show lr.length=N by rw[ei.1];exact HL.out);have c1:i<=m:=ei.2.1;have c2:m+j<=N:=by rw[<-qK.out];exact ei.2.2
  have v1:IntKind.i64.wrap ((m:Int)-(i:Int))=(m:Int)-(i:Int):=by rw[aE];omega
  have v2:IntKind.i64.wrap ((m:Int)+(j:Int))=(m:Int)+(j:Int):=by rw[aE];omega
  have v3:IntKind.i64.wrap ((m:Int)+(j:Int)-(i:Int))=(m:Int)+(j:Int)-(i:Int):=by rw[aE];omega
  have v4:IntKind.i64.wrap ((i:Int)-(j:Int))=(i:Int)-(j:Int):=by rw[aE];omega
  have v5:IntKind.i64.wrap ((j:Int)-(i:Int))=(j:Int)-(i:Int):=by rw[aE];omega
  clear ei;by_cases heq:(i:Int)=(j:Int)
  ·have HG:=ae (Hx hA.out (by omega:i=j));clear hA;go_wp2_with fail;(with_reducible refine(uT g cap N _ _ _ (m-i) m i lr goal fv _ aa rfl aa qK.out hm aa aa hF HG.out).mono ?_);rintro e w3 ⟨rfl,bZ,cz⟩;go_wp2_with fail;go_end0;exact⟨rfl,bZ,aQ hg cz⟩
  ·by_cases ao:(j:Int)<(i:Int)
   ·have lq:=ae (Hu hA.out (by omega:j<i));clear hA;go_wp2_with fail;(with_reducible refine(uT g cap N _ _ _ (m-i) m j lr _ fv _ aa rfl rfl qK.out hm aa aa hF rfl).mono ?_);rintro e w3 ⟨rfl,bZ,cz⟩;go_wp2_with fail;go_round
    case rel=>exact⟨i-j,j,_,by congr 1;omega,rfl,aa,k2,aa,k4,lq,bZ,aQ hg cz⟩
    case measure=>simp[intOf];omega
   ·have lq:=ae (aiY hA.out (by omega:i<j));clear hA;go_wp2_with fail;(with_reducible refine(uT g cap N _ _ _ (m-i) (m+j-i) i lr _ fv _ aa aa rfl qK.out hm aa aa hF rfl).mono ?_);rintro e w3 ⟨rfl,bZ,cz⟩;go_wp2_with fail;go_round
    case rel=>exact⟨i,j-i,_,rfl,by congr 1;omega,k1,aa,k3,aa,lq,bZ,aQ hg cz⟩
    case measure=>simp[intOf];omega
end
section
open Go.RowKit
open Go.Lib (compareBytes)
theorem Xr:∀a b:List UInt8,compareBytes a b<0↔a<b
 |[],[]=>by simp[compareBytes]
 |[],_::_=>by simp[compareBytes]
 |_::_,[]=>by simp[compareBytes]
 |x::a,y::b=>by
  rw[Xm,List.cons_lt_cons_iff];by_cases h:x<y
  ·rw[if_pos h];simp[h]
  ·rw[if_neg h];by_cases h2:y<x
   ·rw[if_pos h2];have aS:x≠y:=λ e=>by subst e;exact h h2
    simp[h,aS]
   ·rw[if_neg h2]
    have he:x=y:=by
     have h1:¬x.toNat<y.toNat:=h;have h3:¬y.toNat<x.toNat:=h2;exact yg.1 aa
    subst he;rw[Xr a b];simp[h]
def aM (x y:Fl):Prop:=x.1.toList<y.1.toList
theorem mi (x y:Fl):fw x.1 y.1<0↔aM x y:=Xr _ _
theorem uI (x:Fl):¬aM x x:=List.lt_irrefl _
theorem PS {x y z:Fl}(h:aM x y)(h2:aM y z):aM x z:=List.lt_trans h h2
theorem Lu {x y:Fl}(h:¬aM x y)(h2:¬aM y x):x.1=y.1:=ma (List.le_antisymm (List.not_lt.1 h2) (List.not_lt.1 h))
theorem CZ {x y:Fl}(h:aM x y):x.1≠y.1:=λ e=>by unfold aM at h;rw[e]at h;exact List.lt_irrefl _ h
theorem nN {x y z:Fl}(h:¬aM y x)(h2:¬aM z y):¬aM z x:=List.not_lt.2 (List.le_trans (List.not_lt.1 h) (List.not_lt.1 h2))
theorem Am {x y z:Fl}(h:aM x y)(h2:¬aM z y):aM x z:=Classical.byContradiction λ h3=>h2 (List.lt_of_le_of_lt (List.not_lt.1 h3) h)
theorem C3 {x y z:Fl}(h:¬aM y x)(h2:aM y z):aM x z:=List.lt_of_le_of_lt (List.not_lt.1 h) h2
theorem C0 {x y:Fl}(h:aM x y):¬aM y x:=λ h2=>uI _ (PS h h2)
def aI (l:List Fl):Prop:=l.Pairwise λ x y=>¬aM y x
theorem cJ {a b:List Fl}:aI (a++b)↔aI a/\aI b/\∀x∈a,∀y∈b,¬aM y x:=List.pairwise_append
theorem Lv (x:Fl):aI [x]:=List.pairwise_singleton _ _
def aK (a b:List Fl):Prop:=∀p:ByteArray,a.filter (λ x=>decide (x.1=p))=b.filter (λ x=>decide (x.1=p))
theorem aK.dW (a:List Fl):aK a a:=λ _=>rfl
theorem aK.symm {a b:List Fl}(h:aK a b):aK b a:=λ p=>(h p).symm
theorem aK.trans {a b c:List Fl}(h:aK a b)(h2:aK b c):aK a c:=λ p=>(h p).trans (h2 p)
theorem aK.app {a b c d:List Fl}(h:aK a b)(h2:aK c d):aK (a++c) (b++d):=λ p=>by rw[kI,kI,h p,h2 p]
theorem aK.mem {a b:List Fl}(h:aK a b){x:Fl}(hx:x∈b):x∈a:=by
 have h1:x∈b.filter (λ y=>decide (y.1=x.1)):=pz.2 ⟨hx,aj⟩;rw[<-h x.1]at h1;exact(pz.1 h1).1
theorem aK.comm {a b:List Fl}(h:∀x∈a,∀y∈b,x.1≠y.1):aK (a++b) (b++a):=λ p=>by
 rw[kI,kI];by_cases ha:∃x∈a,x.1=p
 ·obtain⟨x,hx,rfl⟩:=ha;have:b.filter (λ y=>decide (y.1=x.1))=[]:=rS.2 λ y hy=>by simpa using(h x hx y hy).symm
  rw[this];simp
 ·have:a.filter (λ y=>decide (y.1=p))=[]:=rS.2 λ y hy=>by simpa using λ e=>ha ⟨y,hy,e⟩
  rw[this];simp
theorem E0:∀a b:List Fl,aI a->aI b->aK a b->a=b
 |[],[],_,_,_=>rfl
 |[],y::b,_,_,h=>absurd (h.mem (s9)) aj
 |x::a,[],_,_,h=>absurd (h.symm.mem (s9)) aj
 |x::a,y::b,ha,hb,h=>by
  have Ao:=lX.1 ha;have oV:=lX.1 hb
  have h1:¬aM y x:=by
   have:y∈x::a:=h.mem s9;rcases eW.1 this with rfl|h1
   ·exact uI _
   ·exact Ao.1 y h1
  have h2:¬aM x y:=by
   have:x∈y::b:=h.symm.mem s9;rcases eW.1 this with rfl|h1
   ·exact uI _
   ·exact oV.1 x h1
  have hp:x.1=y.1:=Lu h2 h1;have hx:=h x.1;rw[oJ,oJ,if_pos aj,if_pos (by simp[hp])]at hx;have G8:x=y:=(yl hx).1;subst G8
  have hs:aK a b:=λ p=>by
   have hq:=h p;rw[oJ,oJ]at hq;by_cases e:x.1=p
   ·rw[if_pos (by simpa using e),if_pos (by simpa using e)]at hq;exact(yl hq).2
   ·rw[if_neg (by simpa using e),if_neg (by simpa using e)]at hq;exact hq
  rw[E0 a b Ao.2 oV.2 hs]
theorem Lw {X1 X2 Y1 Y2 Z1 Z2:List Fl}(hX:aI (X1++X2))(hY:aI (Y1++Y2))(h1:∀x∈X1,∀y∈Y2,¬aM y x)(h2:∀y∈Y1,∀x∈X2,aM y x)
 (s1:aI Z1)(s2:aI Z2)(t1:aK (X1++Y1) Z1)(t2:aK (X2++Y2) Z2):aI (Z1++Z2)/\aK ((X1++X2)++(Y1++Y2)) (Z1++Z2):=by
 obtain⟨_,_,hx⟩:=cJ.1 hX;obtain⟨_,_,hy⟩:=cJ.1 hY;refine⟨cJ.2 ⟨s1,s2,λ a ha b hb=>?_⟩,?_⟩
 ·rcases fE.1 (t1.mem ha)with ha|ha<;>rcases fE.1 (t2.mem hb)with hb|hb
  ·exact hx a ha b hb
  ·exact h1 a ha b hb
  ·exact C0 (h2 a ha b hb)
  ·exact hy a ha b hb
 ·have hc:aK (X2++Y1) (Y1++X2):=aK.comm λ x hx y hy=>(CZ (h2 y hy x hx)).symm
  have e1:aK ((X1++X2)++(Y1++Y2)) (X1++(Y1++X2)++Y2):=by
   rw[show(X1++X2)++(Y1++Y2)=X1++(X2++Y1)++Y2 by simp only[aN]];exact((aK.dW X1).app hc).app (aK.dW Y2)
  refine e1.trans ?_;rw[show X1++(Y1++X2)++Y2=(X1++Y1)++(X2++Y2)by simp only[aN]];exact t1.app t2
theorem nO {X:List Fl}{x:Fl}(h:aI (X++[x])):∀a∈X++[x],¬aM x a:=λ a ha=>by
 rcases fE.1 ha with h1|h1
 ·exact(cJ.1 h).2.2 a h1 x aj
 ·simp at h1;subst h1;exact uI _
theorem qx {X:List Fl}{x:Fl}(h:aI (x::X)):∀a∈x::X,¬aM a x:=λ a ha=>by
 rcases eW.1 ha with rfl|h1
 ·exact uI _
 ·exact(lX.1 h).1 a h1
theorem tH {A1 A2:List Fl}{x:Fl}(hA:aI (A1++A2))(h1:∀a∈A1,¬aM x a)(h2:∀a∈A2,aM x a):aI (A1++x::A2)/\aK ((A1++A2)++[x]) (A1++x::A2):=by
 obtain⟨a1,a2,a3⟩:=cJ.1 hA;have hs:aI (x::A2):=lX.2 ⟨λ a ha=>C0 (h2 a ha),a2⟩;refine⟨cJ.2 ⟨a1,hs,λ a ha b hb=>?_⟩,?_⟩
 ·rcases eW.1 hb with rfl|hb
  ·exact h1 a ha
  ·exact a3 a ha b hb
 ·rw[aN];exact(aK.dW A1).app (aK.comm λ a ha y hy=>by simp at hy;subst hy;exact(CZ (h2 a ha)).symm)
theorem Lx {A1 A2:List Fl}{x:Fl}(hA:aI (A1++A2))(h1:∀a∈A1,aM a x)(h2:∀a∈A2,¬aM a x):aI (A1++x::A2)/\aK ([x]++(A1++A2)) (A1++x::A2):=by
 obtain⟨a1,a2,a3⟩:=cJ.1 hA;have hs:aI (x::A2):=lX.2 ⟨λ a ha=>h2 a ha,a2⟩;refine⟨cJ.2 ⟨a1,hs,λ a ha b hb=>?_⟩,?_⟩
 ·rcases eW.1 hb with rfl|hb
  ·exact C0 (h1 a ha)
  ·exact a3 a ha b hb
 ·rw[<-aN,show A1++x::A2=(A1++[x])++A2 by simp];exact(aK.comm λ y hy a ha=>by simp at hy;subst hy;exact(CZ (h1 a ha)).symm).app (aK.dW A2)
end
section
open Go.RowKit
instance (x y:Fl):Decidable (aM x y):=inferInstanceAs (Decidable (x.1.toList<y.1.toList))
def yM (x:Fl):List Fl->List Fl
 |[]=>[x]
 |y::t=>if aM x y then x::y::t else y::yM x t
def ck (l:List Fl):List Fl:=l.foldl (λ out x=>yM x out) []
theorem L5 (x:Fl):∀l:List Fl,∃A B,l=A++B/\yM x l=A++x::B/\(∀a∈A,¬aM x a)/\(∀b r,B=b::r->aM x b)
 |[]=>⟨[],[],rfl,rfl,aj,aj⟩
 |y::t=>by
  unfold yM;by_cases h:aM x y
  ·rw[if_pos h];exact⟨[],y::t,rfl,rfl,aj,λ b r e=>by cases e;exact h⟩
  ·rw[if_neg h];obtain⟨A,B,e1,e2,e3,e4⟩:=L5 x t;refine⟨y::A,B,by rw[e1];rfl,by rw[e2];rfl,λ a ha=>?_,e4⟩;rcases eW.1 ha with rfl|ha
   ·exact h
   ·exact e3 a ha
theorem aiZ (x:Fl)(l:List Fl)(h:aI l):aI (yM x l)/\aK (l++[x]) (yM x l):=by
 obtain⟨A,B,rfl,e2,e3,e4⟩:=L5 x l;rw[e2];refine tH h e3 λ b hb=>?_
 cases B with
 |nil=>cases hb
 |cons y B=>exact Am (e4 y B rfl) (qx (cJ.1 h).2.1 b hb)
theorem ai0 (x:Fl)(l:List Fl):(yM x l).length=l.length+1:=by
 obtain⟨A,B,rfl,e2,_⟩:=L5 x l;rw[e2];simp only[ag,aU];omega
theorem Xs (l:List Fl)(x:Fl):ck (l++[x])=yM x (ck l):=by unfold ck;rw[rT];rfl
theorem Xt {p:List Fl->Prop}(h0:p [])(h1:∀l x,p l->p (l++[x]))(l:List Fl):p l:=by
 rw[<-List.reverse_reverse l];induction l.reverse with
 |nil=>exact h0
 |cons x t ih=>rw[List.reverse_cons];exact h1 _ _ ih
theorem qL (l:List Fl):aI (ck l)/\aK l (ck l)/\(ck l).length=l.length:=by
 induction l using Xt with
 |h0=>exact⟨List.Pairwise.nil,aK.dW _,rfl⟩
 |h1 l x ih=>
  obtain⟨h1,h2,h3⟩:=ih;obtain⟨k1,k2⟩:=aiZ x _ h1;rw[Xs];exact⟨k1,((h2.app (aK.dW [x])).trans k2),by rw[ai0,h3,ag];rfl⟩
theorem Xu {l Z:List Fl}(h1:aI Z)(h2:aK l Z):Z=ck l:=
 E0 _ _ h1 (qL l).1 (h2.symm.trans (qL l).2.1)
theorem Xv {l:List Fl}{x:Fl}:x∈ck l↔x∈l:=⟨λ h=>(qL l).2.1.mem h,λ h=>(qL l).2.1.symm.mem h⟩
theorem ai1 {l A B:List Fl}{x:Fl}(h:ck l=A++B)(h1:A=[]∨∃A' y,A=A'++[y]/\¬aM x y)(h2:∀b∈B,aM x b):ck (l++[x])=A++x::B:=by
 obtain⟨k1,k2,_⟩:=qL l;rw[h]at k1
 have hl:=tH k1 (x:=x) (λ a ha=>by
  rcases h1 with rfl|⟨A',y,rfl,hy⟩
  ·cases ha
  ·exact nN (nO (cJ.1 k1).1 a ha) hy) h2
 refine(Xu hl.1 ?_).symm;rw[h]at k2;exact(k2.app (aK.dW [x])).trans hl.2
theorem Rd.file {w:World}{A:Option Addr}{l:List Fl}(h:Rd w A (fl l)){i:Nat}{x:Fl}(hx:l[i]? =some x):∃b o,A=some ⟨b,o,none⟩/\w.cell? ⟨b,o+i*2,none⟩=some (.string x.1)/\w.cell? ⟨b,o+(i*2+1),none⟩=some (.string x.2):=by
 have hi:i<l.length:=(fX.1 hx).1;obtain⟨b,o,e,hc⟩:=h (by intro e;have:=kQ l;rw[e]at this;simp at this;omega);refine⟨b,o,e,hc _ _ ?_,hc _ _ ?_⟩
 ·rw[Hq,hx];rfl
 ·rw[Hr,hx];rfl
theorem Rd.ij {w:World}{A:Option Addr}{l:List Fl}(h:Rd w A (fl l))(k:Nat):Rd w A (fl (l.take k)):=by
 have h1:=h.take (k*2)
 have e:(fl l).take (k*2)=fl (l.take k):=by
  clear h h1;induction k generalizing l with
  |zero=>simp[fl]
  |succ k ih=>
   cases l with
   |nil=>simp[fl]
   |cons x l=>rw[show(k+1)*2=k*2+1+1 by omega];simp only[fl,uu];rw[ih]
 rw[e]at h1;exact h1
theorem lM {w w':World}{B:Nat}(h:Below B w w')(n:Nat):Below B w (w'.drewN n):=⟨h.os,h.tape,h.output,h.size,h.block⟩
def Small (l:List Fl):Prop:=l.length<=70/\∀x∈l,x.1.size<=3000000/\x.2.size<=3000000
theorem ai2 {l:List Fl}{k:Nat}{x:Fl}(h:∀y∈l.take k,y.1.size<=3000000/\y.2.size<=3000000)(hx:l[k]? =some x)(h1:x.1.size<=3000000)(h2:x.2.size<=3000000):∀y∈l.take (k+1),y.1.size<=3000000/\y.2.size<=3000000:=by
 intro y hy;rw[eu,hx]at hy;rcases fE.1 hy with hy|hy
 ·exact h y hy
 ·simp at hy;subst hy;exact⟨h1,h2⟩
theorem ai3 (l:List Fl)(A:Option Addr)(n c:Nat)(hn:l.length=n)(hc:n<=c)(w:World)(hr:Rd w A (fl l)):
 Calls Tryz.prog 20 #[.slice A n c] w λ e w'=>∃k,k<=n/\Small (l.take k)/\e= .returned (.slice A k c)/\Below w.heap.size w w':=by
 have Hn:=ae hn;have mixed:Tryz.prog.follows Departure.mixedOrders=true:=ah;clear hn;go_enter Tryz.func20,Tryz.ntmps20;go_wp2_with fail;go_loopw [3,4] (λ vs vi wr=>∃(s i:Nat),vs= .int .i64 s/\vi= .int .i64 i/\s<=3000000/\i<=n/\i<=70/\Hid (∀y∈l.take i,y.1.size<=3000000/\y.2.size<=3000000)/\Rd wr A (fl l)/\Below w.heap.size w wr) (λ _ vi _=>n-(intOf vi).toNat)
 case atStart=>exact⟨0,0,rfl,rfl,aa,aa,aa,ae aj,hr,aB _ _⟩
 case round=>
  clear hr;obtain⟨s,i,rfl,rfl,hs,hi,aud,hA,hr,hb⟩:=hrel;by_cases ao:(i:Int)<(n:Int)
  ·have cP:i<l.length:=by rw[Hn.out];omega
   obtain⟨x,hx⟩:∃x,l[i]? =some x:=⟨_,getD_some cP⟩;obtain⟨b,o,rfl,q0,q1⟩:=hr.file hx;obtain⟨xp,xd⟩:=x;obtain⟨p,hp⟩:∃p:Nat,min (xp.size:Int) 4194304=p:=⟨min xp.size 4194304,aa⟩;obtain⟨d,hd⟩:∃d:Nat,min (xd.size:Int) 4194304=d:=⟨min xd.size 4194304,aa⟩;have dV:p<=4194304:=aa;have fj:d<=4194304:=aa;have w1:IntKind.i64.wrap ((s:Int)+(p:Int))=(s:Int)+(p:Int):=by rw[aE];omega
   have w2:IntKind.i64.wrap ((s:Int)+(p:Int)+(d:Int))=(s:Int)+(p:Int)+(d:Int):=by rw[aE];omega
   have HP:Hid (p<=3000000->xp.size<=3000000):=ae aa;have HD:Hid (d<=3000000->xd.size<=3000000):=ae aa;have HX:=ae hx;clear hx cP;have k0:(o+(i*2+1):Nat)=o+i*2+1:=aa;rw[k0]at q1;clear k0;by_cases hbig:(3000000:Int)<(s:Int)+(p:Int)+(d:Int)
   ·go_wp2_with fail;go_quiet (fail);go_wp2_with fail;go_ret;exact⟨i,aa,⟨by rw[ba];omega,hA.out⟩,rfl,lM hb _⟩
   ·by_cases aue:(70:Int)<=(i:Int)
    ·go_wp2_with fail;go_quiet (fail);go_wp2_with fail;go_ret;exact⟨i,aa,⟨by rw[ba];omega,hA.out⟩,rfl,lM hb _⟩
    ·go_wp2_with fail;go_quiet (fail);go_wp2_with fail;go_round
     case rel=>exact⟨s+p+d,i+1,by first|rfl|go_num|(congr 1;omega),by first|rfl|go_num,aa,aa,aa,ae (ai2 hA.out HX.out (HP.out aa) (HD.out aa)),hr,lM hb _⟩
     case measure=>simp[intOf];omega
  ·obtain rfl:i=n:=aa;go_wp2_with fail;go_ret;exact⟨i,aa,⟨by rw[ba];omega,hA.out⟩,rfl,hb⟩
def bad (x y:Fl):Bool:=decide (x.1=y.1)||dd x.1.toList y.1.toList
def two (x y:Fl):Bool:=bad y x||bad x y
def jV:List Fl->Bool
 |[]=>false
 |x::l=>l.any (two x)||jV l
def ik:List Fl->Int
 |[]=>0
 |x::l=>if fI x.1=0 then(if 1048576<x.2.size then 3 else ik l)else 5
def iW (l:List Fl):Int:=if 64<l.length then 3 else if ik l=0 then(if jV l then 6 else 0)else ik l
theorem Qj (p:ByteArray):fI p=0∨fI p=5:=by unfold fI;split<;>simp
theorem Qk (p:ByteArray)(k:Int)(h:fI p=k)(w:World)(hs:p.size<=9223372036854775807):
 Calls Tryz.prog 53 #[.string p] w λ e w'=>e= .returned (.int .i64 k)/\Below w.heap.size w w':=by subst h;exact aiM p w hs
theorem ai4 (p f:ByteArray)(b:Bool)(h:dd p.toList f.toList=b)(w:World)(hp:p.size<=100000000)(hf:f.size<=100000000):
 Calls Tryz.prog 159 #[.string p,.string f] w λ e w'=>e= .returned (.bool b)/\w'=w:=by subst h;exact aiV p f w hp hf
theorem L6 (xp xd yp yd:ByteArray)(b:Bool)(hb:bad (yp,yd) (xp,xd)=b)(w:World)(hx:xp.size<=100000000)(hy:yp.size<=100000000):
 Calls Tryz.prog 103 #[.agg #[.string xp,.string xd],.agg #[.string yp,.string yd]] w λ e w'=>e= .returned (.bool b)/\Below w.heap.size w w':=by
 have jh:=((aB w.heap.size w).alloc (ai _) (.cells #[.string xp,.string xd] 53)).alloc aj (.cells #[.string yp,.string yd] 53);by_cases h1:xp=yp
 ·have H:=ae (show b=true by rw[<-hb];unfold bad;simp[h1]);have e1:(xp.toList==yp.toList)=true:=by rw[h1];simp
  clear h1 hb;go_enter Tryz.func103,Tryz.ntmps103;go_wp2_with fail;go_ret;exact⟨by rw[H.out];rfl,jh⟩
 ·have e1:(xp.toList==yp.toList)=false:=by rw[jE];intro e;exact h1 (ma e)
  have H:=ae (show dd yp.toList xp.toList=b by rw[<-hb];unfold bad;simp[Ne.symm h1]);clear h1 hb;go_enter Tryz.func103,Tryz.ntmps103;go_wp2_with fail;(with_reducible refine(ai4 yp xp b H.out _ hy hx).mono ?_);rintro e w1 ⟨rfl,rfl⟩;go_wp2_with fail;go_ret;exact⟨rfl,jh⟩
theorem drop_cons {l:List Fl}{i:Nat}{x:Fl}(hx:l[i]? =some x):l.drop i=x::l.drop (i+1):=by
 have hi:=(fX.1 hx).1;rw[qj hi,(fX.1 hx).2]
theorem Xw (l:List Fl)(A:Option Addr)(n c:Nat)(k:Int)(hk:iW l=k)(hn:l.length=n)(hc:n<=c)(nS:n<=1000)(aG:∀x∈l,x.1.size<=100000000/\x.2.size<=100000000)(w:World)(hr:Rd w A (fl l)):
 Calls Tryz.prog 55 #[.slice A n c] w λ e w'=>e= .returned (.int .i64 k)/\Below w.heap.size w w':=by
 have Hn:=ae hn;have HK:=ae hk;have HZ:=ae aG;by_cases uU:(64:Int)<(n:Int)
 ·have H:=ae (show k=3 by rw[<-hk];unfold iW;rw[if_pos aa]);clear hn hk aG;go_enter Tryz.func55,Tryz.ntmps55;go_wp2_with fail;go_ret;exact⟨by rw[H.out];rfl,aB _ _⟩
 ·have yN:=ae (show(if ik l=0 then(if jV l then 6 else 0)else ik l)=k by rw[<-hk];unfold iW;rw[if_neg (show¬64<l.length by omega)]);clear hn hk aG HK;go_enter Tryz.func55,Tryz.ntmps55;go_wp2_with fail;go_loopw [15] (λ vi wr=>∃i:Nat,vi= .int .i64 i/\i<=n/\Hid (ik (l.drop i)=ik l)/\Rd wr A (fl l)/\Below w.heap.size w wr) (λ vi _=>n-(intOf vi).toNat)
  case atStart=>exact⟨0,rfl,aa,ae rfl,hr,aB _ _⟩
  case round=>
   clear hr;obtain⟨i,rfl,hi,hC,hr,hb⟩:=hrel;by_cases ao:(i:Int)<(n:Int)
   ·have cP:i<l.length:=by rw[Hn.out];omega
    obtain⟨x,hx⟩:∃x,l[i]? =some x:=⟨_,getD_some cP⟩;obtain⟨b,o,rfl,q0,q1⟩:=hr.file hx;have eB:=HZ.out x (du hx);obtain⟨xp,xd⟩:=x;rw[show(o+(i*2+1):Nat)=o+i*2+1 by omega]at q1;have hD:=drop_cons hx;have HD:=ae hD;have gz:=hb.alloc hb.size (.cells #[.string xp,.string xd] 53);have hB:=Bk.new wr 53 #[.string xp,.string xd];have cH:=hr.below ((aB wr.heap.size wr).alloc (ai _) (.cells #[.string xp,.string xd] 53));have xr:xp.size<=100000000:=eB.1;have Ql:xd.size<=100000000:=eB.2;clear hx cP hD eB hr hb;rcases Qj xp with h0|h5
    ·have H0:=ae h0;clear h0;go_wp2_with fail;(with_reducible refine(Qk xp 0 H0.out _ aa).mono ?_);rintro e w1 ⟨rfl,au⟩;have aC:=bl gz au;have dL:=cH.below au;have cC:=hB.aL au;have p0:=cC.cell 0;have p1:=cC.cell 1;simp only[gW,eF,lZ]at p0 p1;clear gz au cH hB;by_cases hd:(1048576:Int)<(xd.size:Int)
     ·have H:=ae (show k=3 by
       rw[<-yN.out,<-hC.out,HD.out,ik,if_pos H0.out,if_pos (show 1048576<xd.size by omega)];rfl)
      go_wp2_with fail;go_ret;exact⟨by rw[H.out];rfl,aC⟩
     ·have kR:=ae (show ik (l.drop (i+1))=ik l by
       rw[<-hC.out,HD.out,ik,if_pos H0.out,if_neg (show¬1048576<xd.size by omega)])
      go_wp2_with fail;go_round
      case rel=>exact⟨i+1,by first|rfl|go_num,aa,kR,dL,aC⟩
      case measure=>simp[intOf];omega
    ·have H5:=ae h5
     have e5:ik (l.drop i)=5:=by
      have aS:¬fI (xp,xd).1=0:=by show¬fI xp=0;rw[h5];decide
      rw[HD.out,ik,if_neg aS]
     have H:=ae (show k=5 by rw[<-yN.out,<-hC.out,e5];rfl);clear e5;clear h5;go_wp2_with fail;(with_reducible refine(Qk xp 5 H5.out _ aa).mono ?_);rintro e w1 ⟨rfl,au⟩;go_wp2_with fail;go_ret;exact⟨by rw[H.out];rfl,bl gz au⟩
   ·obtain rfl:i=n:=aa;have lN:ik l=0:=by rw[<-hC.out,rU (by rw[Hn.out];exact ai _)];rfl
    have tK:=ae (show(if jV l then(6:Int)else 0)=k by rw[<-yN.out,if_pos lN]);clear hC yN lN;go_wp2_with fail;go_loopw [32] (λ vi bU=>∃j:Nat,vi= .int .i64 j/\j<=i/\Hid (jV (l.drop j)=jV l)/\Rd bU A (fl l)/\Below w.heap.size w bU) (λ vi _=>i-(intOf vi).toNat)
    case atStart=>exact⟨0,rfl,aa,ae rfl,hr,hb⟩
    case round=>
     clear hr hb;obtain⟨j,rfl,hj,hC,hr,hb⟩:=hrel;by_cases fO:(j:Int)<(i:Int)
     ·have nT:j<l.length:=by rw[Hn.out];omega
      obtain⟨x,hx⟩:∃x,l[j]? =some x:=⟨_,getD_some nT⟩;obtain⟨b,o,rfl,q0,q1⟩:=hr.file hx;have eB:=HZ.out x (du hx);obtain⟨xp,xd⟩:=x;rw[show(o+(j*2+1):Nat)=o+j*2+1 by omega]at q1;have HD:=ae (drop_cons hx);have gz:=hb.alloc hb.size (.cells #[.string xp,.string xd] 53);have hB:=Bk.new wr 53 #[.string xp,.string xd];have cH:=hr.below ((aB wr.heap.size wr).alloc (ai _) (.cells #[.string xp,.string xd] 53));have xr:xp.size<=100000000:=eB.1;have w1:IntKind.i64.wrap ((j:Int)+1)=(j:Int)+1:=by rw[aE];omega
      have HJ:=ae nT;clear hx nT eB hr hb;by_cases Qm:c=j+1
      all_goals
       go_wp2_with fail
       go_loopw [42] (λ vm bU=>∃m:Nat,vm= .int .i64 m/\m+j+1<=i/\Hid (((l.drop (j+1)).drop m).any (two (xp,xd))=(l.drop (j+1)).any (two (xp,xd)))/\Bk bU wr.heap.size 53 #[.string xp,.string xd]/\Rd bU (some ⟨b,o,none⟩) (fl l)/\Below w.heap.size w bU) (λ vm _=>i-(intOf vm).toNat)
       case atStart=>exact⟨0,rfl,aa,ae rfl,hB,cH,gz⟩
       case round=>
        clear hB cH gz q0 q1;obtain⟨m,rfl,hm,Qn,hB,cH,gz⟩:=hrel;by_cases tL:(m:Int)<((i-(j+1):Nat):Int)
        ·first
         |(exfalso;omega)
         |skip
         all_goals
          have iG:j+1+m<l.length:=by rw[Hn.out];omega
          obtain⟨y,hy⟩:∃y,l[j+1+m]? =some y:=⟨_,getD_some iG⟩
          obtain⟨b',o',e0,q0,q1⟩:=cH.file hy
          cases e0
          have xt:=HZ.out y (du hy)
          obtain⟨yp,yd⟩:=y
          rw[show(o+((j+1+m)*2+1):Nat)=o+(j+1)*2+m*2+1 by omega]at q1
          rw[show(o+(j+1+m)*2:Nat)=o+(j+1)*2+m*2 by omega]at q0
          have L7:yp.size<=100000000:=xt.1
          have Qo:(l.drop (j+1)).drop m=(yp,yd)::(l.drop (j+1)).drop (m+1):=by
           rw[uy,uy,drop_cons hy];rfl
          have AG:=ae Qo
          have Qp:=gz.alloc gz.size (.cells #[.string yp,.string yd] 53)
          have cC:=hB.alloc (.cells #[.string yp,.string yd] 53)
          have hY:=Bk.new wr 53 #[.string yp,.string yd]
          have fK:=cH.below ((aB wr.heap.size wr).alloc (ai _) (.cells #[.string yp,.string yd] 53))
          have p0:=cC.cell 0
          have p1:=cC.cell 1
          have y0:=hY.cell 0
          have y1:=hY.cell 1
          simp only[gW,eF,lZ]at p0 p1 y0 y1
          obtain⟨t1,h1⟩:∃t,bad (yp,yd) (xp,xd)=t:=⟨_,rfl⟩
          obtain⟨t2,h2⟩:∃t,bad (xp,xd) (yp,yd)=t:=⟨_,rfl⟩
          have HT:=ae (show two (xp,xd) (yp,yd)=(t1||t2)by unfold two;rw[h1,h2])
          have H1:=ae h1
          have H2:=ae h2
          have Xx:Hid ((t1||t2)=true->k=6):=ae λ ht=>by
           have e1:jV (l.drop j)=true:=by
            rw[HD.out,jV,<-Qn.out,AG.out,List.any_cons,HT.out,ht];rfl
           rw[<-tK.out,<-hC.out,e1];rfl
          clear hy iG xt Qo h1 h2 gz hB cH hY
          cases t1 with
          |true=>
           have H:=ae (Xx.out rfl);go_wp2_with fail;(with_reducible refine(L6 xp xd yp yd true H1.out _ xr L7).mono ?_);rintro e w3 ⟨rfl,aO⟩;go_wp2_with fail;go_ret;exact⟨by rw[H.out];rfl,bl Qp aO⟩
          |false=>
           go_wp2_with fail;(with_reducible refine(L6 xp xd yp yd false H1.out _ xr L7).mono ?_);rintro e w3 ⟨rfl,aO⟩;have bF:=cC.aL aO;have Qq:=(Bk.new _ 53 #[.string yp,.string yd]).aL aO;have jo:=fK.below aO;have Qr:=bl Qp aO;clear p0 p1 y0 y1 cC fK Qp aO;have p0:=bF.cell 0;have p1:=bF.cell 1;have y0:=Qq.cell 0;have y1:=Qq.cell 1;simp only[gW,eF,lZ]at p0 p1 y0 y1
           cases t2 with
           |true=>
            have H:=ae (Xx.out rfl);go_wp2_with fail;(with_reducible refine(L6 yp yd xp xd true H2.out _ L7 xr).mono ?_);rintro e w4 ⟨rfl,cu⟩;go_wp2_with fail;go_ret;exact⟨by rw[H.out];rfl,bl Qr cu⟩
           |false=>
            have sq:=ae (show((l.drop (j+1)).drop (m+1)).any (two (xp,xd))=(l.drop (j+1)).any (two (xp,xd))by
             rw[<-Qn.out,AG.out,List.any_cons,HT.out];rfl)
            go_wp2_with fail;(with_reducible refine(L6 yp yd xp xd false H2.out _ L7 xr).mono ?_);rintro e w4 ⟨rfl,cu⟩;have eZ:=bF.aL cu;have nU:=jo.below cu;have ai5:=bl Qr cu;clear p0 p1 y0 y1 bF Qq jo Qr cu;go_wp2_with fail;go_round
            case rel=>exact⟨m+1,by first|rfl|go_num,aa,sq,eZ,nU,ai5⟩
            case measure=>simp[intOf];omega
        ·have kR:=ae (show jV (l.drop (j+1))=jV l by
          have e0:(l.drop (j+1)).drop m=[]:=rU (by rw[cw,Hn.out];omega);rw[<-hC.out,HD.out,jV,<-Qn.out,e0];rfl)
         go_wp2_with fail;go_round
         case rel=>
          first
          |exact⟨j+1,by first|rfl|go_num,aa,kR,cH,gz⟩
          |exact⟨_,_,_,_,_,⟨j+1,rfl,aa,kR⟩,rfl,rfl,rfl,rfl,by first|rfl|go_num⟩
         case measure=>simp[intOf];omega
     ·have lN:jV l=false:=by rw[<-hC.out,rU (by rw[Hn.out];omega)];rfl
      have H:=ae (show k=0 by rw[<-tK.out,lN];rfl);go_wp2_with fail;go_ret;exact⟨by rw[H.out];rfl,hb⟩
theorem Xy (l:List Fl):jV l=true↔∃(i k:Nat) (x y:Fl),i≠k/\l[i]? =some x/\l[k]? =some y/\bad x y=true:=by
 induction l with
 |nil=>simp[jV]
 |cons z l ih=>
  rw[jV,Bool.or_eq_true,ih];constructor
  ·rintro(h|⟨i,k,x,y,h1,h2,h3,h4⟩)
   ·obtain⟨y,hy,ht⟩:=List.any_eq_true.1 h;obtain⟨k,hk,e⟩:=List.mem_iff_getElem.1 hy;have mY:l[k]? =some y:=by rw[aZ hk,e]
    unfold two at ht;rw[Bool.or_eq_true]at ht;rcases ht with ht|ht
    ·exact⟨k+1,0,y,z,aa,mY,rfl,ht⟩
    ·exact⟨0,k+1,z,y,aa,rfl,mY,ht⟩
   ·exact⟨i+1,k+1,x,y,aa,h2,h3,h4⟩
  ·rintro⟨i,k,x,y,h1,h2,h3,h4⟩;match i,k,h1,h2,h3 with
   |0,0,h1,_,_=>exact absurd rfl h1
   |0,k+1,_,h2,h3=>
    simp only[lZ,Es]at h2;subst h2;exact .inl (List.any_eq_true.2 ⟨y,du h3,by unfold two;rw[h4,Bool.or_true]⟩)
   |i+1,0,_,h2,h3=>
    simp only[lZ,Es]at h3;subst h3;exact .inl (List.any_eq_true.2 ⟨x,du h2,by unfold two;rw[h4,Bool.true_or]⟩)
   |i+1,k+1,h1,h2,h3=>exact .inr ⟨i,k,x,y,aa,h2,h3,h4⟩
theorem Xz (p:ByteArray)(b:Bool)(h:fI p=if b then 0 else 5)(w:World)(hs:p.size<=100000000):
 Calls Tryz.prog 26 #[.string p] w λ e w'=>e= .returned (.bool b)/\Below w.heap.size w w':=by
 have e:qD p.toList=b:=by
  unfold fI at h
  cases hq:qD p.toList<;>cases b<;>simp[hq]at h⊢
 subst e;exact aiS p w hs
theorem XA (p f:ByteArray)(b:Bool)(h:dd p.toList f.toList=b)(w:World)(hp:p.size<=100000000)(hf:f.size<=100000000):
 Calls Tryz.prog 27 #[.string p,.string f] w λ e w'=>e= .returned (.bool b)/\∃q,w'=w.drewN q:=by subst h;exact(aiW p f w hp hf).mono λ e w' ⟨he,hw⟩=>⟨he,0,hw⟩
def Clear (l:List Fl)(i k:Nat):Prop:=(∀i' k' x y,i'<i->i'≠k'->l[i']? =some x->l[k']? =some y->bad x y=false)/\∀k' x y,k'<k->i≠k'->l[i]? =some x->l[k']? =some y->bad x y=false
theorem ai6 (l:List Fl)(A:Option Addr)(n c:Nat)(k:Int)(hk:iW l=k)(hn:l.length=n)(nS:n<=1000)(aG:∀x∈l,x.1.size<=100000000/\x.2.size<=100000000)(w:World)(hr:Rd w A (fl l)):
 Calls Tryz.prog 7 #[.slice A n c] w λ e w'=>e= .returned (.int .i64 k)/\Below w.heap.size w w':=by
 have Hn:=ae hn;have HZ:=ae aG;have mixed:Tryz.prog.follows Departure.mixedOrders=true:=ah;by_cases uU:(64:Int)<(n:Int)
 ·have H:=ae (show k=3 by rw[<-hk];unfold iW;rw[if_pos aa]);clear hn hk aG;go_enter Tryz.func7,Tryz.ntmps7;go_wp2_with fail;go_ret;exact⟨by rw[H.out];rfl,aB _ _⟩
 ·have yN:=ae (show(if ik l=0 then(if jV l then 6 else 0)else ik l)=k by rw[<-hk];unfold iW;rw[if_neg (show¬64<l.length by omega)]);clear hn hk aG;go_enter Tryz.func7,Tryz.ntmps7;go_wp2_with fail;go_loopw [3] (λ vi wr=>∃i:Nat,vi= .int .i64 i/\i<=n/\Hid (ik (l.drop i)=ik l)/\Rd wr A (fl l)/\Below w.heap.size w wr) (λ vi _=>n-(intOf vi).toNat)
  case atStart=>exact⟨0,rfl,aa,ae rfl,hr,aB _ _⟩
  case round=>
   clear hr;obtain⟨i,rfl,hi,hC,hr,hb⟩:=hrel;by_cases ao:(i:Int)<(n:Int)
   ·have cP:i<l.length:=by rw[Hn.out];omega
    obtain⟨x,hx⟩:∃x,l[i]? =some x:=⟨_,getD_some cP⟩;have HX:=ae hx;obtain⟨b,o,rfl,q0,q1⟩:=hr.file hx;have eB:=HZ.out x (du hx);obtain⟨xp,xd⟩:=x;rw[show(o+(i*2+1):Nat)=o+i*2+1 by omega]at q1;have HD:=ae (drop_cons hx);have xr:xp.size<=100000000:=eB.1;have Ql:xd.size<=100000000:=eB.2;clear hx cP eB;rcases Qj xp with h0|h5
    ·have H0:=ae h0;clear h0;go_wp2_with fail;(with_reducible refine(Xz xp true (by simp[H0.out]) _ xr).mono ?_);rintro e w1 ⟨rfl,au⟩;have aC:=bl hb au;have dL:=hr.below au;obtain⟨b',o',e0,q0,q1⟩:=dL.file HX.out
     cases e0
     rw[show(o+(i*2+1):Nat)=o+i*2+1 by omega]at q1;clear hb au hr;by_cases hd:(1048576:Int)<(xd.size:Int)
     ·have H:=ae (show k=3 by
       rw[<-yN.out,<-hC.out,HD.out,ik,if_pos H0.out,if_pos (show 1048576<xd.size by omega)];rfl)
      go_wp2_with fail;go_ret;exact⟨by rw[H.out];rfl,aC⟩
     ·have kR:=ae (show ik (l.drop (i+1))=ik l by
       rw[<-hC.out,HD.out,ik,if_pos H0.out,if_neg (show¬1048576<xd.size by omega)])
      go_wp2_with fail;go_round
      case rel=>exact⟨i+1,by first|rfl|go_num,aa,kR,dL,aC⟩
      case measure=>simp[intOf];omega
    ·have H5:=ae h5
     have e5:ik (l.drop i)=5:=by
      have aS:¬fI (xp,xd).1=0:=by show¬fI xp=0;rw[h5];decide
      rw[HD.out,ik,if_neg aS]
     have H:=ae (show k=5 by rw[<-yN.out,<-hC.out,e5];rfl);clear e5;clear h5;go_wp2_with fail;(with_reducible refine(Xz xp false (by simp[H5.out]) _ xr).mono ?_);rintro e w1 ⟨rfl,au⟩;go_wp2_with fail;go_ret;exact⟨by rw[H.out];rfl,bl hb au⟩
   ·obtain rfl:i=n:=aa;have lN:ik l=0:=by rw[<-hC.out,rU (by rw[Hn.out];exact ai _)];rfl
    have tK:=ae (show(if jV l then(6:Int)else 0)=k by rw[<-yN.out,if_pos lN]);clear hC yN lN;go_wp2_with fail;go_loopw [4] (λ vi bU=>∃j:Nat,vi= .int .i64 j/\j<=i/\Hid (Clear l j 0)/\Rd bU A (fl l)/\Below w.heap.size w bU) (λ vi _=>i-(intOf vi).toNat)
    case atStart=>exact⟨0,rfl,aa,ae ⟨λ _ _ _ _ h=>absurd h aa,λ _ _ _ h=>absurd h aa⟩,hr,hb⟩
    case round=>
     clear hr hb;obtain⟨j,rfl,hj,hC,hr,hb⟩:=hrel;by_cases fO:(j:Int)<(i:Int)
     ·go_wp2_with fail;go_loopw [5] (λ vm bU=>∃m:Nat,vm= .int .i64 m/\m<=i/\Hid (Clear l j m)/\Rd bU A (fl l)/\Below w.heap.size w bU) (λ vm _=>i-(intOf vm).toNat)
      case atStart=>exact⟨0,rfl,aa,hC,hr,hb⟩
      case round=>
       clear hr hb hC;obtain⟨m,rfl,hm,hC,hr,hb⟩:=hrel;by_cases tL:(m:Int)<(i:Int)
       ·by_cases mX:j=m
        ·have C_:((j:Int) !=(m:Int))=false:=by simp[mX]
         have ai7:((j:Int)==(m:Int))=true:=by simp[mX]
         have kR:=ae (show Clear l j (m+1)from⟨hC.out.1,λ k' x y h1 h2=>hC.out.2 k' x y aa h2⟩);clear hC mX;go_wp2_with fail;go_quiet (fail);go_wp2_with fail;go_round
         case rel=>exact⟨m+1,by first|rfl|go_num,aa,kR,hr,lM hb _⟩
         case measure=>simp[intOf];omega
        ·have C_:((j:Int) !=(m:Int))=true:=by simp;omega
         have ai7:((j:Int)==(m:Int))=false:=by simp;omega
         have nT:j<l.length:=by rw[Hn.out];omega
         have iG:m<l.length:=by rw[Hn.out];omega
         obtain⟨x,hx⟩:∃x,l[j]? =some x:=⟨_,getD_some nT⟩;obtain⟨y,hy⟩:∃y,l[m]? =some y:=⟨_,getD_some iG⟩;obtain⟨b,o,rfl,q0,q1⟩:=hr.file hx;obtain⟨b',o',e0,y0,y1⟩:=hr.file hy
         cases e0
         have eB:=(HZ.out x (du hx)).1;have xt:=(HZ.out y (du hy)).1;have ai8:∀n,(wr.drewN n).cell? ⟨b,o+j*2,none⟩=some (.string x.1):=λ _=>q0;have ai9:∀n,(wr.drewN n).cell? ⟨b,o+m*2,none⟩=some (.string y.1):=λ _=>y0
         have cD:Hid (bad x y=true->k=6):=ae λ il=>by
          have e1:jV l=true:=(Xy l).2 ⟨j,m,x,y,mX,hx,hy,il⟩;rw[<-tK.out,e1];rfl
         have bG:Hid (bad x y=false->Clear l j (m+1)):=ae λ il=>⟨hC.out.1,λ k' x' y' h1 h2 h3 h4=>by
          by_cases hk:k'<m
          ·exact hC.out.2 k' x' y' hk h2 h3 h4
          ·obtain rfl:k'=m:=aa;rw[hx]at h3;rw[hy]at h4
           cases h3
           cases h4
           exact il⟩
         have auf:=ae mX;clear hx hy hC mX nT iG q1 y1 q0 y0;obtain⟨xp,xd⟩:=x;obtain⟨yp,yd⟩:=y;by_cases he:xp=yp
         ·have e1:(xp.toList==yp.toList)=true:=by rw[he];simp
          have H:=ae (cD.out (by unfold bad;simp[he]));clear he cD bG;go_wp2_with fail;go_quiet (fail);go_wp2_with fail;go_ret;exact⟨by rw[H.out];rfl,lM hb _⟩
         ·have e1:(xp.toList==yp.toList)=false:=by rw[jE];intro e;exact he (ma e)
          obtain⟨t,ht⟩:∃t,dd xp.toList yp.toList=t:=⟨_,rfl⟩;have L8:bad (xp,xd) (yp,yd)=t:=by unfold bad;simp[he,ht]
          have HT:=ae ht;rw[L8]at cD bG;clear he ht L8
          cases t with
          |true=>
           have H:=ae (cD.out rfl);go_wp2_with fail;go_quiet (first|(go_at_call 27;refine Calls.quiet_of (XA xp yp true HT.out _ eB xt)));go_wp2_with fail;go_ret;exact⟨by rw[H.out];rfl,lM hb _⟩
          |false=>
           have kR:=ae (bG.out rfl);go_wp2_with fail;go_quiet (first|(go_at_call 27;refine Calls.quiet_of (XA xp yp false HT.out _ eB xt)));go_wp2_with fail;go_round
           case rel=>exact⟨m+1,by first|rfl|go_num,aa,kR,hr,lM hb _⟩
           case measure=>simp[intOf];omega
       ·obtain rfl:m=i:=aa
        have kR:=ae (show Clear l (j+1) 0 from⟨λ i' k' x y h1 h2 h3 h4=>by
         by_cases uC:i'<j
         ·exact hC.out.1 i' k' x y uC h2 h3 h4
         ·obtain rfl:i'=j:=aa;exact hC.out.2 k' x y (by have:=(fX.1 h4).1;have:=Hn.out;omega) h2 h3 h4,λ _ _ _ h=>absurd h aa⟩)
        go_wp2_with fail;go_round
        case rel=>exact⟨j+1,by first|rfl|go_num,aa,kR,hr,hb⟩
        case measure=>simp[intOf];omega
     ·have lN:jV l=false:=by
       cases aV:jV l with
       |false=>rfl
       |true=>
        obtain⟨i',k',x,y,h1,h2,h3,h4⟩:=(Xy l).1 aV;have:=hC.out.1 i' k' x y (by have:=(fX.1 h2).1;have:=Hn.out;omega) h1 h2 h3;rw[h4]at this
        cases this
      have H:=ae (show k=0 by rw[<-tK.out,lN];rfl);go_wp2_with fail;go_ret;exact⟨by rw[H.out];rfl,hb⟩
