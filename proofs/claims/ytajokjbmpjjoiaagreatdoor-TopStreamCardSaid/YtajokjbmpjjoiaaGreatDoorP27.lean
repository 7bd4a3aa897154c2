import Derived.Test.YtajokjbmpjjoiaaGreatDoorP07
import Derived.Deep.Cut
import Derived.Deep.CutRange
import Derived.Shelf.SlSortCmp.QuietGrown
set_option maxRecDepth 20000
set_option maxHeartbeats 0
set_option linter.unusedSimpArgs false
set_option linter.unusedVariables false
namespace Go.Proofs.YtajokjbmpjjoiaaGreatDoor
section
open Go.RowKit Go.Sort
theorem dn (w:World)(n:Nat)(os:Array Obj):Below w.heap.size w (grow (w.drewN n) os):=
 ⟨rfl,rfl,rfl,by show w.heap.size<=(w.heap++os).size;rw[wI];omega,λ k hk=>by show(w.heap++os)[k]? =w.heap[k]?;exact GA hk⟩
theorem jy (xp xd yp yd:ByteArray)(c:Int)(hc:fw xp yp=c)(w:World):
 Calls Tryz.prog 162 #[.agg #[.string xp,.string xd],.agg #[.string yp,.string yd]] w λ e w'=>e= .returned (.int .i64 c)/\∃q kA,w'=grow (w.drewN q) kA:=by
 have HC:=ae hc;clear hc;go_enter Tryz.func162,Tryz.ntmps162;go_wp2_with fail;refine(Xn xp yp _).mono ?_;rw[HC.out];rintro e w1 ⟨rfl,rfl⟩;go_wp2_with fail;go_ret;exact⟨rfl,0,_,by rw[alloc_eq_grow,alloc_eq_grow,grow_grow];rfl⟩
theorem ay.jA {w:World}{g:Nat}{l:List Fl}(h:ay w g l){i:Nat}{xp xd:ByteArray}(hx:l[i]? =some (xp,xd)):(∀n os,(grow (w.drewN n) os).cell? ⟨g,i*2,none⟩=some (.string xp))/\∀n os,(grow (w.drewN n) os).cell? ⟨g,i*2+1,none⟩=some (.string xd):=by
 obtain⟨h0,h1⟩:=h.cell hx;exact⟨λ n os=>cell_grown h.lt h0 n os,λ n os=>cell_grown h.lt h1 n os⟩
theorem BH (l:List Fl)(i j:Nat):sw l i j=sw l j i:=by
 by_cases h:i=j
 ·subst h;rfl
 ·unfold sw;rw[List.set_comm _ _ h]
theorem dr (A B:List Fl)(x:Fl)(i:Nat)(h:i=A.length):(A++x::B)[i]? =some x:=by
 subst h;rw[lf (ai _),gy];rfl
def gS (w:World)(g:Nat)(P X S:List Fl)(e:Ending)(w':World):Prop:=e= .returned (.tuple #[])/\(∃Z,Z.length=X.length/\aI Z/\aK X Z/\ay w' g (P++(Z++S)))/\w.grownBy w' (some g)
def lS (P X S B:List Fl)(x:Fl)(a i j:Nat)(row:List Fl):Prop:=∃A1 A2:List Fl,A1.length+a=j/\A1.length+A2.length+a=i/\aI (A1++A2)/\(∀y∈A2,aM x y)/\aK X ((A1++A2)++x::B)/\(A1++A2++x::B).length=X.length/\row=P++(A1++x::(A2++(B++S)))
def kE (P X S:List Fl)(a i:Nat)(row:List Fl):Prop:=∃A B:List Fl,A.length+a=i/\aI A/\aK X (A++B)/\(A++B).length=X.length/\row=P++(A++(B++S))
theorem Jg {P X S:List Fl}{a i:Nat}{row:List Fl}(h:kE P X S a i row)(hi:i<a+X.length):∃x B,lS P X S B x a i i row:=by
 obtain⟨A,B,h1,h2,h3,h4,rfl⟩:=h
 cases B with
 |nil=>simp only[bV]at h4;omega
 |cons x B=>exact⟨x,B,A,[],h1,by simpa using h1,by simpa using h2,aj,by simpa using h3,by simpa using h4,aj⟩
theorem Jh {P X S B:List Fl}{x:Fl}{a i j:Nat}{row:List Fl}(h:lS P X S B x a i (j+1) row)(hP:P.length=a)(hj:a<j+1):∃y,row[j+1]? =some x/\row[j]? =some y/\
 (aM x y->lS P X S B x a i j (sw row (j+1) j))/\(¬aM x y->kE P X S a (i+1) row):=by
 obtain⟨A1,A2,h1,h2,h3,h4,h5,h6,rfl⟩:=h;rcases lC A1 with rfl|⟨A0,y,e0⟩
 ·simp at h1;omega
 ·rw[mO]at e0;subst e0;simp only[ag,aU,cL]at h1 h2 h6;refine⟨y,?_,?_,λ ao=>?_,λ ao=>?_⟩
  ·rw[<-aN];exact dr _ _ _ _ (by simp;omega)
  ·rw[show P++(A0++[y]++x::(A2++(B++S)))=(P++A0)++y::(x::(A2++(B++S)))by simp];exact dr _ _ _ _ (by simp;omega)
  ·refine⟨A0,y::A2,aa,by simp;omega,by simpa using h3,?_,by simpa using h5,by simp;omega,?_⟩
   ·intro z hz;rcases eW.1 hz with rfl|hz
    ·exact ao
    ·exact h4 z hz
   ·have e:=tG (P++A0) [] (A2++(B++S)) y x j (j+1) (by simp;omega) (by simp;omega);rw[BH,show P++(A0++[y]++x::(A2++(B++S)))=(P++A0)++y::([]++x::(A2++(B++S)))by simp,e];simp
  ·have hl:=tH h3 (x:=x) (λ z hz=>nN (nO (cJ.1 h3).1 z hz) ao) h4;refine⟨A0++[y]++x::A2,B,by simp;omega,hl.1,?_,by simp;omega,aj⟩;refine h5.trans ?_;rw[show(A0++[y]++A2)++x::B=((A0++[y]++A2)++[x])++B by simp];exact hl.2.app (aK.dW B)
theorem Ji {P X S B:List Fl}{x:Fl}{a i:Nat}{row:List Fl}(h:lS P X S B x a i a row):kE P X S a (i+1) row:=by
 obtain⟨A1,A2,h1,h2,h3,h4,h5,h6,rfl⟩:=h;have:A1=[]:=dP aa;subst this;have hl:=tH (A1:=[]) h3 (x:=x) aj h4;refine⟨[]++x::A2,B,by simp only[List.nil_append,aU,cL]at h2⊢;omega,hl.1,?_,by simp only[ag,aU,List.nil_append]at h6⊢;omega,aj⟩;refine h5.trans ?_;rw[show([]++A2)++x::B=(([]++A2)++[x])++B by simp];exact hl.2.app (aK.dW B)
theorem Jj {P X S B:List Fl}{x:Fl}{a i j:Nat}{row:List Fl}(h:lS P X S B x a i j row):row.length=P.length+X.length+S.length/\j<=i/\i<a+X.length/\a<=j:=by
 obtain⟨A1,A2,h1,h2,_,_,_,h6,rfl⟩:=h;simp only[ag,aU]at h6⊢;omega
theorem Jk {P X S:List Fl}{a i:Nat}{row:List Fl}(h:kE P X S a i row)(hi:a+X.length<=i):∃Z,Z.length=X.length/\aI Z/\aK X Z/\row=P++(Z++S):=by
 obtain⟨A,B,h1,h2,h3,h4,rfl⟩:=h;rw[ag]at h4;have:B=[]:=dP aa;subst this;exact⟨A,by simpa using h4,h2,by simpa using h3,aj⟩
theorem Jl (P X S:List Fl)(hX:X≠[]):kE P X S P.length (P.length+1) (P++(X++S)):=by
 cases X with
 |nil=>exact absurd rfl hX
 |cons x X=>exact⟨[x],X,by simp;omega,Lv x,aK.dW _,aj,aj⟩
theorem Jm (g cap N a b:Nat)(P X S:List Fl)(w:World)(hN:(P++(X++S)).length=N)(hm:N<=1000)(ha:P.length=a)(hb:P.length+X.length=b)(hr:ay w g (P++(X++S))):
 Calls Tryz.prog 292 #[.slice (some ⟨g,0,none⟩) N cap,.int .i64 a,.int .i64 b,.func (.func 162) #[] #[]] w (gS w g P X S):=by
 have qJ:b<=N:=by rw[<-hN,<-hb];simp only[ag];omega
 have vP:P.length+X.length+S.length=N:=by rw[<-hN];simp only[ag];omega
 have mixed:Tryz.prog.follows Departure.mixedOrders=true:=ah;have HP:=ae ha;have HB:=ae hb;have HN:=ae vP;by_cases hX:X=[]
 ·have pH:b=a:=by rw[<-hb,<-ha,hX];simp
  have hq:¬((a:Int)+1<(b:Int)):=aa;have hw:IntKind.i64.wrap ((a:Int)+1)=(a:Int)+1:=by rw[aE];omega
  subst hX;clear ha hb hN vP;go_enter Tryz.func292,Tryz.ntmps292;go_wp2_with fail;go_loopw [8] (λ vi wr=>vi= .int .i64 ((a:Int)+1)/\wr=w) (λ _ _=>0)
  case atStart=>exact⟨rfl,rfl⟩
  case round=>
   obtain⟨rfl,rfl⟩:=hrel;go_wp2_with fail;go_end0;exact⟨rfl,⟨[],rfl,List.Pairwise.nil,aK.dW _,hr⟩,jl _ _⟩
 ·have HO:=ae (show kE P X S a (a+1) (P++(X++S))by rw[<-ha];exact Jl P X S hX)
  have ao:a<b:=by
   have:0<X.length:=oK.2 hX;omega
  have hw:IntKind.i64.wrap ((a:Int)+1)=((a+1:Nat):Int):=by rw[aE];omega
  have HF:=ae hr;have HX:=ae hX;clear ha hb hN vP hX hr;go_enter Tryz.func292,Tryz.ntmps292;go_wp2_with fail;go_loopw [8] (λ vi wr=>∃(i:Nat) (row:List Fl),vi= .int .i64 i/\a<i/\i<=b/\Hid (kE P X S a i row)/\ay wr g row/\w.grownBy wr (some g)) (λ vi _=>b-(intOf vi).toNat)
  case atStart=>exact⟨a+1,_,rfl,aa,aa,HO,HF.out,jl _ _⟩
  case round=>
   obtain⟨i,row,rfl,rp,nR,hO,hF,hg⟩:=hrel;by_cases cP:(i:Int)<(b:Int)
   ·obtain⟨x,B,hI⟩:=Jg hO.out (by have:=HB.out;have:=HP.out;omega);have HI:=ae hI;clear hO hI;go_wp2_with fail;go_loopw [9] (λ vj bU=>∃(j:Nat) (bR:List Fl),vj= .int .i64 j/\a<=j/\j<=i/\Hid (lS P X S B x a i j bR)/\ay bU g bR/\w.grownBy bU (some g)) (λ vj _=>(intOf vj).toNat)
    case atStart=>exact⟨i,row,rfl,aa,aa,HI,hF,hg⟩
    case round=>
     clear HI hF hg;obtain⟨j,bR,rfl,abX,kP,hI,hF,hg⟩:=hrel;by_cases abY:(a:Int)<(j:Int)
     ·obtain⟨jp,rfl⟩:∃jp,j=jp+1:=⟨j-1,aa⟩;obtain⟨y,hx,hy,cF,bu⟩:=Jh hI.out HP.out aa;obtain⟨xp,xd⟩:=x;obtain⟨yp,yd⟩:=y;have ei:=Jj hI.out;obtain⟨c,hc⟩:∃c,fw xp yp=c:=⟨_,rfl⟩;have DN:IntKind.i64.wrap (jp:Int)=(jp:Int):=by rw[aE];omega
      have jz:(jp:Int)+1<(N:Int):=by have:=HN.out;have:=HB.out;omega
      have abZ:(jp:Int)<(N:Int):=aa;have ab0:(a:Int)<(jp:Int)+1:=aa;have p0:(0:Int)<=(jp:Int)+1:=aa;have e0:((jp:Int)+1).toNat=jp+1:=aa;obtain⟨x0,x1⟩:=hF.jA hx;obtain⟨y0,y1⟩:=hF.jA hy;have HC:=ae hc;have gm:=ae hx;have BI:=ae hy;by_cases aV:c<0
      ·have fp:=ae (cF (by rw[<-mi];rw[hc];exact aV));clear hI cF bu ei hc hx hy;go_wp2_with fail;go_quiet_grown (first|(go_at_call 162;refine Calls.grown_of (jy xp xd yp yd c HC.out _)));go_wp2_with fail;have bZ:=hF.aL (dn wr nq osq);have cz:=aQ hg (jm (dn wr nq osq) g);clear hF hg x0 x1 y0 y1;generalize grow (wr.drewN nq) osq=w3 at*;obtain⟨x0,x1⟩:=bZ.cell gm.out;obtain⟨y0,y1⟩:=bZ.cell BI.out;have uQ:=bZ.free ((jp+1)*2);have C8:=bZ.free ((jp+1)*2+1);have uR:=bZ.free (jp*2);have C9:=bZ.free (jp*2+1);have oc:=ae (bZ.swp (jp+1) jp gm.out BI.out);have od:=ae (aQ cz (yL w3 g ((jp+1)*2) ((jp+1)*2+1) (jp*2) (jp*2+1) (.string yp) (.string yd) (.string xp) (.string xd)));have aS:(jp+1)*2≠jp*2:=aa;have C':(jp+1)*2+1≠jp*2:=aa;have uS:(jp+1)*2≠jp*2+1:=aa;clear bZ cz;go_big_region_o;all_goals go_wp2_with fail
       go_round
       case rel=>exact⟨jp,_,by first|rfl|go_num,aa,aa,fp,oc.out,aQ od.out (oL _ _)⟩
       case measure=>simp[intOf]
      ·have cm:=ae (bu (by rw[<-mi];rw[hc];exact aV));clear hI cF bu ei hc hx hy;go_wp2_with fail;go_quiet_grown (first|(go_at_call 162;refine Calls.grown_of (jy xp xd yp yd c HC.out _)));go_wp2_with fail;go_round
       case rel=>exact⟨i+1,bR,by first|rfl|go_num,aa,aa,cm,hF.aL (dn wr nq osq),aQ hg (jm (dn wr nq osq) g)⟩
       case measure=>simp[intOf];omega
     ·obtain rfl:j=a:=aa;have HE:=ae (Ji hI.out);clear hI;go_wp2_with fail;go_big_region_o;all_goals go_wp2_with fail
      go_round
      case rel=>exact⟨i+1,bR,by first|rfl|go_num,aa,aa,HE,hF,aQ hg (oL _ _)⟩
      case measure=>simp[intOf];omega
   ·have hE:=Jk hO.out (by have:=HB.out;have:=HP.out;omega);obtain⟨Z,z1,z2,z3,rfl⟩:=hE;have HZ:=ae (af z1 (af z2 z3));clear z1 z2 z3 hO;go_wp2_with fail;go_end0;exact⟨rfl,⟨Z,HZ.out.1,HZ.out.2.1,HZ.out.2.2,hF⟩,hg⟩
def oe (row:List Fl)(x:Fl)(m b i j:Nat):Prop:=m<=i/\i<=j/\j<=b/\(i=m∨∃y,row[i-1]? =some y/\aM y x)/\(j=b∨∃y,row[j]? =some y/\¬aM y x)
theorem pG (X:List Fl)(i:Nat)(h:i<=X.length):∃X1 X2,X=X1++X2/\X1.length=i:=⟨X.take i,X.drop i,(gI i X).symm,by rw[ba];omega⟩
theorem Jn {P Y S:List Fl}{x:Fl}{m i:Nat}(hm:m=P.length)(hY:aI Y)(h:oe (P++(Y++S)) x m (m+Y.length) i i):∃Y1 Y2,Y=Y1++Y2/\Y1.length+m=i/\(∀y∈Y1,aM y x)/\∀y∈Y2,¬aM y x:=by
 obtain⟨h1,_,h3,h4,h5⟩:=h;obtain⟨Y1,Y2,rfl,hl⟩:=pG Y (i-m) aa;refine⟨Y1,Y2,rfl,aa,?_,?_⟩
 ·rcases lC Y1 with rfl|⟨A,z,e⟩
  ·simp
  ·rw[mO]at e;subst e;simp only[ag,aU,cL]at hl;rcases h4 with h4|⟨y,hy,ao⟩
   ·omega
   ·have:(P++(A++[z]++Y2++S))[i-1]? =some z:=by
     rw[show P++(A++[z]++Y2++S)=(P++A)++z::(Y2++S)by simp];exact dr _ _ _ _ (by simp;omega)
    rw[this]at hy
    cases hy
    exact λ a ha=>C3 (nO (cJ.1 hY).1 a ha) ao
 ·cases Y2 with
  |nil=>simp
  |cons z B=>
   rcases h5 with h5|⟨y,hy,ao⟩
   ·simp only[ag,aU]at h5;omega
   ·have:(P++(Y1++z::B++S))[i]? =some z:=by
     rw[show P++(Y1++z::B++S)=(P++Y1)++z::(B++S)by simp];exact dr _ _ _ _ (by simp;omega)
    rw[this]at hy
    cases hy
    exact λ a ha=>nN (x:=x) (y:=z) (z:=a) ao (qx (cJ.1 hY).2.1 a ha)
def og (P Y1 R:List Fl)(x:Fl)(a k:Nat)(row:List Fl):Prop:=∃A B,Y1=A++B/\A.length+a=k/\row=P++(A++x::(B++R))
theorem Jo {P Y1 R:List Fl}{x:Fl}{a k:Nat}{row:List Fl}(h:og P Y1 R x a k row)(hP:P.length=a)(hk:k<a+Y1.length):∃y,row[k]? =some x/\row[k+1]? =some y/\og P Y1 R x a (k+1) (sw row k (k+1)):=by
 obtain⟨A,B,rfl,h2,rfl⟩:=h
 cases B with
 |nil=>simp only[bV]at hk;omega
 |cons y B=>
  refine⟨y,?_,?_,A++[y],B,aj,by simp;omega,?_⟩
  ·rw[<-aN];exact dr _ _ _ _ (by simp;omega)
  ·rw[show P++(A++x::(y::B++R))=(P++(A++[x]))++y::(B++R)by simp];exact dr _ _ _ _ (by simp;omega)
  ·have e:=tG (P++A) [] (B++R) x y k (k+1) (by simp;omega) (by simp;omega);rw[show P++(A++x::(y::B++R))=(P++A)++x::([]++y::(B++R))by simp,e];simp
theorem Jp {P Y1 R:List Fl}{x:Fl}{a k:Nat}{row:List Fl}(h:og P Y1 R x a k row)(hk:a+Y1.length<=k):row=P++(Y1++x::R):=by
 obtain⟨A,B,rfl,h2,rfl⟩:=h;rw[ag]at hk;have:B=[]:=dP aa;subst this;simp
theorem Jq (g cap N a m b:Nat)(P Y S:List Fl)(x:Fl)(w:World)(hN:(P++([x]++(Y++S))).length=N)(cd:N<=1000)(ha:P.length=a)(hm:m=a+1)(hb:m+Y.length=b)(hY:aI Y)(hr:ay w g (P++([x]++(Y++S)))):
 Calls Tryz.prog 293 #[.slice (some ⟨g,0,none⟩) N cap,.int .i64 a,.int .i64 m,.int .i64 b,.func (.func 162) #[] #[]] w (gS w g P ([x]++Y) S):=by
 have mixed:Tryz.prog.follows Departure.mixedOrders=true:=ah;have qJ:b<=N:=by rw[<-hN];simp only[ag,aU,cL];omega
 have iF:(P++([x]++(Y++S)))[a]? =some x:=dr _ _ _ _ ha.symm;have HS:=ae (show oe (P++([x]++(Y++S))) x m b m b from⟨ai _,aa,ai _,.inl rfl,.inl rfl⟩);obtain⟨row,bK⟩:∃row,P++([x]++(Y++S))=row:=⟨_,rfl⟩;rw[bK]at hr iF HS hN;have iy:=ae bK;have HN:=ae hN;have HA:=ae ha;have HB:=ae hb;have HY:=ae hY;have pO:=ae iF;have w1:IntKind.i64.wrap ((m:Int)-(a:Int))=1:=by rw[aE];omega
 have am:a<m:=aa;have HM:=ae hm;clear bK hN ha hb hY iF hm;go_enter Tryz.func293,Tryz.ntmps293;go_wp2_with fail;go_loopw [10,11] (λ vi vj wr=>∃(i j:Nat),vi= .int .i64 i/\vj= .int .i64 j/\i<=j/\j<=b/\m<=i/\Hid (oe row x m b i j)/\ay wr g row/\w.grownBy wr (some g)) (λ vi vj _=>(intOf vj).toNat-(intOf vi).toNat)
 case atStart=>exact⟨m,b,rfl,rfl,HS.out.2.1,ai _,ai _,HS,hr,jl _ _⟩
 case round=>
  clear HS hr;obtain⟨i,j,rfl,rfl,gB,C_,mW,hS,hF,hg⟩:=hrel;by_cases ao:(i:Int)<(j:Int)
  ·obtain⟨h,hh⟩:∃h,(i+j)/2=h:=⟨_,rfl⟩;have oh:((i:Int)+(j:Int))/2=(h:Int):=aa;have BJ:i<=h/\h<j:=aa;have fC:h<row.length:=by rw[HN.out];omega
   obtain⟨y,hy⟩:∃y,row[h]? =some y:=⟨_,getD_some fC⟩;obtain⟨c,hc⟩:∃c,fw y.1 x.1=c:=⟨_,rfl⟩;have aV:=mi y x;rw[hc]at aV;have jP:Hid (c<0->oe row x m b (h+1) j):=ae λ hl=>⟨by have:=hS.out.1;omega,aa,hS.out.2.2.1,.inr ⟨y,by rw[qh];exact hy,aV.1 hl⟩,hS.out.2.2.2.2⟩;have iM:Hid (¬c<0->oe row x m b i h):=ae λ hl=>⟨hS.out.1,aa,by have:=hS.out.2.2.1;omega,hS.out.2.2.2.1,.inr ⟨y,hy,λ e=>hl (aV.2 e)⟩⟩;have hz:(h:Int)<(N:Int):=by rw[HN.out]at fC;omega
   have az:(a:Int)<(N:Int):=aa;obtain⟨xp,xd⟩:=x;obtain⟨yp,yd⟩:=y;obtain⟨x0,x1⟩:=hF.jA pO.out;obtain⟨y0,y1⟩:=hF.jA hy;have HC:=ae hc;clear hc aV hy hS fC hh;by_cases hl:c<0
   ·go_wp2_with fail;go_quiet_grown (first|(go_at_call 162;refine Calls.grown_of (jy yp yd xp xd c HC.out _)));go_wp2_with fail;go_round
    case rel=>exact⟨h+1,j,by first|rfl|go_num,rfl,aa,C_,aa,ae (jP.out hl),hF.aL (dn wr nq osq),aQ hg (jm (dn wr nq osq) g)⟩
    case measure=>simp[intOf];omega
   ·go_wp2_with fail;go_quiet_grown (first|(go_at_call 162;refine Calls.grown_of (jy yp yd xp xd c HC.out _)));go_wp2_with fail;go_round
    case rel=>exact⟨i,h,rfl,by first|rfl|go_num,aa,aa,mW,ae (iM.out hl),hF.aL (dn wr nq osq),aQ hg (jm (dn wr nq osq) g)⟩
    case measure=>simp[intOf];omega
  ·obtain rfl:i=j:=aa
   obtain⟨Y1,Y2,rfl,vO,mY,xE⟩:=Jn (P:=P++[x]) (Y:=Y) (S:=S) (x:=x) (m:=m) (i:=i) (by rw[ag,HA.out];have:=HM.out;simp;omega) HY.out (by
    have h:=hS.out
    rw[show(P++[x])++(Y++S)=row by rw[<-iy.out];simp,HB.out]
    exact h)
   have om:=Lx (A1:=Y1) (A2:=Y2) (x:=x) HY.out mY xE;have ou:=ae om;obtain⟨ip,rfl⟩:∃ip,i=ip+1:=⟨i-1,aa⟩;have BK:a+Y1.length=ip:=by have:=HM.out;omega
   have BM:=ae BK;have EP:ip+1<=N:=aa;have jN:=ae (show og P Y1 (Y2++S) x a a row from⟨[],Y1,rfl,aj,by rw[<-iy.out];simp⟩);have rp:a<=ip:=aa;have ab1:IntKind.i64.wrap (ip:Int)=(ip:Int):=by rw[aE];omega
   clear om BK vO mY xE hS;go_wp2_with fail;go_loopw [13] (λ vk bU=>∃(k:Nat) (bR:List Fl),vk= .int .i64 k/\a<=k/\k<=ip/\Hid (og P Y1 (Y2++S) x a k bR)/\Hid (bR.length=N)/\ay bU g bR/\w.grownBy bU (some g)) (λ vk _=>ip-(intOf vk).toNat)
   case atStart=>exact⟨a,row,rfl,ai _,rp,jN,HN,hF,hg⟩
   case round=>
    clear jN hF hg;obtain⟨k,bR,rfl,ab2,Ax,kF,iz,hF,hg⟩:=hrel;by_cases fO:(k:Int)<(ip:Int)
    ·obtain⟨y,hx,hy,iL⟩:=Jo kF.out HA.out (by rw[BM.out];omega);have oc:=ae (hF.swp k (k+1) hx hy);obtain⟨xp,xd⟩:=x;obtain⟨yp,yd⟩:=y;obtain⟨x0,x1⟩:=hF.cell hx;obtain⟨y0,y1⟩:=hF.cell hy;have uQ:=hF.free (k*2);have C8:=hF.free (k*2+1);have uR:=hF.free ((k+1)*2);have C9:=hF.free ((k+1)*2+1);have od:=ae (aQ hg (yL wr g (k*2) (k*2+1) ((k+1)*2) ((k+1)*2+1) (.string yp) (.string yd) (.string xp) (.string xd)));have vQ:=ae iL;have vR:=ae (show(sw bR k (k+1)).length=N by rw[yD];exact iz.out);have aS:k*2≠(k+1)*2:=aa;have C':k*2+1≠(k+1)*2:=aa;have uS:k*2≠(k+1)*2+1:=aa;have kz:(k:Int)<(N:Int):=aa;have Jr:(k:Int)+1<(N:Int):=aa;have p0:(0:Int)<=(k:Int)+1:=aa;have e0:((k:Int)+1).toNat=k+1:=aa;clear hF hg iL hx hy kF iz;go_wp2_with fail;go_big_region_o;all_goals go_wp2_with fail
     go_round
     case rel=>exact⟨k+1,_,by first|rfl|go_num,aa,aa,vQ,vR,oc.out,aQ od.out (oL _ _)⟩
     case measure=>simp[intOf];omega
    ·have hE:=Jp kF.out (by rw[BM.out];omega);subst hE;go_wp2_with fail;go_end0;refine⟨rfl,⟨Y1++x::Y2,by simp;omega,ou.out.1,ou.out.2,?_⟩,hg⟩;rw[show P++(Y1++x::Y2++S)=P++(Y1++x::(Y2++S))by simp];exact hF
def ov (row:List Fl)(y:Fl)(a m i j:Nat):Prop:=a<=i/\i<=j/\j<=m/\(i=a∨∃x,row[i-1]? =some x/\¬aM y x)/\(j=m∨∃x,row[j]? =some x/\aM y x)
theorem Js {P X S:List Fl}{y:Fl}{a i:Nat}(ha:a=P.length)(hX:aI X)(h:ov (P++(X++S)) y a (a+X.length) i i):∃X1 X2,X=X1++X2/\X1.length+a=i/\(∀x∈X1,¬aM y x)/\∀x∈X2,aM y x:=by
 obtain⟨h1,_,h3,h4,h5⟩:=h;obtain⟨X1,X2,rfl,hl⟩:=pG X (i-a) aa;refine⟨X1,X2,rfl,aa,?_,?_⟩
 ·rcases lC X1 with rfl|⟨A,z,e⟩
  ·simp
  ·rw[mO]at e;subst e;simp only[ag,aU,cL]at hl;rcases h4 with h4|⟨x,hx,ao⟩
   ·omega
   ·have:(P++(A++[z]++X2++S))[i-1]? =some z:=by
     rw[show P++(A++[z]++X2++S)=(P++A)++z::(X2++S)by simp];exact dr _ _ _ _ (by simp;omega)
    rw[this]at hx
    cases hx
    exact λ b hb=>nN (nO (cJ.1 hX).1 b hb) ao
 ·cases X2 with
  |nil=>simp
  |cons z B=>
   rcases h5 with h5|⟨x,hx,ao⟩
   ·simp only[ag,aU]at h5;omega
   ·have:(P++(X1++z::B++S))[i]? =some z:=by
     rw[show P++(X1++z::B++S)=(P++X1)++z::(B++S)by simp];exact dr _ _ _ _ (by simp;omega)
    rw[this]at hx
    cases hx
    exact λ b hb=>Am ao (qx (cJ.1 hX).2.1 b hb)
def ow (Q X2 S:List Fl)(y:Fl)(i k:Nat)(row:List Fl):Prop:=∃A B,X2=A++B/\A.length+i=k/\row=Q++(A++y::(B++S))
theorem Jt {Q X2 S:List Fl}{y:Fl}{i k:Nat}{row:List Fl}(h:ow Q X2 S y i (k+1) row)(hQ:Q.length=i)(hk:i<k+1):∃x,row[k+1]? =some y/\row[k]? =some x/\ow Q X2 S y i k (sw row (k+1) k):=by
 obtain⟨A,B,rfl,h2,rfl⟩:=h;rcases lC A with rfl|⟨A0,z,e⟩
 ·simp only[cL]at h2;omega
 ·rw[mO]at e;subst e;simp only[ag,aU,cL]at h2;refine⟨z,?_,?_,A0,z::B,aj,aa,?_⟩
  ·rw[<-aN];exact dr _ _ _ _ (by simp;omega)
  ·rw[show Q++(A0++[z]++y::(B++S))=(Q++A0)++z::(y::(B++S))by simp];exact dr _ _ _ _ (by simp;omega)
  ·have e:=tG (Q++A0) [] (B++S) z y k (k+1) (by simp;omega) (by simp;omega);rw[BH,show Q++(A0++[z]++y::(B++S))=(Q++A0)++z::([]++y::(B++S))by simp,e];simp
theorem Ju {Q X2 S:List Fl}{y:Fl}{i:Nat}{row:List Fl}(h:ow Q X2 S y i i row):row=Q++(y::(X2++S)):=by
 obtain⟨A,B,rfl,h2,rfl⟩:=h;have:A=[]:=dP aa;subst this;simp
theorem Jv (g cap N a m b:Nat)(P X S:List Fl)(y:Fl)(w:World)(hN:(P++(X++([y]++S))).length=N)(cd:N<=1000)(ha:P.length=a)(hm:a+X.length=m)(jL:a+2<=m)(hb:b=m+1)(hX:aI X)(hr:ay w g (P++(X++([y]++S)))):
 Calls Tryz.prog 293 #[.slice (some ⟨g,0,none⟩) N cap,.int .i64 a,.int .i64 m,.int .i64 b,.func (.func 162) #[] #[]] w (gS w g P (X++[y]) S):=by
 have mixed:Tryz.prog.follows Departure.mixedOrders=true:=ah;have qJ:b<=N:=by rw[<-hN];simp only[ag,aU,cL];omega
 have rk:(P++(X++([y]++S)))[m]? =some y:=by rw[<-aN];exact dr _ _ _ _ (by rw[ag];omega)
 have HS:=ae (show ov (P++(X++([y]++S))) y a m a m from⟨ai _,aa,ai _,.inl rfl,.inl rfl⟩);obtain⟨row,bK⟩:∃row,P++(X++([y]++S))=row:=⟨_,rfl⟩;rw[bK]at hr rk HS hN;have iy:=ae bK;have HN:=ae hN;have HA:=ae ha;have HM:=ae hm;have BN:=ae hX;have Gd:=ae rk;have w1:IntKind.i64.wrap ((m:Int)-(a:Int))=(m:Int)-(a:Int):=by rw[aE];omega
 have w2:IntKind.i64.wrap ((b:Int)-(m:Int))=1:=by rw[aE];omega
 have w3:((m:Int)-(a:Int)==1)=false:=by rw[jE];omega
 have mb:m<b:=aa;have am:a<=m:=aa;clear bK hN ha hm hX rk hb jL;go_enter Tryz.func293,Tryz.ntmps293;go_wp2_with fail;go_loopw [14,15] (λ vi vj wr=>∃(i j:Nat),vi= .int .i64 i/\vj= .int .i64 j/\i<=j/\j<=m/\a<=i/\Hid (ov row y a m i j)/\ay wr g row/\w.grownBy wr (some g)) (λ vi vj _=>(intOf vj).toNat-(intOf vi).toNat)
 case atStart=>exact⟨a,m,rfl,rfl,am,ai _,ai _,HS,hr,jl _ _⟩
 case round=>
  clear HS hr;obtain⟨i,j,rfl,rfl,gB,mX,rp,hS,hF,hg⟩:=hrel;by_cases ao:(i:Int)<(j:Int)
  ·obtain⟨h,hh⟩:∃h,(i+j)/2=h:=⟨_,rfl⟩;have oh:((i:Int)+(j:Int))/2=(h:Int):=aa;have BJ:i<=h/\h<j:=aa;have fC:h<row.length:=by rw[HN.out];omega
   obtain⟨x,hx⟩:∃x,row[h]? =some x:=⟨_,getD_some fC⟩;obtain⟨c,hc⟩:∃c,fw y.1 x.1=c:=⟨_,rfl⟩;have aV:=mi y x;rw[hc]at aV;have jP:Hid (¬c<0->ov row y a m (h+1) j):=ae λ hl=>⟨by have:=hS.out.1;omega,aa,hS.out.2.2.1,.inr ⟨x,by rw[qh];exact hx,λ e=>hl (aV.2 e)⟩,hS.out.2.2.2.2⟩;have iM:Hid (c<0->ov row y a m i h):=ae λ hl=>⟨hS.out.1,aa,by have:=hS.out.2.2.1;omega,hS.out.2.2.2.1,.inr ⟨x,hx,aV.1 hl⟩⟩;have hz:(h:Int)<(N:Int):=by rw[HN.out]at fC;omega
   have mz:(m:Int)<(N:Int):=aa;obtain⟨xp,xd⟩:=x;obtain⟨yp,yd⟩:=y;obtain⟨x0,x1⟩:=hF.jA hx;obtain⟨y0,y1⟩:=hF.jA Gd.out;have HC:=ae hc;clear hc aV hx hS fC hh;by_cases hl:c<0
   ·have hd:decide (c<0)=true:=fF hl;go_wp2_with fail;go_quiet_grown (first|(go_at_call 162;refine Calls.grown_of (jy yp yd xp xd c HC.out _)));go_wp2_with fail;go_round
    case rel=>exact⟨i,h,rfl,by first|rfl|go_num,aa,aa,rp,ae (iM.out hl),hF.aL (dn wr nq osq),aQ hg (jm (dn wr nq osq) g)⟩
    case measure=>simp[intOf];omega
   ·have hd:decide (c<0)=false:=ct hl;go_wp2_with fail;go_quiet_grown (first|(go_at_call 162;refine Calls.grown_of (jy yp yd xp xd c HC.out _)));go_wp2_with fail;go_round
    case rel=>exact⟨h+1,j,by first|rfl|go_num,rfl,aa,mX,aa,ae (jP.out hl),hF.aL (dn wr nq osq),aQ hg (jm (dn wr nq osq) g)⟩
    case measure=>simp[intOf];omega
  ·obtain rfl:i=j:=aa
   obtain⟨X1,X2,rfl,mG,ff,nW⟩:=Js (P:=P) (X:=X) (S:=[y]++S) (y:=y) (a:=a) (i:=i) HA.out.symm BN.out (by
    have h:=hS.out
    rw[iy.out,HM.out]
    exact h)
   have om:=tH (A1:=X1) (A2:=X2) (x:=y) BN.out ff nW;have ou:=ae om;have mW:i+X2.length=m:=by rw[<-HM.out,ag];omega
   have ab3:=ae mW;have HQ:=ae (show(P++X1).length=i by rw[ag,HA.out];omega);have jN:=ae (show ow (P++X1) X2 S y i m row from⟨X2,[],aj,aa,by rw[<-iy.out];simp⟩);have zd:i<=m:=mX;clear om mW mG ff nW hS;go_wp2_with fail;go_loopw [17] (λ vk bU=>∃(k:Nat) (bR:List Fl),vk= .int .i64 k/\i<=k/\k<=m/\Hid (ow (P++X1) X2 S y i k bR)/\Hid (bR.length=N)/\ay bU g bR/\w.grownBy bU (some g)) (λ vk _=>(intOf vk).toNat)
   case atStart=>exact⟨m,row,rfl,zd,ai _,jN,HN,hF,hg⟩
   case round=>
    clear jN hF hg;obtain⟨k,bR,rfl,oT,ab4,kF,iz,hF,hg⟩:=hrel;by_cases fO:(i:Int)<(k:Int)
    ·obtain⟨kp,rfl⟩:∃kp,k=kp+1:=⟨k-1,aa⟩;obtain⟨x,hy,hx,iL⟩:=Jt kF.out HQ.out aa;have oc:=ae (hF.swp (kp+1) kp hy hx);obtain⟨xp,xd⟩:=x;obtain⟨yp,yd⟩:=y;obtain⟨x0,x1⟩:=hF.cell hx;obtain⟨y0,y1⟩:=hF.cell hy;have uQ:=hF.free (kp*2);have C8:=hF.free (kp*2+1);have uR:=hF.free ((kp+1)*2);have C9:=hF.free ((kp+1)*2+1);have od:=ae (aQ hg (yL wr g ((kp+1)*2) ((kp+1)*2+1) (kp*2) (kp*2+1) (.string xp) (.string xd) (.string yp) (.string yd)));have vQ:=ae iL;have vR:=ae (show(sw bR (kp+1) kp).length=N by rw[yD];exact iz.out);have aS:(kp+1)*2≠kp*2:=aa;have C':(kp+1)*2+1≠kp*2:=aa;have uS:(kp+1)*2≠kp*2+1:=aa;have DN:IntKind.i64.wrap (kp:Int)=(kp:Int):=by rw[aE];omega
     have Jr:(kp:Int)<(N:Int):=aa;have kz:(kp:Int)+1<(N:Int):=aa;have p0:(0:Int)<=(kp:Int)+1:=aa;have e0:((kp:Int)+1).toNat=kp+1:=aa;clear hF hg iL hx hy kF iz;go_wp2_with fail;go_big_region_o;all_goals go_wp2_with fail
     go_round
     case rel=>exact⟨kp,_,by first|rfl|go_num,aa,aa,vQ,vR,oc.out,aQ od.out (oL _ _)⟩
     case measure=>simp[intOf]
    ·obtain rfl:k=i:=aa;have hE:=Ju kF.out;subst hE;go_wp2_with fail;go_end0;refine⟨rfl,⟨X1++y::X2,by simp only[ag,aU,cL],ou.out.1,by have h:=ou.out.2;rw[aN]at h;exact h,?_⟩,hg⟩;rw[show P++(X1++y::X2++S)=P++X1++(y::(X2++S))by simp];exact hF
def ox (row:List Fl)(nn lo hi i j:Nat):Prop:=(i=lo∨∃x y,row[i-1]? =some x/\row[nn-i]? =some y/\¬aM y x)/\(j=hi∨∃x y,row[j]? =some x/\row[nn-1-j]? =some y/\aM y x)
def BO (a m b aW nn lo hi:Nat):Prop:=aW=(a+b)/2/\nn=aW+m/\((aW<m/\lo+b=nn/\hi=aW)∨(m<=aW/\lo=a/\hi=m))
theorem Jw {P X Y S:List Fl}{a m b aW nn lo hi s:Nat}(ha:P.length=a)(hm:a+X.length=m)(hb:m+Y.length=b)(hB:BO a m b aW nn lo hi)(h1:lo<=s)(h2:s<=hi)(hX:aI X)(hY:aI Y)(h:ox (P++(X++(Y++S))) nn lo hi s s):
 ∃X1 X2 Y1 Y2,X=X1++X2/\Y=Y1++Y2/\X1.length+a=s/\Y1.length+m+s=nn/\(∀x∈X1,∀y∈Y2,¬aM y x)/\∀y∈Y1,∀x∈X2,aM y x:=by
 obtain⟨e1,e2,e3⟩:=hB;obtain⟨X1,X2,rfl,l1⟩:=pG X (s-a) aa;obtain⟨Y1,Y2,rfl,l2⟩:=pG Y (nn-s-m) aa;rw[ag]at hm hb;have k1:X1.length+a=s:=aa;have k2:Y1.length+m+s=nn:=aa
 have Jy:∀A z,X1=A++[z]->(P++(X1++X2++(Y1++Y2++S)))[s-1]? =some z:=λ A z e=>by
  subst e;simp only[ag,aU,cL]at k1;rw[show P++(A++[z]++X2++(Y1++Y2++S))=(P++A)++z::(X2++(Y1++Y2++S))by simp];exact dr _ _ _ _ (by simp;omega)
 have Jz:∀z B,X2=z::B->(P++(X1++X2++(Y1++Y2++S)))[s]? =some z:=λ z B e=>by
  subst e;rw[show P++(X1++z::B++(Y1++Y2++S))=(P++X1)++z::(B++(Y1++Y2++S))by simp];exact dr _ _ _ _ (by simp;omega)
 have JA:∀A z,Y1=A++[z]->(P++(X1++X2++(Y1++Y2++S)))[nn-1-s]? =some z:=λ A z e=>by
  subst e;simp only[ag,aU,cL]at k2;rw[show P++(X1++X2++(A++[z]++Y2++S))=(P++X1++X2++A)++z::(Y2++S)by simp];exact dr _ _ _ _ (by simp;omega)
 have JB:∀z B,Y2=z::B->(P++(X1++X2++(Y1++Y2++S)))[nn-s]? =some z:=λ z B e=>by
  subst e;rw[show P++(X1++X2++(Y1++z::B++S))=(P++X1++X2++Y1)++z::(B++S)by simp];exact dr _ _ _ _ (by simp;omega)
 refine⟨X1,X2,Y1,Y2,rfl,rfl,k1,k2,?_,?_⟩
 ·rcases lC X1 with e|⟨A,z,e⟩
  ·subst e;simp
  ·rw[mO]at e
   cases oy:Y2 with
   |nil=>simp
   |cons u B=>
    rcases h.1 with h4|⟨x,y,hx,hy,ao⟩
    ·exfalso;have:0<X1.length:=by rw[e];simp
     have:0<Y2.length:=by rw[oy];simp
     omega
    ·rw[Jy A z e]at hx;rw[JB u B oy]at hy
     cases hx
     cases hy
     have dH:=nO (X:=A) (x:=z) (by rw[<-e];exact(cJ.1 hX).1);have eI:=qx (X:=B) (x:=u) (by rw[<-oy];exact(cJ.1 hY).2.1);intro x hx y hy;rw[e]at hx;exact nN (dH x hx) (nN ao (eI y hy))
 ·rcases lC Y1 with e|⟨A,z,e⟩
  ·subst e;simp
  ·rw[mO]at e
   cases jL:X2 with
   |nil=>simp
   |cons u B=>
    rcases h.2 with h4|⟨x,y,hx,hy,ao⟩
    ·exfalso;have:0<Y1.length:=by rw[e];simp
     have:0<X2.length:=by rw[jL];simp
     omega
    ·rw[Jz u B jL]at hx;rw[JA A z e]at hy
     cases hx
     cases hy
     have dH:=nO (X:=A) (x:=z) (by rw[<-e];exact(cJ.1 hY).1);have eI:=qx (X:=B) (x:=u) (by rw[<-jL];exact(cJ.1 hX).2.1);intro y hy x hx;rw[e]at hy;exact Am (C3 (dH y hy) ao) (eI x hx)
def vS (w:World)(g:Nat)(row:List Fl)(wx:World):Prop:=ay wx g row/\w.grownBy wx (some g)
def oz (w:World)(g:Nat)(P X Y R:List Fl)(wx:World):Prop:=∃Z,Z.length=(X++Y).length/\aI Z/\aK (X++Y) Z/\ay wx g (P++(Z++R))/\w.grownBy wx (some g)
theorem BP {w:World}{g:Nat}{P X Y R:List Fl}{wx:World}(h:X=[]∨Y=[])(hX:aI X)(hY:aI Y)(hF:ay wx g (P++(X++(Y++R))))(hg:w.grownBy wx (some g)):oz w g P X Y R wx:=by
 refine⟨X++Y,rfl,?_,aK.dW _,by rw[aN X];exact hF,hg⟩;rcases h with rfl|rfl
 ·simpa using hY
 ·simpa using hX
theorem vT {l:List Fl}{n:Nat}(h:l.length+n=n):l=[]:=dP aa
def rq (n:Nat):Prop:=∀(g cap N:Nat) (a m b:Int) (a' m' b':Nat) (P X Y S row:List Fl) (w:World),a=a'->m=m'->b=b'->row=P++(X++(Y++S))->row.length=N->N<=1000->P.length=a'->a'+X.length=m'->m'+Y.length=b'->0<X.length->0<Y.length->X.length+Y.length<=n->aI X->aI Y->ay w g row->
 Calls Tryz.prog 293 #[.slice (some ⟨g,0,none⟩) N cap,.int .i64 a,.int .i64 m,.int .i64 b,.func (.func 162) #[] #[]] w (gS w g P (X++Y) S)
theorem rq.use {n:Nat}(h:rq n):∀(g cap N:Nat) (a m b:Int) (a' m' b':Nat) (P X Y S row:List Fl) (w:World),a=a'->m=m'->b=b'->row=P++(X++(Y++S))->row.length=N->N<=1000->P.length=a'->a'+X.length=m'->m'+Y.length=b'->0<X.length->0<Y.length->X.length+Y.length<=n->aI X->aI Y->ay w g row->
 Calls Tryz.prog 293 #[.slice (some ⟨g,0,none⟩) N cap,.int .i64 a,.int .i64 m,.int .i64 b,.func (.func 162) #[] #[]] w (gS w g P (X++Y) S):=h
theorem JC (g cap N:Nat)(a m b:Int)(a' m' b':Nat)(P U V S row:List Fl)(fv:Value)(w:World)(ea:a=a')(em:m=m')(eb:b=b')(er:row=P++(U++(V++S)))(hN:row.length=N)(cd:N<=1000)(ha:P.length=a')(hm:a'+U.length=m')(hb:m'+V.length=b')(hU:0<U.length)(hV:0<V.length)(hr:ay w g row):
 Calls Tryz.prog 343 #[.slice (some ⟨g,0,none⟩) N cap,.int .i64 a,.int .i64 m,.int .i64 b,fv] w (qI w g (P++(V++(U++S)))):=by
 subst ea;subst em;subst eb;subst er;exact Hy g cap N a' m' b' _ _ fv w hN cd ⟨P,U,V,S,rfl,aa,aa,aa,rfl⟩ aa aa hr
theorem JD (n0:Nat)(IH:rq n0)(g cap N a m b:Nat)(P X Y S:List Fl)(w:World)(hN:(P++(X++(Y++S))).length=N)(cd:N<=1000)(ha:P.length=a)(hm:a+X.length=m)(hb:m+Y.length=b)(jL:a+2<=m)(oy:m+2<=b)(hn:X.length+Y.length<=n0+1)(hX:aI X)(hY:aI Y)(hr:ay w g (P++(X++(Y++S)))):
 Calls Tryz.prog 293 #[.slice (some ⟨g,0,none⟩) N cap,.int .i64 a,.int .i64 m,.int .i64 b,.func (.func 162) #[] #[]] w (gS w g P (X++Y) S):=by
 have mixed:Tryz.prog.follows Departure.mixedOrders=true:=ah;have qJ:b<=N:=by rw[<-hN];simp only[ag];omega
 obtain⟨row,bK⟩:∃row,P++(X++(Y++S))=row:=⟨_,rfl⟩;rw[bK]at hr hN;obtain⟨XY,vU⟩:∃XY,X++Y=XY:=⟨_,rfl⟩;rw[vU];have AV:=ae vU;have iy:=ae bK;have HN:=ae hN;have HA:=ae ha;have HM:=ae hm;have HB:=ae hb;have ru:=ae hX;have jO:=ae hY;have y_:=ae hn;have BQ:=ae IH;have w1:IntKind.i64.wrap ((m:Int)-(a:Int))=(m:Int)-(a:Int):=by rw[aE];omega
 have w2:IntKind.i64.wrap ((b:Int)-(m:Int))=(b:Int)-(m:Int):=by rw[aE];omega
 have w3:((m:Int)-(a:Int)==1)=false:=by rw[jE];omega
 have w4:((b:Int)-(m:Int)==1)=false:=by rw[jE];omega
 obtain⟨aW,oh⟩:∃aW,(a+b)/2=aW:=⟨_,rfl⟩;have ab5:((a:Int)+(b:Int))/2=(aW:Int):=aa;obtain⟨nn,iT⟩:∃nn,aW+m=nn:=⟨_,rfl⟩;have ab6:IntKind.i64.wrap ((aW:Int)+(m:Int))=(nn:Int):=by rw[aE];omega
 have ab7:(aW:Int)+(m:Int)=(nn:Int):=aa;obtain⟨pp,xG⟩:∃pp,pp+1=nn:=⟨nn-1,aa⟩;have ab8:IntKind.i64.wrap ((nn:Int)-1)=(pp:Int):=by rw[aE];omega
 have ab9:(nn:Int)-1=(pp:Int):=aa;have aca:IntKind.i64.wrap ((nn:Int)-(b:Int))=(nn:Int)-(b:Int):=by rw[aE];omega
 have acb:IntKind.i64.wrap (nn:Int)=(nn:Int):=by rw[aE];omega
 have acd:IntKind.i64.wrap (pp:Int)=(pp:Int):=by rw[aE];omega
 have ace:nn<=2000:=aa;have bm:m<=1000:=aa
 obtain⟨lo,hi,kO⟩:∃lo hi,BO a m b aW nn lo hi:=by
  by_cases h:aW<m
  ·exact⟨nn-b,aW,oh.symm,iT.symm,.inl ⟨h,aa,rfl⟩⟩
  ·exact⟨a,m,oh.symm,iT.symm,.inr ⟨aa,rfl,rfl⟩⟩
 have vV:=ae kO;have JE:lo<=hi:=by obtain⟨_,_,h3⟩:=kO;omega
 have HS:=ae (show ox row nn lo hi lo hi from⟨.inl rfl,.inl rfl⟩);have fy:aW<b:=aa;have zk:a<aW:=aa;have A_:Hid (a<=lo/\hi<=m/\hi<=aW/\m+hi<=nn/\nn<=b+lo):=by obtain⟨_,_,h3⟩:=kO;exact ae aa
 rcases kO.2.2 with⟨q1,q2,q3⟩|⟨q1,q2,q3⟩
 all_goals
  have HQ:=ae (af q2 q3)
  clear q2 q3
  have JF:decide ((aW:Int)<(m:Int))=decide (aW<m):=by rw[CD];omega
  have oA:(decide (aW<m)=true/\(aW:Int)<(m:Int))∨(decide (aW<m)=false/\¬(aW:Int)<(m:Int)):=by
   by_cases h:aW<m
   ·exact .inl ⟨fF h,aa⟩
   ·exact .inr ⟨ct h,aa⟩
  rcases oA with⟨oA,JG⟩|⟨oA,JG⟩
  any_goals (exfalso;omega)
  rw[oA]at JF
  clear oA q1
  clear bK hN ha hm hb hX hY kO oh vU hn jL oy iT IH
  go_enter Tryz.func293,Tryz.ntmps293
  go_wp2_with fail
  go_loopw [20,21] (λ vi vj wr=>∃(i j:Nat),vi= .int .i64 i/\vj= .int .i64 j/\lo<=i/\i<=j/\j<=hi/\Hid (ox row nn lo hi i j)/\ay wr g row/\w.grownBy wr (some g)) (λ vi vj _=>(intOf vj).toNat-(intOf vi).toNat)
  case atStart=>exact⟨lo,hi,by congr 1;have:=HQ.out;omega,by congr 1;have:=HQ.out;omega,ai _,JE,ai _,HS,hr,jl _ _⟩
  case round=>
   clear HS hr;obtain⟨i,j,rfl,rfl,BR,gB,BS,hS,hF,hg⟩:=hrel;have JH:=A_.out;by_cases ao:(i:Int)<(j:Int)
   ·obtain⟨h,hh⟩:∃h,(i+j)/2=h:=⟨_,rfl⟩;have Dv:((i:Int)+(j:Int))/2=(h:Int):=aa;have BJ:i<=h/\h<j:=aa;have fC:h<row.length:=by rw[HN.out];omega
    obtain⟨q,hq⟩:∃q,q+h=pp:=⟨pp-h,aa⟩;have wq:IntKind.i64.wrap (q:Int)=(q:Int):=by rw[aE];omega
    have acf:(pp:Int)-(h:Int)=(q:Int):=aa;have vW:q<row.length:=by rw[HN.out];omega
    obtain⟨x,hx⟩:∃x,row[h]? =some x:=⟨_,getD_some fC⟩;obtain⟨y,hy⟩:∃y,row[q]? =some y:=⟨_,getD_some vW⟩;obtain⟨c,hc⟩:∃c,fw y.1 x.1=c:=⟨_,rfl⟩;have aV:=mi y x;rw[hc]at aV;have jP:Hid (¬c<0->ox row nn lo hi (h+1) j):=ae λ hl=>⟨.inr ⟨x,y,by rw[qh];exact hx,by rw[show nn-(h+1)=q by omega];exact hy,λ e=>hl (aV.2 e)⟩,hS.out.2⟩;have iM:Hid (c<0->ox row nn lo hi i h):=ae λ hl=>⟨hS.out.1,.inr ⟨x,y,hx,by rw[show nn-1-h=q by omega];exact hy,aV.1 hl⟩⟩;have hz:(h:Int)<(N:Int):=by rw[HN.out]at fC;omega
    have qz:(q:Int)<(N:Int):=by rw[HN.out]at vW;omega
    obtain⟨xp,xd⟩:=x;obtain⟨yp,yd⟩:=y;obtain⟨x0,x1⟩:=hF.jA hx;obtain⟨y0,y1⟩:=hF.jA hy;have HC:=ae hc;clear hc aV hx hy hS fC hh vW hq;by_cases hl:c<0
    ·have hd:decide (c<0)=true:=fF hl;go_wp2_with fail;go_quiet_grown (first|(go_at_call 162;refine Calls.grown_of (jy yp yd xp xd c HC.out _)));go_wp2_with fail;go_round
     case rel=>exact⟨i,h,rfl,by first|rfl|go_num,BR,aa,aa,ae (iM.out hl),hF.aL (dn wr nq osq),aQ hg (jm (dn wr nq osq) g)⟩
     case measure=>simp[intOf];omega
    ·have hd:decide (c<0)=false:=ct hl;go_wp2_with fail;go_quiet_grown (first|(go_at_call 162;refine Calls.grown_of (jy yp yd xp xd c HC.out _)));go_wp2_with fail;go_round
     case rel=>exact⟨h+1,j,by first|rfl|go_num,rfl,aa,aa,BS,ae (jP.out hl),hF.aL (dn wr nq osq),aQ hg (jm (dn wr nq osq) g)⟩
     case measure=>simp[intOf];omega
   ·obtain rfl:i=j:=aa;obtain⟨X1,X2,Y1,Y2,rfl,rfl,k1,k2,g1,g2⟩:=Jw (S:=S) HA.out HM.out HB.out vV.out BR BS ru.out jO.out (by rw[iy.out];exact hS.out);have hM:=HM.out;have sG:=HB.out;have jB:=y_.out;rw[ag]at hM sG;rw[ag,ag]at jB;obtain⟨ed,JI⟩:∃ed,ed+i=nn:=⟨nn-i,aa⟩;have acg:IntKind.i64.wrap ((nn:Int)-(i:Int))=(ed:Int):=by rw[aE];omega
    have ach:(nn:Int)-(i:Int)=(ed:Int):=aa;have r1:Y1.length+m=ed:=aa;have r2:X2.length+i=m:=aa;have r3:Y1.length+i=aW:=by have:=vV.out.2.1;omega
    have r4:X2.length+aW=ed:=by have:=vV.out.2.1;omega
    have r5:Y2.length+ed=b:=aa;have BT:=(cJ.1 ru.out).1;have BU:=(cJ.1 ru.out).2.1;have BV:=(cJ.1 jO.out).1;have BW:=(cJ.1 jO.out).2.1;have HR:=ae (af k1 (af r1 (af r2 (af r3 (af r4 (af r5 jB))))));have dt:=ae (af BT (af BU (af BV BW)));have nk:=ae (λ Z1 Z2 s1 s2 t1 t2=>Lw (Z1:=Z1) (Z2:=Z2) ru.out jO.out g1 g2 s1 s2 t1 t2);have ry:=ae (show row=P++(X1++(X2++(Y1++(Y2++S))))by rw[<-iy.out];simp);have rA:=ae (show(X1++X2)++(Y1++Y2)=XY from AV.out);have gq:=ae (af hM sG);have vX:=ae (af HA.out (af fy zk));clear hS g1 g2 BT BU BV BW;have iz:=ae (show X1.length+X2.length+(Y1.length+Y2.length)<=n0+1 from jB);obtain⟨bA,gp⟩:∃t:Bool,decide (i<m/\m<ed)=t:=⟨_,rfl⟩;obtain⟨bB,BX⟩:∃t:Bool,decide (a<i/\i<aW)=t:=⟨_,rfl⟩;obtain⟨bC,vq⟩:∃t:Bool,decide (aW<ed/\ed<b)=t:=⟨_,rfl⟩;have dX:=ae gp;have lT:=ae BX;have lx:=ae vq;clear gp BX vq k1 k2 r1 r2 r3 r4 r5 jB hM sG JI JH;go_upto_region 39 with(fail);go_cut [185]from 178 to 185 (λ v wx=>v= .bool bA/\wr=wx)
    case first=>
     by_cases d1:(i:Int)<(m:Int)
     ·by_cases d2:(m:Int)<(ed:Int)
      ·have E:=ae (show bA=true by rw[<-dX.out];exact fF aa);go_wp2_with fail;go_meet
       case rel=>exact⟨by first|(rw[E.out];done)|(rw[E.out];rfl)|(rw[E.out];simp;omega),rfl⟩
      ·have E:=ae (show bA=false by rw[<-dX.out];exact ct aa);go_wp2_with fail;go_meet
       case rel=>exact⟨by first|(rw[E.out];done)|(rw[E.out];rfl)|(rw[E.out];simp;omega),rfl⟩
     ·have E:=ae (show bA=false by rw[<-dX.out];exact ct aa);go_wp2_with fail;go_meet
      case rel=>exact⟨by first|(rw[E.out];done)|(rw[E.out];rfl)|(rw[E.out];simp;omega),rfl⟩
    case rest=>
     obtain⟨rfl,rfl⟩:=hcut;go_upto_if 185 with(fail);go_cut []from 186 to 191 (λ wx=>vS w g (P++(X1++(Y1++(X2++(Y2++S))))) wx)
     case first=>
      cases bA with
      |true=>
       have hd:=fZ dX.out;go_wp2_with fail;(with_reducible refine(JC g cap N _ _ _ i m ed (P++X1) X2 Y1 (Y2++S) row _ _ rfl rfl rfl (by rw[ry.out];simp) HN.out cd (by have:=HR.out;have:=HA.out;rw[ag];omega) (by have:=HR.out;omega) (by have:=HR.out;omega) (by have:=HR.out;omega) (by have:=HR.out;omega) hF).mono ?_);rintro e w3 ⟨rfl,bZ,cz⟩;have iA:=ae (show vS w g (P++(X1++(Y1++(X2++(Y2++S))))) w3 from⟨by have h:=bZ;rw[aN]at h;exact h,aQ hg cz⟩);clear hF hg bZ cz;go_wp2_with fail;go_meet
       case rel=>exact iA.out
      |false=>
       have hd:=wL dX.out
       have iA:=ae (show vS w g (P++(X1++(Y1++(X2++(Y2++S))))) wr from⟨by
        have h:=hF
        rw[ry.out]at h
        have hr:=HR.out
        by_cases h2:X2=[]
        ·rw[h2]at h⊢;simpa using h
        ·have h3:Y1=[]:=vT (n:=0) (by have:0<X2.length:=oK.2 h2;omega);rw[h3]at h⊢;simpa using h,hg⟩)
       clear hF hg hd;go_wp2_with fail;go_meet
       case rel=>exact iA.out
     case rest=>
      have vY:=ae hcut;clear hcut hF hg;have oB:=vY.out.1;have oC:=vY.out.2;have BZ:=ae (show(P++(X1++(Y1++(X2++(Y2++S))))).length=N by have:=HN.out;rw[ry.out]at this;simp only[ag]at this⊢;omega);generalize wc=wA at*;clear dX vY;go_upto_region 41 with(fail);go_cut [199]from 192 to 199 (λ v wx=>v= .bool bB/\wA=wx)
      case first=>
       by_cases d1:(a:Int)<(i:Int)
       ·by_cases d2:(i:Int)<(aW:Int)
        ·have E:=ae (show bB=true by rw[<-lT.out];exact fF aa);go_wp2_with fail;go_meet
         case rel=>exact⟨by first|(rw[E.out];done)|(rw[E.out];rfl)|(rw[E.out];simp;omega),rfl⟩
        ·have E:=ae (show bB=false by rw[<-lT.out];exact ct aa);go_wp2_with fail;go_meet
         case rel=>exact⟨by first|(rw[E.out];done)|(rw[E.out];rfl)|(rw[E.out];simp;omega),rfl⟩
       ·have E:=ae (show bB=false by rw[<-lT.out];exact ct aa);go_wp2_with fail;go_meet
        case rel=>exact⟨by first|(rw[E.out];done)|(rw[E.out];rfl)|(rw[E.out];simp;omega),rfl⟩
      case rest=>
       obtain⟨rfl,rfl⟩:=hcut;go_upto_if 199 with(fail);go_cut []from 200 to 205 (λ wx=>oz w g P X1 Y1 (X2++(Y2++S)) wx)
       case first=>
        cases bB with
        |true=>
         have hd:=fZ lT.out;go_wp2_with fail;(with_reducible refine(BQ.out.use g cap N _ _ _ a i aW P X1 Y1 (X2++(Y2++S)) _ _ rfl rfl rfl rfl BZ.out cd HA.out (by have:=HR.out;omega) (by have:=HR.out;omega) (by have:=HR.out;omega) (by have:=HR.out;omega) (by have:=HR.out;have:=iz.out;have:=gq.out;have:=vX.out;omega) dt.out.1 dt.out.2.2.1 oB).mono ?_);rintro e w4 ⟨rfl,⟨Z1,u1,u2,u3,jb⟩,gH⟩;have iA:=ae (show oz w g P X1 Y1 (X2++(Y2++S)) w4 from⟨Z1,u1,u2,u3,jb,aQ oC gH⟩);clear oB oC jb gH u1 u2 u3;go_wp2_with fail;go_meet
         case rel=>exact iA.out
        |false=>
         have hd:=wL lT.out
         have iA:=ae (show oz w g P X1 Y1 (X2++(Y2++S)) wA from BP (by
          have hr:=HR.out
          by_cases h2:X1=[]
          ·exact .inl h2
          ·exact .inr (vT (n:=0) (by have:0<X1.length:=oK.2 h2;omega))) dt.out.1 dt.out.2.2.1 oB oC)
         clear oB oC hd;go_wp2_with fail;go_meet
         case rel=>exact iA.out
       case rest=>
        obtain⟨Z1,u1,u2,u3,jb,fc⟩:=hcut;have HU:=ae (af u1 (af u2 u3));have JJ:=ae (show(P++(Z1++(X2++(Y2++S)))).length=N by have:=HN.out;rw[ry.out]at this;simp only[ag]at this u1⊢;omega);clear u1 u2 u3 oB oC BZ lT;generalize wc=wB at*;go_upto_region 43 with(fail);go_cut [213]from 206 to 213 (λ v wx=>v= .bool bC/\wB=wx)
        case first=>
         by_cases d1:(aW:Int)<(ed:Int)
         ·by_cases d2:(ed:Int)<(b:Int)
          ·have E:=ae (show bC=true by rw[<-lx.out];exact fF aa);go_wp2_with fail;go_meet
           case rel=>exact⟨by first|(rw[E.out];done)|(rw[E.out];rfl)|(rw[E.out];simp;omega),rfl⟩
          ·have E:=ae (show bC=false by rw[<-lx.out];exact ct aa);go_wp2_with fail;go_meet
           case rel=>exact⟨by first|(rw[E.out];done)|(rw[E.out];rfl)|(rw[E.out];simp;omega),rfl⟩
         ·have E:=ae (show bC=false by rw[<-lx.out];exact ct aa);go_wp2_with fail;go_meet
          case rel=>exact⟨by first|(rw[E.out];done)|(rw[E.out];rfl)|(rw[E.out];simp;omega),rfl⟩
        case rest=>
         obtain⟨rfl,rfl⟩:=hcut
         cases bC with
         |true=>
          have hd:=fZ lx.out;go_wp2_with fail;(with_reducible refine(BQ.out.use g cap N _ _ _ aW ed b (P++Z1) X2 Y2 S _ _ rfl rfl rfl (by rw[aN]) JJ.out cd (by have:=HR.out;have:=HA.out;have h:=HU.out.1;rw[ag]at h;rw[ag];omega) (by have:=HR.out;omega) (by have:=HR.out;omega) (by have:=HR.out;omega) (by have:=HR.out;omega) (by have:=HR.out;have:=iz.out;have:=gq.out;have:=vX.out;omega) dt.out.2.1 dt.out.2.2.2 jb).mono ?_);rintro e w5 ⟨rfl,⟨Z2,u1,u2,u3,vZ⟩,iI⟩;have rB:=aQ fc iI;have HV:=ae (af u1 (af u2 u3));clear jb fc iI u1 u2 u3;go_wp2_with fail;go_end0;have iG:=nk.out Z1 Z2 HU.out.2.1 HV.out.2.1 HU.out.2.2 HV.out.2.2;refine⟨rfl,⟨Z1++Z2,by have h1:=HU.out.1;have h2:=HV.out.1;rw[<-rA.out];simp only[ag]at h1 h2⊢;omega,iG.1,by rw[<-rA.out];exact iG.2,by have h:=vZ;rw[aN]at h;rw[aN];exact h⟩,rB⟩
         |false=>
          have hd:=wL lx.out
          have iA:=ae (show oz w g (P++Z1) X2 Y2 S wB from BP (by
           have hr:=HR.out
           by_cases h2:X2=[]
           ·exact .inl h2
           ·exact .inr (vT (n:=0) (by have:0<X2.length:=oK.2 h2;omega))) dt.out.2.1 dt.out.2.2.2 (by rw[aN];exact jb) fc)
          clear jb fc hd;obtain⟨Z2,u1,u2,u3,vZ,rB⟩:=iA.out;have HV:=ae (af u1 (af u2 u3));clear u1 u2 u3;go_wp2_with fail;go_end0;have iG:=nk.out Z1 Z2 HU.out.2.1 HV.out.2.1 HU.out.2.2 HV.out.2.2;refine⟨rfl,⟨Z1++Z2,by have h1:=HU.out.1;have h2:=HV.out.1;rw[<-rA.out];simp only[ag]at h1 h2⊢;omega,iG.1,by rw[<-rA.out];exact iG.2,by have h:=vZ;rw[aN]at h;rw[aN];exact h⟩,rB⟩
theorem v_:∀n,rq n
 |0=>λ _ _ _ _ _ _ _ _ _ _ _ _ _ _ _ _ _ _ _ _ _ _ _ _ h1 h2 h3 _ _ _=>by omega
 |n+1=>λ g cap N a m b a' m' b' P X Y S row w ea em eb er hN cd ha hm hb aci acj hn hX hY hr=>by
  subst ea;subst em;subst eb;subst er;by_cases h1:X.length=1
  ·obtain⟨x,rfl⟩:=CA.1 h1;exact Jq g cap N a' m' b' P Y S x w hN cd ha (by simp at hm;omega) hb hY hr
  ·by_cases h2:Y.length=1
   ·obtain⟨y,rfl⟩:=CA.1 h2;exact Jv g cap N a' m' b' P X S y w hN cd ha hm aa (by simp at hb;omega) hX hr
   ·exact JD n (v_ n) g cap N a' m' b' P X Y S w hN cd ha hm hb aa aa hn hX hY hr
def sf (n:Nat)(Bs:List (List Fl)):Prop:=∀B∈Bs,B.length=n/\aI B
def w_ (l:List Fl)(a:Nat)(row:List Fl):Prop:=∃(Bs:List (List Fl)) (R:List Fl),sf 20 Bs/\row=Bs.flatten++R/\Bs.flatten.length=a/\aK l row/\row.length=l.length
def qy (l:List Fl)(n:Nat)(row:List Fl):Prop:=∃(Bs:List (List Fl)) (R:List Fl),sf n Bs/\aI R/\R.length<n/\row=Bs.flatten++R/\aK l row/\row.length=l.length
def qA (l:List Fl)(n a:Nat)(row:List Fl):Prop:=∃(Cs Bs:List (List Fl)) (R:List Fl),sf (2*n) Cs/\sf n Bs/\aI R/\R.length<n/\row=Cs.flatten++(Bs.flatten++R)/\Cs.flatten.length=a/\aK l row/\row.length=l.length
theorem G9 {n:Nat}{Bs:List (List Fl)}{B:List Fl}(h:sf n Bs)(h1:B.length=n)(h2:aI B):sf n (Bs++[B]):=λ C hC=>by
 rcases fE.1 hC with h3|h3
 ·exact h C h3
 ·simp at h3;subst h3;exact⟨h1,h2⟩
theorem yE (Bs:List (List Fl))(B:List Fl):(Bs++[B]).flatten=Bs.flatten++B:=aj
theorem Ly (l:List Fl):w_ l 0 l:=⟨[],l,λ B h=>(by cases h),aj,rfl,aK.dW _,rfl⟩
theorem C4 {l row:List Fl}{a n:Nat}(h:w_ l a row)(hn:a+n<=row.length):∃P X S,row=P++(X++S)/\P.length=a/\X.length=n/\
 (n=20->∀Z,Z.length=X.length->aI Z->aK X Z->w_ l (a+20) (P++(Z++S)))/\(a+n=row.length->n<20->∀Z,Z.length=X.length->aI Z->aK X Z->qy l 20 (P++(Z++S))):=by
 obtain⟨Bs,R,h1,rfl,h3,h4,h5⟩:=h;rw[ag]at hn;obtain⟨X,S,rfl,hX⟩:=pG R n aa;refine⟨Bs.flatten,X,S,rfl,h3,hX,λ e Z z1 z2 z3=>?_,λ e e2 Z z1 z2 z3=>?_⟩
 ·refine⟨Bs++[Z],S,G9 h1 aa z2,by rw[yE,aN],by rw[yE,ag];omega,h4.trans ?_,?_⟩
  ·exact(aK.dW _).app (z3.app (aK.dW S))
  ·rw[<-h5];simp only[ag];omega
 ·have:S=[]:=dP (by simp only[ag]at e;omega);subst this;refine⟨Bs,Z,h1,z2,aa,aj,h4.trans ?_,?_⟩
  ·exact(aK.dW _).app (z3.app (aK.dW []))
  ·rw[<-h5];simp only[ag];omega
theorem Lz {l row:List Fl}{n:Nat}(h:qy l n row):qA l n 0 row:=by
 obtain⟨Bs,R,h1,h2,h3,h4,h5,h6⟩:=h;exact⟨[],Bs,R,λ B hB=>(by cases hB),h1,h2,h3,by simpa using h4,rfl,h5,h6⟩
theorem LA {l row:List Fl}{n a:Nat}(h:qA l n a row)(hn:a+2*n<=row.length):∃P X Y S,row=P++(X++(Y++S))/\P.length=a/\X.length=n/\Y.length=n/\aI X/\aI Y/\
 ∀Z,Z.length=(X++Y).length->aI Z->aK (X++Y) Z->qA l n (a+2*n) (P++(Z++S)):=by
 obtain⟨Cs,Bs,R,h1,h2,h3,h4,rfl,h6,h7,h8⟩:=h;simp only[ag]at hn;match Bs,h2,h7,h8,hn with
 |[],_,_,_,hn=>simp only[fY,kK,ag,cL,bV]at hn;omega
 |[B],h2,_,_,hn=>have:=(h2 B aj).1;simp only[fY,kK,ag,cL,bV]at hn;omega
 |B1::B2::Bs,h2,h7,h8,hn=>
  obtain⟨a1,a2⟩:=h2 B1 aj;obtain⟨b1,b2⟩:=h2 B2 aj;refine⟨Cs.flatten,B1,B2,Bs.flatten++R,aj,h6,a1,b1,a2,b2,λ Z z1 z2 z3=>?_⟩;rw[ag]at z1;refine⟨Cs++[Z],Bs,R,G9 h1 aa z2,λ B hB=>h2 B (by simp[hB]),h3,h4,by rw[yE,aN],by rw[yE,ag];omega,h7.trans ?_,?_⟩
  ·rw[show Cs.flatten++((B1::B2::Bs).flatten++R)=Cs.flatten++((B1++B2)++(Bs.flatten++R))by simp];exact(aK.dW _).app (z3.app (aK.dW _))
  ·rw[<-h8];simp only[ag,fY];omega
theorem LB {l row:List Fl}{n a:Nat}(h:qA l n a row)(hn:row.length<a+2*n)(h0:0<n)(ao:a+n<row.length):∃P X Y,row=P++(X++(Y++[]))/\P.length=a/\X.length=n/\0<Y.length/\a+n+Y.length=row.length/\aI X/\aI Y/\
 ∀Z,Z.length=(X++Y).length->aI Z->aK (X++Y) Z->qy l (2*n) (P++(Z++[])):=by
 obtain⟨Cs,Bs,R,h1,h2,h3,h4,rfl,h6,h7,h8⟩:=h;simp only[ag]at hn ao;match Bs,h2,h7,h8,hn,ao with
 |[],_,_,_,hn,ao=>simp only[fY,kK,ag,cL,bV]at ao;omega
 |B1::B2::Bs,h2,_,_,hn,_=>
  have a1:=(h2 B1 aj).1;have b1:=(h2 B2 aj).1;simp only[fY,kK,ag,cL,bV]at hn;omega
 |[B],h2,h7,h8,hn,ao=>
  obtain⟨a1,a2⟩:=h2 B aj;simp only[fY,kK,bV]at hn ao h7 h8⊢;refine⟨Cs.flatten,B,R,rfl,h6,a1,aa,by simp only[ag];omega,a2,h3,λ Z z1 z2 z3=>?_⟩;rw[ag]at z1;refine⟨Cs,Z,h1,z2,aa,rfl,h7.trans ((aK.dW _).app z3),?_⟩;rw[<-h8];simp only[ag];omega
theorem LC {l row:List Fl}{n a:Nat}(h:qA l n a row)(h0:0<n)(ao:row.length<=a+n):qy l (2*n) row:=by
 obtain⟨Cs,Bs,R,h1,h2,h3,h4,rfl,h6,h7,h8⟩:=h;simp only[ag]at ao;match Bs,h2,h7,h8,ao with
 |[],_,h7,h8,ao=>exact⟨Cs,R,h1,h3,aa,aj,h7,h8⟩
 |B1::B2::Bs,h2,_,_,ao=>
  have a1:=(h2 B1 aj).1;have b1:=(h2 B2 aj).1;simp only[fY,kK,ag,cL,bV]at ao;omega
 |[B],h2,h7,h8,ao=>
  obtain⟨a1,a2⟩:=h2 B aj;simp only[fY,kK,bV]at ao h7 h8⊢;have:R=[]:=dP aa;subst this;exact⟨Cs,B,h1,a2,aa,aj,h7,h8⟩
theorem LD {l row:List Fl}{n:Nat}(h:qy l n row)(hn:row.length<=n):row.length=l.length/\aI row/\aK l row:=by
 obtain⟨Bs,R,h1,h2,h3,rfl,h5,h6⟩:=h;refine⟨h6,?_,h5⟩;rw[ag]at hn;match Bs,h1,hn with
 |[],_,_=>simpa using h2
 |B1::B2::Bs,h1,hn=>
  have a1:=(h1 B1 aj).1;have b1:=(h1 B2 aj).1;simp only[fY,kK,ag,cL,bV]at hn;omega
 |[B],h1,hn=>
  obtain⟨a1,a2⟩:=h1 B aj;simp only[fY,kK,ag,cL,bV]at hn;have:R=[]:=dP aa;subst this;simpa using a2
theorem B0 (g cap N:Nat)(a b:Int)(a' b':Nat)(P X S row:List Fl)(w:World)(ea:a=a')(eb:b=b')(er:row=P++(X++S))(hN:row.length=N)(hm:N<=1000)(ha:P.length=a')(hb:a'+X.length=b')(hr:ay w g row):
 Calls Tryz.prog 292 #[.slice (some ⟨g,0,none⟩) N cap,.int .i64 a,.int .i64 b,.func (.func 162) #[] #[]] w (gS w g P X S):=by
 subst ea;subst eb;subst er;exact Jm g cap N a' b' P X S w hN hm ha aa hr
theorem JK (g cap N:Nat)(l:List Fl)(w:World)(hN:l.length=N)(cd:N<=1000)(hr:ay w g l):
 Calls Tryz.prog 226 #[.slice (some ⟨g,0,none⟩) N cap,.int .i64 N,.func (.func 162) #[] #[]] w (gS w g [] l []):=by
 have HN:=ae hN;have H1:=ae (Ly l);clear hN;go_enter Tryz.func226,Tryz.ntmps226;go_wp2_with fail;go_loopw [7,8] (λ va vb wr=>∃(a:Nat) (row:List Fl),va= .int .i64 a/\vb= .int .i64 ((a:Int)+20)/\a<=N/\Hid (w_ l a row)/\Hid (row.length=N)/\ay wr g row/\w.grownBy wr (some g)) (λ va _ _=>N-(intOf va).toNat)
 case atStart=>exact⟨0,l,rfl,rfl,aa,H1,HN,hr,jl _ _⟩
 case round=>
  clear H1 hr;obtain⟨a,row,rfl,rfl,ack,hS,hL,hF,hg⟩:=hrel;by_cases ao:(a:Int)+20<=(N:Int)
  ·obtain⟨P,X,S,bK,hP,hX,cF,_⟩:=C4 (n:=20) hS.out (by rw[hL.out];omega);have fp:=ae (cF rfl);have gw:=ae (af bK (af hP hX));have w1:IntKind.i64.wrap ((a:Int)+20+20)=(a:Int)+20+20:=by rw[aE];omega
   clear cF bK hP hX hS;go_wp2_with fail;(with_reducible refine(B0 g cap N _ _ a (a+20) P X S row _ rfl aa gw.out.1 hL.out cd gw.out.2.1 (by have:=gw.out.2.2;omega) hF).mono ?_);rintro e w3 ⟨rfl,⟨Z,z1,z2,z3,bZ⟩,cz⟩;have oD:=ae (fp.out Z z1 z2 z3);have mH:=ae (show(P++(Z++S)).length=N by have:=gw.out.1;have h2:=hL.out;rw[this]at h2;simp only[ag]at h2⊢;omega);clear z1 z2 z3;go_wp2_with fail;go_round
   case rel=>exact⟨a+20,_,by first|rfl|go_num,by first|rfl|go_num,aa,oD,mH,bZ,aQ hg cz⟩
   case measure=>simp[intOf];omega
  ·obtain⟨P,X,S,bK,hP,hX,_,cF⟩:=C4 (n:=N-a) hS.out (by rw[hL.out];omega);have fp:=ae (cF (by rw[hL.out];omega) aa);have gw:=ae (af bK (af hP hX));clear cF bK hP hX hS;go_wp2_with fail;(with_reducible refine(B0 g cap N _ _ a N P X S row _ rfl rfl gw.out.1 hL.out cd gw.out.2.1 (by have:=gw.out.2.2;omega) hF).mono ?_);rintro e w3 ⟨rfl,⟨Z,z1,z2,z3,bZ⟩,cz⟩;have oD:=ae (fp.out Z z1 z2 z3);have mH:=ae (show(P++(Z++S)).length=N by have:=gw.out.1;have h2:=hL.out;rw[this]at h2;simp only[ag]at h2⊢;omega);have gH:=aQ hg cz;generalize P++(Z++S)=JL at*;clear z1 z2 z3 fp gw hg cz hF hL;go_wp2_with fail;go_loopw [6] (λ vn bU=>∃(n:Nat) (bR:List Fl),vn= .int .i64 n/\20<=n/\n<=2000/\Hid (qy l n bR)/\Hid (bR.length=N)/\ay bU g bR/\w.grownBy bU (some g)) (λ vn _=>4000-(intOf vn).toNat)
   case atStart=>exact⟨20,JL,rfl,aa,aa,oD,mH,bZ,gH⟩
   case round=>
    clear oD mH bZ gH;obtain⟨n,bR,rfl,acm,iR,js,nP,ig,dU⟩:=hrel;by_cases fO:(n:Int)<(N:Int)
    ·have xQ:=ae (Lz js.out);have w2:IntKind.i64.wrap (2*(n:Int))=2*(n:Int):=by rw[aE];omega
     have acn:IntKind.i64.wrap ((n:Int)*2)=(n:Int)*2:=by rw[aE];omega
     clear js;go_wp2_with fail;go_loopw [7,8] (λ va vb B_=>∃(a2:Nat) (lU:List Fl),va= .int .i64 a2/\vb= .int .i64 ((a2:Int)+2*(n:Int))/\a2<=N/\Hid (qA l n a2 lU)/\Hid (lU.length=N)/\ay B_ g lU/\w.grownBy B_ (some g)) (λ va _ _=>N-(intOf va).toNat)
     case atStart=>exact⟨0,bR,rfl,by first|rfl|go_num|(congr 1;omega),aa,xQ,nP,ig,dU⟩
     case round=>
      clear xQ nP ig dU;obtain⟨a2,lU,rfl,rfl,aco,gP,fD,wg,gH⟩:=hrel;have v1:IntKind.i64.wrap ((a2:Int)+(n:Int))=(a2:Int)+(n:Int):=by rw[aE];omega
      have v2:IntKind.i64.wrap ((a2:Int)+2*(n:Int)+2*(n:Int))=(a2:Int)+2*(n:Int)+2*(n:Int):=by rw[aE];omega
      by_cases tL:(a2:Int)+2*(n:Int)<=(N:Int)
      ·obtain⟨P4,X4,Y4,S4,e1,e2,e3,e4,s1,s2,cF⟩:=LA gP.out (by rw[fD.out];omega);have HE:=ae (af e1 (af e2 (af e3 (af e4 (af s1 s2)))));have fp:=ae cF;clear e1 e2 e3 e4 s1 s2 cF gP;go_wp2_with fail;(with_reducible refine((v_ (2*n)).use g cap N _ _ _ a2 (a2+n) (a2+2*n) P4 X4 Y4 S4 lU _ rfl aa aa HE.out.1 fD.out cd HE.out.2.1 (by have:=HE.out.2.2.1;omega) (by have:=HE.out.2.2.2.1;omega) (by have:=HE.out.2.2.1;omega) (by have:=HE.out.2.2.2.1;omega) (by have:=HE.out.2.2.1;have:=HE.out.2.2.2.1;omega) HE.out.2.2.2.2.1 HE.out.2.2.2.2.2 wg).mono ?_);rintro e w5 ⟨rfl,⟨Z4,z1,z2,z3,rC⟩,iI⟩;have lV:=ae (fp.out Z4 z1 z2 z3);have sR:=ae (show(P4++(Z4++S4)).length=N by have:=HE.out.1;have h2:=fD.out;rw[this]at h2;simp only[ag]at h2 z1⊢;omega);clear z1 z2 z3;go_wp2_with fail;go_round
       case rel=>exact⟨a2+2*n,_,by first|rfl|go_num|(congr 1;omega),by first|rfl|go_num|(congr 1;omega),aa,lV,sR,rC,aQ gH iI⟩
       case measure=>simp[intOf];omega
      ·by_cases acp:(a2:Int)+(n:Int)<(N:Int)
       ·obtain⟨P4,X4,Y4,e1,e2,e3,e4,e5,s1,s2,cF⟩:=LB gP.out (by rw[fD.out];omega) aa (by rw[fD.out];omega);have HE:=ae (af e1 (af e2 (af e3 (af e4 (af e5 (af s1 s2))))));have fp:=ae cF;clear e1 e2 e3 e4 e5 s1 s2 cF gP;go_wp2_with fail;(with_reducible refine((v_ (2*n)).use g cap N _ _ _ a2 (a2+n) N P4 X4 Y4 [] lU _ rfl aa rfl HE.out.1 fD.out cd HE.out.2.1 (by have:=HE.out.2.2.1;omega) (by have:=HE.out.2.2.2.2.1;have:=fD.out;omega) (by have:=HE.out.2.2.1;omega) HE.out.2.2.2.1 (by have:=HE.out.2.2.1;have:=HE.out.2.2.2.2.1;have:=fD.out;omega) HE.out.2.2.2.2.2.1 HE.out.2.2.2.2.2.2 wg).mono ?_);rintro e w5 ⟨rfl,⟨Z4,z1,z2,z3,rC⟩,iI⟩;have lV:=ae (fp.out Z4 z1 z2 z3);have sR:=ae (show(P4++(Z4++[])).length=N by have:=HE.out.1;have h2:=fD.out;rw[this]at h2;simp only[ag]at h2 z1⊢;omega);clear z1 z2 z3;go_wp2_with fail;go_round
        case rel=>exact⟨2*n,_,by first|rfl|go_num|(congr 1;omega),aa,aa,lV,sR,rC,aQ gH iI⟩
        case measure=>simp[intOf];omega
       ·have lV:=ae (LC gP.out aa (by rw[fD.out];omega));clear gP;go_wp2_with fail;go_round
        case rel=>exact⟨2*n,_,by first|rfl|go_num|(congr 1;omega),aa,aa,lV,fD,wg,gH⟩
        case measure=>simp[intOf];omega
    ·have hE:=LD js.out (by rw[nP.out];omega);have HE:=ae hE;clear hE js;go_wp2_with fail;go_end0;exact⟨rfl,⟨bR,HE.out.1,HE.out.2.1,HE.out.2.2,by simpa using ig⟩,dU⟩
theorem JM (g cap N:Nat)(l:List Fl)(w:World)(hN:l.length=N)(cd:N<=1000)(hr:ay w g l):
 Calls Tryz.prog 161 #[.slice (some ⟨g,0,none⟩) N cap,.func (.func 162) #[] #[]] w (gS w g [] l []):=by
 go_enter Tryz.func161,Tryz.ntmps161;go_wp2_with fail;(with_reducible refine(JK g cap N l _ hN cd hr).mono ?_);rintro e w3 ⟨rfl,h3,cz⟩;go_wp2_with fail;go_end0;exact⟨rfl,h3,cz⟩
theorem JN (A:Option Addr)(cap:Nat)(fv:Value)(w:World):
 Calls Tryz.prog 292 #[.slice A 0 cap,.int .i64 0,.int .i64 0,fv] w λ e w'=>e= .returned (.tuple #[])/\w'=w:=by
 go_enter Tryz.func292,Tryz.ntmps292;go_wp2_with fail;go_loopw [8] (λ vi wr=>vi= .int .i64 1/\wr=w) (λ _ _=>0)
 case atStart=>exact⟨rfl,rfl⟩
 case round=>
  obtain⟨rfl,rfl⟩:=hrel;go_wp2_with fail;go_end0;exact⟨rfl,rfl⟩
theorem JO (A:Option Addr)(cap:Nat)(fv:Value)(w:World):
 Calls Tryz.prog 226 #[.slice A 0 cap,.int .i64 0,fv] w λ e w'=>e= .returned (.tuple #[])/\w'=w:=by
 go_enter Tryz.func226,Tryz.ntmps226;go_wp2_with fail;go_loopw [7,8] (λ va vb wr=>va= .int .i64 0/\vb= .int .i64 20/\wr=w) (λ _ _ _=>0)
 case atStart=>exact⟨rfl,rfl,rfl⟩
 case round=>
  obtain⟨rfl,rfl,rfl⟩:=hrel;go_wp2_with fail;(with_reducible refine(JN A cap fv _).mono ?_);rintro e w3 ⟨rfl,rfl⟩;go_wp2_with fail;go_loopw [6] (λ vn bU=>vn= .int .i64 20/\bU=w3) (λ _ _=>0)
  case atStart=>exact⟨rfl,rfl⟩
  case round=>
   obtain⟨rfl,rfl⟩:=hrel;go_wp2_with fail;go_end0;exact⟨rfl,rfl⟩
theorem NQ (A:Option Addr)(cap:Nat)(fv:Value)(w:World):
 Calls Tryz.prog 161 #[.slice A 0 cap,fv] w λ e w'=>e= .returned (.tuple #[])/\w'=w:=by
 go_enter Tryz.func161,Tryz.ntmps161;go_wp2_with fail;(with_reducible refine(JO A cap fv _).mono ?_);rintro e w3 ⟨rfl,rfl⟩;go_wp2_with fail;go_end0;exact⟨rfl,rfl⟩
theorem Tryz.ao8:(Tryz.prog.info? 53).map (λ i=>(i.zero,i.size,i.bytes))=some (some (.agg #[.string ⟨#[]⟩,.string ⟨#[]⟩]),2,32):=ah
theorem pj:El Tryz.prog 22 53 2 32:=El.kg (z:=.agg #[.string ⟨#[]⟩,.string ⟨#[]⟩]) Tryz.underlying22 Tryz.ao8 aa rfl
def ao9 (l:List Fl)(w:World)(v:Value)(w':World):Prop:=
 ∃(A:Option Addr) (c:Nat),v= .slice A l.length c/\l.length<=c/\c<=maxLen/\Rd w' A (fl l)/\(l≠[]->∃g,A=some ⟨g,0,none⟩/\w.heap.size<=g/\ay w' g l)/\Below w.heap.size w w'
def acq (l:List Fl)(w:World)(e:Ending)(w':World):Prop:=∃v,e= .returned v/\ao9 l w v w'
theorem ay.rd {w:World}{g:Nat}{l:List Fl}(h:ay w g l):Rd w (some ⟨g,0,none⟩) (fl l):=by
 obtain⟨cur,h1,h2⟩:=h;rw[<-h2];exact h1.rd _
theorem apa (l:List Fl)(A:Option Addr)(n c:Nat)(hn:l.length=n)(hl:n<=1000)(w:World)(hr:Rd w A (fl l)):
 Calls Tryz.prog 160 #[.slice A n c] w (acq l w):=by
 have Hn:=ae hn;clear hn
 cases A with
 |none=>
  have h0:l=[]:=by
   rcases lC l with h|⟨a,b,h⟩
   ·exact h
   ·obtain⟨_,_,e,_⟩:=hr (by intro e;have:=kQ l;rw[e,h]at this;simp at this)
    cases e
  subst h0;obtain rfl:n=0:=Hn.out.symm;clear Hn;have FV:=λ w=>Go.Lib.run_eql_slice_nil (P:=Tryz.prog) w 22 53 none 0 c 0 0 Tryz.underlying22;go_enter Tryz.func160,Tryz.ntmps160;go_wp2_with fail;go_ret;exact⟨_,rfl,none,0,rfl,aj,by unfold maxLen;omega,Rd.nil _ _,λ h=>absurd rfl h,aB _ _⟩
 |some ad=>
  have FV:=λ w=>Go.Lib.run_eql_slice_nil (P:=Tryz.prog) w 22 53 (some ad) n c 0 0 Tryz.underlying22;have uc:=ae (show(fl l).length=n*2 by rw[kQ,Hn.out]);have hw:=(aB w.heap.size w).alloc (ai _) (.cells #[] 53);have ho:=World.ownsRow_lit (base:=w.heap.size) (e:=53) (size:=2) w #[] 0 (ai _) (by unfold maxLen;omega) rfl;have cH:=hr.below ((aB w.heap.size w).alloc (ai _) (.cells #[] 53));go_enter Tryz.func160,Tryz.ntmps160;go_wp2_with (at_builtin;go_must (refine qm _ rfl (.tmp 5) (.tmp 6) 22 rfl w.heap.size 53 2 32 pj _ _ _ ho rfl _ _ _ _ cH uc.out rfl (xo l) (by unfold maxLen;omega) aa aj ?_);intro v1 w1 gg au;simp only[jd,List.nil_append]at gg;obtain⟨_,A1,c1,eM,t_,tF,zo⟩:=Sl.own gg;have Hv:=ae eM;have HO:=ae gg;have apb:=ae zo;clear eM gg zo;rw[Hv.out]);go_ret;refine⟨_,rfl,A1,c1,by rw[Hn.out];rfl,by rw[Hn.out];exact t_,tF,apb.out,λ aS=>?_,hw.trans au⟩;rcases HO.out.2 with⟨_,h0⟩|⟨g,cap,cur,hv,hg,dU,_,_,_,ht⟩
  ·exact absurd (dP (Hn.out.trans h0)) aS
  ·rw[Hv.out]at hv;simp only[Value.slice.injEq]at hv;refine⟨g,hv.1,hg,cur,dU,?_⟩;rw[Hn.out];exact ht
theorem apc (l:List Fl)(A:Option Addr)(n c:Nat)(hn:l.length=n)(hl:n<=1000)(w:World)(hr:Rd w A (fl l)):
 Calls Tryz.prog 105 #[.slice A n c] w (acq (ck l) w):=by
 have Hn:=ae hn;go_enter Tryz.func105,Tryz.ntmps105;go_wp2_with fail;(with_reducible refine(apa l A n c hn hl w hr).mono ?_);rintro e w1 ⟨v,rfl,A1,c1,rfl,h1,h2,h3,h4,hb⟩;by_cases aS:l=[]
 ·subst aS;obtain rfl:n=0:=hn.symm;clear hn h4;go_wp2_with fail;(with_reducible refine(NQ A1 c1 _ _).mono ?_);rintro e w2 ⟨rfl,rfl⟩;go_wp2_with fail;go_ret;exact⟨_,rfl,A1,c1,rfl,by simp[ck],h2,Rd.nil _ _,λ h=>absurd rfl h,hb⟩
 ·obtain⟨g,rfl,hg,hF⟩:=h4 aS;clear aS h3 hr;rw[hn]at h1⊢;clear hn;go_wp2_with fail;(with_reducible refine(JM g c1 n l _ Hn.out hl hF).mono ?_);rintro e w2 ⟨rfl,⟨Z,z1,z2,z3,ig⟩,dU⟩;have e:Z=ck l:=Xu z2 z3;subst e;simp only[List.nil_append,bV]at ig;have mD:=ae ig;clear z1 z2 z3;go_wp2_with fail;go_ret;exact⟨_,rfl,some ⟨g,0,none⟩,c1,by rw[(qL l).2.2,Hn.out];rfl,by rw[(qL l).2.2,Hn.out];exact h1,h2,ig.rd,λ _=>⟨g,rfl,hg,ig⟩,hb.trans (me dU hg hb.size)⟩
