import Derived.Test.YtajokjbmpjjoiaaGreatDoorP15
import Derived.Test.YtajokjbmpjjoiaaGreatDoorP34
import Derived.Test.YtajokjbmpjjoiaaGreatDoorP37
set_option maxRecDepth 20000
set_option maxHeartbeats 0
set_option linter.unusedSimpArgs false
set_option linter.unusedVariables false
namespace Go.Proofs.YtajokjbmpjjoiaaGreatDoor
section
open Go.RowKit
theorem TS (F:List Nat)(k:Nat)(h:F.length<=k):(jj F F.length).length<=k:=b_ (PU F _) h
theorem ad9 {w:World}{A:Option Addr}{l:List Nat}(h:Rd w A (nv l))(m:Nat):Rd w A (nv (l.take m)):=by
 have:=h.take m;unfold nv at this⊢;rwa [<-List.map_take]at this
theorem aea:∀(l:List Nat),(eK l).length<=2*l.length
 |[]=>by rw[eK];simp
 |x::l=>by
  rw[eK,ag];have h:=aea ((x::l).drop (runK x (h_ x l+1)));have h1:=EW x (h_ x l+1);have h2:=PJ x (h_ x l+1) aa;have h3:=PI x l;have h4:(nK x (h_ x l+1)).length<=2:=by unfold nK;split<;>(try split)<;>(try split)<;>simp
  rw[cw,aU]at h;rw[aU];omega
 termination_by l=>l.length
 decreasing_by
  have:=EW x (h_ x l+1)
  simp only[cw,aU]
  omega
theorem TT:∀(l:List Nat),(l.flatMap λ n=>aH n 3).length=3*l.length
 |[]=>rfl
 |x::l=>by rw[wJ,ag,TT l,fi,aU];omega
structure lW (w0 wr:World)(g:Nat)(r:Option Nat)(B:List Bool)(K:List (Option Addr×List Value)):Prop where
 wx:WX w0 wr g r B
 kr:∀p∈K,Rd wr p.1 p.2/\nf g r p.1 p.2
theorem lW.below {w0 wr w':World}{g:Nat}{r:Option Nat}{B:List Bool}{K:List (Option Addr×List Value)}(h:lW w0 wr g r B K)(hb:Below wr.heap.size wr w'):lW w0 w' g r B K:=
 ⟨h.wx.below hb,λ p hp=>⟨(h.kr p hp).1.below hb,(h.kr p hp).2⟩⟩
theorem lW.put {w0 wr w':World}{g:Nat}{r:Option Nat}{B B':List Bool}{K:List (Option Addr×List Value)}{e:Ending}(h:lW w0 wr g r B K)(he:ir wr g r B' e w'):e= .returned (.tuple #[])/\∃r',lW w0 w' g r' B' K:=by
 obtain⟨rfl,r',hw,hp⟩:=h.wx.pw he;exact⟨rfl,r',hw,λ p Fw=>⟨(h.kr p Fw).1.pw (h.kr p Fw).2 hp,(h.kr p Fw).2.step (h.kr p Fw).1 hp⟩⟩
theorem lW.add {w0 wr:World}{g:Nat}{r:Option Nat}{B:List Bool}{K:List (Option Addr×List Value)}(h:lW w0 wr g r B K){A:Option Addr}{xs:List Value}(hr:Rd wr A xs)(ho:nf g r A xs):lW w0 wr g r B ((A,xs)::K):=
 ⟨h.wx,λ p hp=>by
   rcases eW.1 hp with e|hp
   ·rw[e];exact⟨hr,ho⟩
   ·exact h.kr p hp⟩
theorem lW.new {w0 wr w':World}{g:Nat}{r:Option Nat}{B:List Bool}{K:List (Option Addr×List Value)}(h:lW w0 wr g r B K)(hb:Below wr.heap.size wr w'){A:Option Addr}{xs:List Value}(hr:Rd w' A xs)(hf:∀ad,A=some ad->wr.heap.size<=ad.block):lW w0 w' g r B ((A,xs)::K):=
 (h.below hb).add hr (wm h.wx.at_ hf)
theorem lW.drop {w0 wr:World}{g:Nat}{r:Option Nat}{B:List Bool}{K:List (Option Addr×List Value)}{p:Option Addr×List Value}(h:lW w0 wr g r B (p::K)):lW w0 wr g r B K:=⟨h.wx,λ q hq=>h.kr q (Ew _ hq)⟩
theorem aq3 {w:World}{A A2:Option Addr}{n c c2:Nat}{ls:List Nat}(hn:ls.length=n)(h1:n<=c/\c<=maxLen)(h2:n<=c2/\c2<=maxLen)(hr:Rd w A (nv ls))(cH:Rd w A2 (nv (jq ls))):pX w (.slice A n c) (.slice A2 n c2) ls:=by
 subst hn;exact⟨⟨A,c,rfl,h1.1,h1.2,hr⟩,⟨A2,c2,rfl,h2.1,h2.2,cH⟩⟩
theorem aeb (ls:List Nat)(s:Nat):(bW ls s).length=ls.getD s 0:=wU _ _
theorem aec (lens:List Nat)(h7:∀x∈lens,x<=7):∀(l:List (Nat×Nat×Nat)),(∀r∈l,r.2.1<=7)->(l.flatMap (ia lens)).length<=14*l.length
 |[],_=>by simp
 |x::l,h=>by
  have h1:=aec lens h7 l λ r hr=>h r (Ew _ hr);have h2:=h x (s9)
  have h3:lens.getD x.1 0<=7:=by
   rw[a_]
   cases e:lens[x.1]? with
   |none=>simp
   |some y=>exact h7 y (du e)
  rw[wJ,ag,aU];have h4:(ia lens x).length=lens.getD x.1 0+x.2.1:=by unfold ia;rw[ag,fi,aeb]
  omega
def TU (s:List Nat)(l:List Tk)(w0:World)(g:Nat)(e:Ending)(w':World):Prop:=e= .returned (.tuple #[])/\∃r' lit aq lens sorted,Ha s l lit aq lens sorted/\WX w0 w' g r' (Ak true lit aq lens sorted++CY lit aq l)
theorem aq4 (s:List Nat)(l:List Tk)(n:Nat)(hT:gL s l s.length)(hn:l.length=n)(fk:n<=1000000)(A:Option Addr)(c g:Nat)(r:Option Nat)(w0 w:World)(hW:WX w0 w g r [])(ht:Rd w A (fm l))(ot:nf g r A (fm l)):
 Calls Tryz.prog 231 #[.pointer (some ⟨g,0,none⟩),.slice A n c,.bool true] w (TU s l w0 g):=by
 have bq:∀t∈l,∃m,wW t m:=λ t ht=>by
  obtain⟨k,hk⟩:=Ey ht;obtain⟨m,_,bq,_⟩:=hT.at k t hk;exact⟨m,bq⟩
 have mu:=ae (anj l n hn fk bq A c w ht);have HW:=ae hW;have HT:=ae (af ht ot);have my:=ae (af hT (af bq hn));clear hW ht ot hT bq hn;go_enter Tryz.func231,Tryz.ntmps231;go_wp2_with fail;(with_reducible refine mu.out.mono ?_);rintro e w1 ⟨ga,gb,rfl,hR⟩;obtain⟨F1,TV⟩:∃F,(l.foldl dK lR).1=F:=⟨_,rfl⟩;obtain⟨F2,ig⟩:∃F,(l.foldl dK lR).2=F:=⟨_,rfl⟩;have pZ:=aat l;have jW:=aau l;have TW:=hR.ra;have mv:=hR.rb;rw[TV]at TW pZ jW;rw[ig]at mv pZ jW;have xB:=ae (Tw F1 286 15 pZ.1 aa aa (G2 λ s _=>by have:=(jW s).1;rw[my.out.2.2]at this;omega) aa aa (b_ (TS F1 286 (by rw[pZ.1];exact ai _)) aA) (some ⟨ga,0,none⟩) 286 (ai _) aA w1 TW.rd);have D1:Hid (∀w',Below w1.heap.size w1 w'->Calls Tryz.prog 299 #[.slice (some ⟨gb,0,none⟩) 30 30,.int .i64 15] w' (adG F2 15 w')):=ae λ w' hb=>Tw F2 30 15 pZ.2 aa aa (G2 λ s _=>by have:=(jW s).2;rw[my.out.2.2]at this;omega) aa aa (b_ (TS F2 30 (by rw[pZ.2];exact ai _)) aA) (some ⟨gb,0,none⟩) 30 (ai _) aA w' (mv.aL hb).rd;have cD:=ae hR.bl;have TX:=ae (show l.foldl dK ((List.replicate 286 0).set 256 1,List.replicate 30 0)=(F1,F2)from by rw[<-TV,<-ig];rfl);clear hR TV ig pZ jW TW mv mu;go_wp2_with fail;(refine xB.out.mono ?_);rintro e w2 ⟨L1,A1,n1,c1,rfl,a1,a2,a3,a4,a5,a6,a7⟩;have Sx:=ae (show∀ad,A1=some ad->w.heap.size<=ad.block from λ ad h=>b_ cD.out.size (a6 ad h));have H2:=ae (af a1 (af a2 (af a3 (af a4 (af a5 (af (cD.out.trans (a7.mono cD.out.size)) a7))))));clear a1 a2 a3 a4 a5 a6 a7 xB;go_wp2_with fail;(refine(D1.out _ H2.out.2.2.2.2.2.2).mono ?_);rintro e w3 ⟨L2,A2,n2,c2,rfl,b1,b2,b3,b4,b5,b6,b7⟩;have sq:=ae (show∀ad,A2=some ad->w.heap.size<=ad.block from λ ad h=>b_ H2.out.2.2.2.2.2.1.size (b6 ad h));have H3:=ae (af (af H2.out.1 (af H2.out.2.1 (af H2.out.2.2.1 (af (H2.out.2.2.2.1.below b7) H2.out.2.2.2.2.1)))) (af (af b1 (af b2 (af b3 (af b4 b5)))) (H2.out.2.2.2.2.2.1.trans (b7.mono H2.out.2.2.2.2.2.1.size))));clear b1 b2 b3 b4 b5 b6 b7 D1 H2 cD
 have MX:n1<=286/\257<=n1:=by
  suffices h:n1=286 by omega
  rw[<-H3.out.1.1,H3.out.1.2.2.2.2.len];have:=Ls l ((List.replicate 286 0).set 256 1,List.replicate 30 0);rw[TX.out]at this;exact this.1.trans (by rw[iP,cA])
 have iR:n2<=30/\1<=n2:=by
  suffices h:n2=30 by omega
  rw[<-H3.out.2.1.1,H3.out.2.1.2.2.2.2.len];have:=Ls l ((List.replicate 286 0).set 256 1,List.replicate 30 0);rw[TX.out]at this;exact this.2.trans cA
 have xI:Hid (∀w',Below w3.heap.size w3 w'->Calls Tryz.prog 300 #[.slice A1 n1 c1,.int .i64 257] w' λ e bO=>∃m,e= .returned (.slice A1 m c1)/\m<=n1/\lK L1 257 (L1.take m)/\w'=bO):=ae λ w' hb=>RW L1 A1 n1 c1 257 H3.out.1.1 aa H3.out.1.2.1 H3.out.1.2.2.1 aa w' (H3.out.1.2.2.2.1.below hb);have jX:Hid (∀w',Below w3.heap.size w3 w'->Calls Tryz.prog 300 #[.slice A2 n2 c2,.int .i64 1] w' λ e bO=>∃m,e= .returned (.slice A2 m c2)/\m<=n2/\lK L2 1 (L2.take m)/\w'=bO):=ae λ w' hb=>RW L2 A2 n2 c2 1 H3.out.2.1.1 aa H3.out.2.1.2.1 H3.out.2.1.2.2.1 aa w' (H3.out.2.1.2.2.2.1.below hb);go_wp2_with fail;(with_reducible refine(xI.out _ (aB _ _)).mono ?_);rintro e w4 ⟨m1,rfl,iq,qW,rfl⟩;have Oq:=ae qW;clear qW xI;go_wp2_with fail;(with_reducible refine(jX.out _ (aB _ _)).mono ?_);rintro e w4 ⟨m2,rfl,rZ,jI,rfl⟩;have Ot:=ae jI;clear jI jX;obtain⟨lit,Ou⟩:∃x,L1.take m1=x:=⟨_,rfl⟩;obtain⟨aq,Ov⟩:∃x,L2.take m2=x:=⟨_,rfl⟩;have zc:lit.length=m1:=by rw[<-Ou,ba,H3.out.1.1];omega
 have kM:aq.length=m2:=by rw[<-Ov,ba,H3.out.2.1.1];omega
 have mT:Rd w3 A1 (nv lit):=by rw[<-Ou];exact ad9 H3.out.1.2.2.2.1 m1
 have bY:Rd w3 A2 (nv aq):=by rw[<-Ov];exact ad9 H3.out.2.1.2.2.2.1 m2
 rw[Ou]at Oq;rw[Ov]at Ot;have amH:257<=m1:=by rw[<-zc];exact Oq.out.len.1
 have av8:1<=m2:=by rw[<-kM];exact Ot.out.len.1
 have cR:m1<=c1:=by have:=H3.out.1.2.1;omega
 have bT:m2<=c2:=by have:=H3.out.2.1.2.1;omega
 have cu:=(aB w3.heap.size w3).alloc (ai _) (.cells #[.slice A1 m1 c1,.slice A2 m2 c2] 79)
 have aed:Hid (Calls Tryz.prog 150 #[.slice (some ⟨w3.heap.size,0,none⟩) 2 2] (w3.alloc (.cells #[.slice A1 m1 c1,.slice A2 m2 c2] 79)) λ e w'=>∃A c,e= .returned (.slice A (m1+m2) c)/\m1+m2<=c/\c<=maxLen/\Rd w' A (nv (lit++aq))/\Below w3.heap.size w3 w'):=ae (by
  have h:=Sr [.slice A1 m1 c1,.slice A2 m2 c2] [lit,aq] (lit++aq) (m1+m2) 2 rfl aa aj (by rw[ag,zc,kM]) aa aa (some ⟨w3.heap.size,0,none⟩) 2 (w3.alloc (.cells #[.slice A1 m1 c1,.slice A2 m2 c2] 79)) ⟨⟨A1,c1,by rw[zc],by rw[zc];exact cR,H3.out.1.2.2.1,mT.below cu⟩,⟨A2,c2,by rw[kM],by rw[kM];exact bT,H3.out.2.1.2.2.1,bY.below cu⟩,trivial⟩ (ud (Bk.new w3 79 #[.slice A1 m1 c1,.slice A2 m2 c2]))
  exact h.mono λ e w' ⟨A,c,e1,e2,e3,e4,_,e6⟩=>⟨A,c,e1,e2,e3,e4,cu.trans (e6.mono aj)⟩)
 have ja:=ae (af (af zc (af mT (af cR H3.out.1.2.2.1))) (af (af kM (af bY (af bT H3.out.2.1.2.2.1))) (af H3.out.1.2.2.2.2 (af H3.out.2.1.2.2.2.2 H3.out.2.2))));have av9:m1+m2<=316:=aa;clear Ou Ov zc kM mT bY cR bT cu H3 iq rZ MX iR;go_wp2_with fail;(refine aed.out.mono ?_);rintro e w5 ⟨A5,c5,rfl,DP,DQ,jo,bE⟩;have aee:=ja.out.2.2.2.2.trans (bE.mono ja.out.2.2.2.2.size)
 have lV:Hid (lW w0 w5 g r [] [(A2,nv aq),(A1,nv lit),(A,fm l)]):=ae
  ((((lW.mk HW.out (K:=[(A,fm l)]) (λ p hp=>by cases pA.1 hp;exact⟨HT.out.1,HT.out.2⟩)).below aee).add (ja.out.1.2.1.below bE) (wm HW.out.at_ Sx.out)).add (ja.out.2.1.2.1.below bE) (wm HW.out.at_ sq.out))
 have kB:∀x∈lit++aq,x<16:=λ x hx=>by
  rcases fE.1 hx with h|h
  ·have:=(Oq.out.good ja.out.2.2.1.good).le x h;omega
  ·have:=(Ot.out.good ja.out.2.2.2.1.good).le x h;omega
 have awa:=ae kB;have AU:=ae (ant (lit++aq) (m1+m2) (by rw[ag,ja.out.1.1,ja.out.2.1.1]) aa kB A5 c5 DP (by unfold maxLen at DQ;omega) w5 jo);have mI:=ae (af ja.out.1.1 (af ja.out.2.1.1 (af ja.out.1.2.2 (af ja.out.2.1.2.2 (af ja.out.2.2.1 ja.out.2.2.2.1)))));obtain⟨D,hD⟩:∃D,eK (lit++aq)=D:=⟨_,rfl⟩;rw[hD]at AU;have HD:=ae hD
 have Ow:=ae (show∀r∈D,r.1<19/\r.2.2<2^r.2.1/\r.2.1<=7 from λ r hr=>by
  have h:=Lk _ kB r (by rw[hD];exact hr);refine⟨h.1,h.2.1,?_⟩;have h1:=h.1;rcases gx r.1 16 with h2|h2
  ·have:=h.2.2.1 h2;omega
  ·rcases(show r.1=16∨r.1=17∨r.1=18 by omega)with h3|h3|h3
   ·have:=h.2.2.2.1 h3;omega
   ·have:=h.2.2.2.2.1 h3;omega
   ·have:=h.2.2.2.2.2 h3;omega)
 have iX:Hid (D.length<=1000):=ae (by have:=aea (lit++aq);rw[hD,ag,mI.out.1,mI.out.2.1]at this;omega);clear aee kB hD DP DQ jo bE ja aed HW HT Sx sq;go_wp2_with fail;(with_reducible refine AU.out.mono ?_);rintro e w6 ⟨A6,c6,rfl,TY,aef,nU,aeg,b9⟩;obtain⟨z,hz⟩:∃z,D.length=z:=⟨_,rfl⟩;have ui:=ae (lV.out.new b9 nU aeg);have aq5:=iX.out;rw[hz]at TY aq5;have HZ:=ae hz;have awb:=ae (af TY aef);have Ad:(Value.slice A6 D.length c6)=Value.slice A6 z c6:=by rw[hz]
 rw[Ad];clear Ad hz nU aeg b9 lV AU iX TY aef;have iq:=run_make_row' (P:=Tryz.prog) 79 3 (.int .i64 0) 8 Tryz.underlying79 xF rfl .i64 .i64 19 aa aa;have RX:∀w:World,(Instr.makeSlice 79 (.int .i64 19) (.int .i64 19)).run Tryz.prog w= .ok (.slice (some ⟨w.heap.size,0,none⟩) 19 19) (w.alloc (.cells (madeCells #[.int .i64 0] 19) 3)):=iq;have aeh:=ae (af (dF.made w6 19) ((aB _ w6).alloc (ai _) (.cells (madeCells #[.int .i64 0] 19) 3)));clear iq;go_wp2_with fail;generalize aei:w6.heap.size=q at*;generalize w6.alloc (.cells (madeCells #[.int .i64 0] 19) 3)=w7 at*;have Ox:=ae aei;clear RX aei;go_loopw [53] (λ vi wr=>∃i:Nat,vi= .int .i64 (i:Nat)/\i<=z/\Hid (dF wr q (jk D i)/\Below q w6 wr)) (λ vi _=>z-vnat vi)
 case atStart=>exact⟨0,rfl,aa,aeh⟩
 case round=>
  clear aeh;obtain⟨i,rfl,hi,HX⟩:=hrel;by_cases ao:(i:Int)<(z:Int)
  ·obtain⟨x,xX⟩:∃x,D[i]? =some x:=⟨_,aZ (by rw[HZ.out];omega)⟩;obtain⟨b,o,rfl,qX,q1,q2,q3⟩:=((ui.out.below (Ox.out▸HX.out.2)).kr (A6,gR D) aj).1.run xX;have BB:=(Ow.out x (du xX)).1;have aej:=LH D x.1 i;have uc:=Aq D i;have cm:=ae (G' xX);obtain⟨x1,x2,x3⟩:=x;simp only at q1 q2 q3 BB aej;have dC:=Bk.new wr 411 #[.int .i64 (x1:Nat),.int .i64 (x2:Nat),.int .i64 (x3:Nat)];have gF:Below wr.heap.size wr (wr.alloc (.cells #[.int .i64 (x1:Nat),.int .i64 (x2:Nat),.int .i64 (x3:Nat)] 411)):=(aB _ wr).alloc (ai _) _;have gQ:=ae (af (HX.out.1.aL gF) (HX.out.2.trans (gF.mono (by have:=HX.out.2.size;have:=Ox.out;omega))));clear xX;go_upto_region 9 with fail;have c0:=dC.cell_ 0 _ rfl;clear gF dC q1 q2 q3 HX;generalize wr.alloc (.cells #[.int .i64 (x1:Nat),.int .i64 (x2:Nat),.int .i64 (x3:Nat)] 411)=wa at*;generalize wr.heap.size=bx at*;have e0:=gQ.out.1.cell x1 (by rw[uc];omega);have f0:=gQ.out.1.frozen x1;obtain⟨y,hy⟩:∃y,(jk D i).getD x1 0=y:=⟨_,rfl⟩;rw[hy]at e0 aej;have aq6:(x1:Int)<19:=aa;have HY:=ae hy;clear hy;go_wp2_with fail;refine⟨⟨i+1,by first|rfl|go_num,aa,ae ⟨?_,gQ.out.2.setCell (p:=⟨q,x1,none⟩) (ai _) _⟩⟩,by simp[vnat];omega⟩;rw[cm.out];unfold bump;simp only;rw[HY.out];exact gQ.out.1.aP x1 (y+1)
  ·obtain rfl:i=z:=aa;have aek:=ae (ui.out.below (Ox.out▸HX.out.2));have mH:=ae (Tw (jk D i) 19 7 (Aq D i) aa aa (G2 λ s _=>by have:=LH D s i;omega) aa aa (b_ (TS _ 19 (by rw[Aq];exact ai _)) aA) (some ⟨q,0,none⟩) 19 (ai _) aA wr HX.out.1.rd);clear HX ui Ox;go_wp2_with fail;(refine mH.out.mono ?_);rintro e w8 ⟨lens,A7,n7,c7,rfl,a1,a2,a3,a4,a5,a6,a7⟩;obtain rfl:n7=19:=by rw[<-a1,a5.len,Aq]
   have ael:=ae (aek.out.new a7 a4 a6);have gj:=ae (af a1 (af a2 (af a3 a5)));clear a1 a2 a3 a4 a5 a6 a7 mH aek;have aq7:=ae (af I3 aar);have aem:Hid (Calls Tryz.prog 302 #[] w8 λ e w'=>e= .returned (.agg pd)/\Below w8.heap.size w8 w'):=ae (anh w8);generalize pd=C at*;go_wp2_with fail;(with_reducible refine aem.out.mono ?_);rintro e w9 ⟨rfl,Ce⟩;have TZ:=ae (ael.out.below Ce);clear Ce ael aem;go_wp2_with fail;obtain⟨S,hS⟩:∃S,(ie.map λ s=>lens.getD s 0)=S:=⟨_,rfl⟩;have Oy:S.length=19:=by rw[<-hS,eG];rfl
   have dt:=ae (af hS Oy);clear hS Oy;go_loopw [18,71] (λ zw vi wr=>∃k:Nat,vi= .int .i64 (k:Nat)/\k<=19/\Hid (wr.ownsRow w9.heap.size 3 1 zw k (nv (S.take k))/\Below w9.heap.size w9 wr)) (λ _ vi _=>19-vnat vi)
   case atStart=>exact⟨0,rfl,aa,ae ⟨jD _ _ _ _,aB _ _⟩⟩
   case round=>
    obtain⟨wq,rfl⟩:∃wq,wq=wr:=⟨_,rfl⟩;obtain⟨k,rfl,hk,HO⟩:=hrel;by_cases FT:(k:Int)<19
    ·have Oz:k<19:=aa;obtain⟨x,hx⟩:∃x,ie.getD k 0=x:=⟨_,rfl⟩
     have BB:x<19:=by
      have:∀k<19,ie.getD k 0<19:=aA;rw[<-hx];exact this k Oz
     have T0:=aq7.out.2 k Oz;rw[hx]at T0;have Dp:∀w',(Instr.index 246 (.agg C) (.int .i64 (k:Int))).run Tryz.prog w'= .ok (.int .i64 (x:Nat)) w':=λ w'=>QX 246 3 19 C k _ w' Tryz.underlying246 ah ah ah Oz T0;obtain⟨b,o,rfl,j7⟩:=((TZ.out.below HO.out.2).kr (A7,nv lens) aj).1.num (i:=x) (by rw[gj.out.1];exact BB);obtain⟨y,hy⟩:∃y,lens.getD x 0=y:=⟨_,rfl⟩;rw[hy]at j7
     have zm:Hid (nv (S.take (k+1))=nv (S.take k)++[.int .i64 (y:Nat)]):=ae (by
      have e:S[k]? =some y:=by
       rw[<-dt.out.1,eH]
       have e2:ie[k]? =some x:=by
        rw[<-hx,a_];have:k<ie.length:=Oz;rw[aZ this];rfl
       rw[e2,Option.map_some,hy]
      rw[eu,e]
      unfold nv
      rw[ka];rfl)
     have aq6:(x:Int)<19:=aa;clear hx T0 hy;go_wp2_with (at_builtin;go_must (refine abn _ rfl (.tmp 74) (.tmp 79) 79 rfl w9.heap.size yW _ k (nv (S.take k)) HO.out.1 rfl y rfl (by unfold maxLen;omega) aa HO.out.2.size ?_);intro A' c' w' xK oV);go_roundw
     case rel=>exact⟨k+1,by first|rfl|go_num,aa,ae ⟨by rw[zm.out];exact xK,HO.out.2.trans oV⟩⟩
     case measure=>simp[vnat];omega
    ·obtain rfl:k=19:=aa;have hR:=rX.own HO.out.1 HO.out.2 (ai _);obtain⟨A8,c8,e8,T7,T8,OA,aen,aeo⟩:=hR;have aq8:_=Value.slice A8 19 c8:=Ending.returned.inj e8;subst aq8;rw[bQ (by rw[dt.out.2];exact ai _)]at OA;have T9:=ae (TZ.out.new aeo OA aen);have aep:=ae (show Calls Tryz.prog 300 #[.slice A8 19 c8,.int .i64 4] wq (λ e bO=>∃m,e= .returned (.slice A8 m c8)/\m<=19/\lK S 4 (S.take m)/\wq=bO)from RW S A8 19 c8 4 dt.out.2 aa T7 T8 aa wq OA);have R4:=ae (af T7 T8);clear e8 T7 T8 OA aen aeo HO TZ;go_wp2_with fail;(with_reducible refine aep.out.mono ?_);rintro e qd ⟨m8,rfl,wV,nt,rfl⟩;have aeq:=ae nt;clear nt aep;go_wp2_with fail;have jJ:(S.take m8).length=m8:=by rw[ba,dt.out.2];omega
     have awc:4<=m8:=by rw[<-jJ];exact aeq.out.len.1
     obtain⟨a1,NG⟩:∃a,m1-256=a:=⟨_,rfl⟩;obtain⟨p1,cN⟩:∃a,m1-257=a:=⟨_,rfl⟩;obtain⟨p2,dV⟩:∃a,m2-1=a:=⟨_,rfl⟩;obtain⟨p3,mQ⟩:∃a,m8-4=a:=⟨_,rfl⟩;have v1:(m1:Int)-256=(a1:Int):=aa;have v2:(a1:Int)-1=(p1:Int):=aa;have v3:(m2:Int)-1=(p2:Int):=aa;have v4:(m8:Int)-4=(p3:Int):=aa;obtain⟨B1,ku⟩:∃B,[]++(aH (ca true) 1++aH 2 2)=B:=⟨_,rfl⟩;obtain⟨B2,cC⟩:∃B,B1++aH p1 5=B:=⟨_,rfl⟩;obtain⟨B3,bF⟩:∃B,B2++aH p2 5=B:=⟨_,rfl⟩;obtain⟨B4,eZ⟩:∃B,B3++aH p3 4=B:=⟨_,rfl⟩;have lL:B1.length=3:=by rw[<-ku];simp only[ag,fi,cL]
     have cI:B2.length=8:=by rw[<-cC,ag,fi,lL]
     have lp:B3.length=13:=by rw[<-bF,ag,fi,cI]
     have xl:B4.length=17:=by rw[<-eZ,ag,fi,lp]
     have aer:Hid (B4=aH (ca true) 1++(aH 2 2++(aH (lit.length-257) 5++(aH (aq.length-1) 5++aH ((S.take m8).length-4) 4)))):=ae (by
      rw[<-eZ,<-bF,<-cC,<-ku,mI.out.1,mI.out.2.1,jJ,cN,dV,mQ]
      simp only[aN,List.nil_append])
     have HH:=ae (show Calls Tryz.prog 163 #[.pointer (some ⟨g,0,none⟩),.bool true,.int .i64 2] wq (ir wq g r B1)from ku▸RI true 2 g aa r [] wq T9.out.wx.at_ aj);(with_reducible refine HH.out.mono ?_);intro e J_ he;obtain⟨rfl,r1,hS⟩:=T9.out.put he;have T_:=ae hS;clear he hS HH T9;have vu:=ae (show Calls Tryz.prog 165 #[.pointer (some ⟨g,0,none⟩),.int .i64 (p1:Nat),.int .i64 5] J_ (ir J_ g r1 B2)from cC▸vt p1 5 aa g r1 B1 J_ T_.out.wx.at_ (by rw[lL];omega));go_wp2_with fail;(with_reducible refine vu.out.mono ?_);intro e nz he;obtain⟨rfl,r2,hS⟩:=T_.out.put he;have Ua:=ae hS;clear he hS vu T_;have xL:=ae (show Calls Tryz.prog 165 #[.pointer (some ⟨g,0,none⟩),.int .i64 (p2:Nat),.int .i64 5] nz (ir nz g r2 B3)from bF▸vt p2 5 aa g r2 B2 nz Ua.out.wx.at_ (by rw[cI];omega));go_wp2_with fail;(with_reducible refine xL.out.mono ?_);intro e Ka he;obtain⟨rfl,r3,hS⟩:=Ua.out.put he;have Ub:=ae hS;clear he hS xL Ua;have xx:=ae (show Calls Tryz.prog 165 #[.pointer (some ⟨g,0,none⟩),.int .i64 (p3:Nat),.int .i64 4] Ka (ir Ka g r3 B4)from eZ▸vt p3 4 aa g r3 B3 Ka Ub.out.wx.at_ (by rw[lp];omega));go_wp2_with fail;(with_reducible refine xx.out.mono ?_);intro e Uc he;obtain⟨rfl,r4,hS⟩:=Ub.out.put he;have aes:=ae hS;clear he hS xx Ub;have aet:=ae xl;have kD:=ae jJ;clear ku cC bF eZ lL cI lp xl NG cN dV mQ v1 v2 v3 v4 jJ;go_wp2_with fail;go_loopw [105] (λ vi wr=>∃(k:Nat) (r':Option Nat),vi= .int .i64 (k:Nat)/\k<=m8/\Hid (lW w0 wr g r' (B4++((S.take m8).take k).flatMap λ n=>aH n 3) [(A8,nv S),(A7,nv lens),(A6,gR D),(A2,nv aq),(A1,nv lit),(A,fm l)])) (λ vi _=>m8-vnat vi)
     case atStart=>exact⟨0,r4,rfl,aa,ae (by rw[mM,List.flatMap_nil,bV];exact aes.out)⟩
     case round=>
      clear aes;obtain⟨ws,rfl⟩:∃ws,ws=wr:=⟨_,rfl⟩;obtain⟨k,r',rfl,hk,HX⟩:=hrel;by_cases FT:(k:Int)<(m8:Int)
      ·obtain⟨b,o,rfl,j7⟩:=(HX.out.kr (A8,nv S) aj).1.num (i:=k) (by rw[dt.out.2];omega);obtain⟨y,hy⟩:∃y,S.getD k 0=y:=⟨_,rfl⟩;rw[hy]at j7
       have zm:Hid ((((S.take m8).take (k+1)).flatMap λ n=>aH n 3)=(((S.take m8).take k).flatMap λ n=>aH n 3)++aH y 3):=ae (by
        have e:(S.take m8)[k]? =some y:=by
         rw[mL,if_pos aa,<-hy,a_,aZ (by rw[dt.out.2];omega)];rfl
        rw[eu,e,Cz]
        simp)
       have rH:=ae (show Calls Tryz.prog 165 #[.pointer (some ⟨g,0,none⟩),.int .i64 (y:Nat),.int .i64 3] ws (ir ws g r' ((B4++((S.take m8).take k).flatMap λ n=>aH n 3)++aH y 3))from vt y 3 aa g r' _ ws HX.out.wx.at_ (by rw[ag,TT,aet.out,ba,kD.out];omega));clear hy;go_wp2_with fail;(with_reducible refine rH.out.mono ?_);intro e aeu he;obtain⟨rfl,r5,hS⟩:=HX.out.put he;rw[aN,<-zm.out]at hS;have aq9:=ae hS;clear he hS rH HX j7 zm;go_wp2_with fail;go_roundw
       case rel=>exact⟨k+1,r5,by first|rfl|go_num,aa,aq9⟩
       case measure=>simp[vnat];omega
      ·obtain rfl:k=m8:=aa;have hX:=HX.out;rw[bQ (by rw[kD.out];exact ai _)]at hX;have Ud:=ae hX;clear hX HX;go_wp2_with fail;have oG:Hid (Ha s l lit aq lens (S.take k)):=ae (ahM my.out.1 TX.out mI.out.2.2.2.2.1 mI.out.2.2.2.2.2 Oq.out Ot.out (by rw[HD.out,HZ.out];exact gj.out.2.2.2) (by rw[dt.out.1];exact aeq.out));have aev:=ae (IY lens A7 19 c7 gj.out.1 aa oG.out.gn gj.out.2.1 gj.out.2.2.1 ws (Ud.out.kr (A7,nv lens) aj).1);(with_reducible refine aev.out.mono ?_);rintro e Kb ⟨vc,rfl,rG,aew,eh⟩;obtain⟨A9,c9,rfl,jT,fj,I5⟩:=rG.am4;have G_:=gj.out.1;rw[G_]at jT eh;have ara:=ae (af jT fj);have aex:=ae (Ud.out.new aew I5 (eh A9 19 c9 rfl));have aey:(Value.slice A9 lens.length c9)=Value.slice A9 19 c9:=by rw[G_]
       rw[aey];clear aey rG aew eh jT fj I5 G_ aev Ud;have Ue:=ae (aex.out.new ((aB _ Kb).alloc (ai _) (.cells #[.slice A7 19 c7,.slice A9 19 c9] 335)) (A:=some ⟨Kb.heap.size,0,none⟩) (xs:=[.slice A7 19 c7,.slice A9 19 c9]) (ud (Bk.new Kb 335 #[.slice A7 19 c7,.slice A9 19 c9])) (λ ad h=>by cases h;exact ai _));go_wp2_with fail;generalize Kb.heap.size=q9 at*;generalize Kb.alloc (.cells #[.slice A7 19 c7,.slice A9 19 c9] 335)=awd at*;clear aex;obtain⟨B5,dw⟩:∃B,B4++((S.take k).flatMap λ n=>aH n 3)=B:=⟨_,rfl⟩;have mq:=ae dw;have sR:=ae (show B5.length<=100 by rw[<-dw,ag,TT,aet.out,kD.out];omega);rw[dw]at Ue;clear dw;go_loopw [117] (λ vi wr=>∃(j:Nat) (r':Option Nat),vi= .int .i64 (j:Nat)/\j<=i/\Hid (lW w0 wr g r' (B5++(D.take j).flatMap (ia lens)) [(some ⟨q9,0,none⟩,[.slice A7 19 c7,.slice A9 19 c9]),(A9,nv (jq lens)),(A8,nv S),(A7,nv lens),(A6,gR D),(A2,nv aq),(A1,nv lit),(A,fm l)])) (λ vi _=>i-vnat vi)
       case atStart=>exact⟨0,_,rfl,aa,ae (by rw[mM,List.flatMap_nil,bV];exact Ue.out)⟩
       case round=>
        clear Ue;obtain⟨wt,rfl⟩:∃wt,wt=wr:=⟨_,rfl⟩;obtain⟨j,r',rfl,hj,HX⟩:=hrel
        have FH:=ae (show(B5++(D.take j).flatMap (ia lens)).length<=20000 by
         have h1:=aec lens oG.out.n7 (D.take j) λ r hr=>(Ow.out r (s6 hr)).2.2;have h2:=sR.out;rw[ba,HZ.out]at h1;rw[ag];omega)
        by_cases X6:(j:Int)<(i:Int)
        ·obtain⟨x,xX⟩:∃x,D[j]? =some x:=⟨_,aZ (by rw[HZ.out];omega)⟩;obtain⟨b,o,rfl,qX,q1,q2,q3⟩:=(HX.out.kr (A6,gR D) aj).1.run xX;have ng:=du xX;have BB:=(Ow.out x ng).1;have Fm:=(Ow.out x ng).2.2;have MR:=oG.out.run x (by rw[HD.out];exact ng);have cm:=ae (show(D.take (j+1)).flatMap (ia lens)=(D.take j).flatMap (ia lens)++ia lens x by rw[eu,xX,Cz];simp);obtain⟨x1,x2,x3⟩:=x;simp only at q1 q2 q3 BB Fm MR;have arb:=ae (show ia lens (x1,x2,x3)=bW lens x1++aH x3 x2 from rfl);have fW:=ae MR;have gQ:=ae (HX.out.new ((aB _ wt).alloc (ai _) (.cells #[.int .i64 (x1:Nat),.int .i64 (x2:Nat),.int .i64 (x3:Nat)] 411)) (A:=some ⟨wt.heap.size,0,none⟩) (xs:=[.int .i64 (x1:Nat),.int .i64 (x2:Nat),.int .i64 (x3:Nat)]) (ud (Bk.new wt 411 #[.int .i64 (x1:Nat),.int .i64 (x2:Nat),.int .i64 (x3:Nat)])) (λ ad h=>by cases h;exact ai _));clear xX ng MR;go_upto_region 32 with fail;clear q1 q2 q3 HX;generalize wt.alloc (.cells #[.int .i64 (x1:Nat),.int .i64 (x2:Nat),.int .i64 (x3:Nat)] 411)=wa at*;generalize wt.heap.size=bx at*;obtain⟨_,_,e9,zx⟩:=(gQ.out.kr (some ⟨q9,0,none⟩,[.slice A7 19 c7,.slice A9 19 c9]) aj).1 aj
         cases e9
         have z0:wa.cell? ⟨q9,0,none⟩=some (.slice A7 19 c7):=zx 0 _ rfl;have z1:wa.cell? ⟨q9,1,none⟩=some (.slice A9 19 c9):=zx 1 _ rfl;obtain⟨_,_,e9,zx⟩:=(gQ.out.kr (some ⟨bx,0,none⟩,[.int .i64 (x1:Nat),.int .i64 (x2:Nat),.int .i64 (x3:Nat)]) aj).1 aj
         cases e9
         have y0:wa.cell? ⟨bx,0,none⟩=some (.int .i64 (x1:Nat)):=zx 0 _ rfl;have rH:=ae (show Calls Tryz.prog 294 #[.agg #[.slice A7 19 c7,.slice A9 19 c9],.pointer (some ⟨g,0,none⟩),.int .i64 (x1:Nat)] wa (ir wa g r' ((B5++(D.take j).flatMap (ia lens))++bW lens x1))from Nc lens oG.out.gn x1 g (by rw[gj.out.1];exact BB) fW.out _ _ r' _ wa (aq3 gj.out.1 ⟨gj.out.2.1,gj.out.2.2.1⟩ ara.out (gQ.out.kr (A7,nv lens) aj).1 (gQ.out.kr (A9,nv (jq lens)) aj).1) gQ.out.wx.at_ (by have:=FH.out;omega));clear zx;go_wp2_with fail;(with_reducible refine rH.out.mono ?_);intro e wb he;obtain⟨rfl,r6,hS⟩:=gQ.out.put he;have OB:=ae hS;clear he hS rH gQ z0 z1 y0;obtain⟨_,_,e9,zx⟩:=(OB.out.kr (some ⟨bx,0,none⟩,[.int .i64 (x1:Nat),.int .i64 (x2:Nat),.int .i64 (x3:Nat)]) aj).1 aj
         cases e9
         have y1:wb.cell? ⟨bx,1,none⟩=some (.int .i64 (x2:Nat)):=zx 1 _ rfl;have y2:wb.cell? ⟨bx,2,none⟩=some (.int .i64 (x3:Nat)):=zx 2 _ rfl
         have rH:=ae (show Calls Tryz.prog 165 #[.pointer (some ⟨g,0,none⟩),.int .i64 (x3:Nat),.int .i64 (x2:Nat)] wb (ir wb g r6 (((B5++(D.take j).flatMap (ia lens))++bW lens x1)++aH x3 x2))from vt x3 x2 aa g r6 _ wb OB.out.wx.at_ (by
          have h1:=FH.out
          have h2:lens.getD x1 0<=15:=oG.out.gn.le _ (by rw[a_,aZ (by rw[gj.out.1];exact BB)];exact mN _)
          rw[ag,aeb]
          omega))
         clear zx;go_wp2_with fail;(with_reducible refine rH.out.mono ?_);intro e wd he;obtain⟨rfl,r7,hS⟩:=OB.out.put he;rw[aN (B5++_),<-arb.out,aN,<-cm.out]at hS;have arc:=ae hS.drop;clear he hS rH OB y1 y2;go_wp2_with fail;go_roundw
         case rel=>exact⟨j+1,r7,by first|rfl|go_num,aa,arc⟩
         case measure=>simp[vnat];omega
        ·obtain rfl:j=i:=aa
         have Gm:=ae (show lW w0 wt g r' (B5++D.flatMap (ia lens)) [(A8,nv S),(A7,nv lens),(A6,gR D),(A2,nv aq),(A1,nv lit),(A,fm l)]from by
          have h:=HX.out;rw[bQ (by rw[HZ.out];exact ai _)]at h;exact h.drop.drop)
         have Uf:=ae (show(B5++D.flatMap (ia lens)).length<=20000 by
          have h:=FH.out;rw[bQ (by rw[HZ.out];exact ai _)]at h;exact h)
         have uk:=ae (show B5++D.flatMap (ia lens)=Ak true lit aq lens (S.take k)by
          rw[<-mq.out,aer.out];unfold Ak;rw[HD.out];simp only[aN])
         obtain⟨B6,fL⟩:∃B,B5++D.flatMap (ia lens)=B:=⟨_,rfl⟩;rw[fL]at Gm Uf uk;have aez:=ae (IY lit A1 m1 c1 mI.out.1 aa oG.out.gl mI.out.2.2.1.1 mI.out.2.2.1.2 wt (Gm.out.kr (A1,nv lit) aj).1);clear fL HX FH mq aer;go_wp2_with fail;(with_reducible refine aez.out.mono ?_);rintro e wu ⟨vc,rfl,rG,au,eh⟩;have Kc:=ae (Gm.out.below au);have Gj:=ae (af rG (show xN g r' (.slice A1 m1 c1) vc lit from λ A n c=>⟨λ e=>by cases e;exact(Gm.out.kr (A1,nv lit) aj).2,λ e=>wm Gm.out.wx.at_ (eh A n c e)⟩));have aeA:=ae (IY aq A2 m2 c2 mI.out.2.1 aa oG.out.gd mI.out.2.2.2.1.1 mI.out.2.2.2.1.2 wu (Kc.out.kr (A2,nv aq) aj).1);clear rG au eh aez Gm;go_wp2_with fail;(with_reducible refine aeA.out.mono ?_);rintro e wv ⟨fV,rfl,rG,aC,eh⟩;have Kd:=ae (Kc.out.below aC);have kR:=ae (af (Gj.out.1.below aC) (af Gj.out.2 (af rG (show xN g r' (.slice A2 m2 c2) fV aq from λ A n c=>⟨λ e=>by cases e;exact(Kc.out.kr (A2,nv aq) aj).2,λ e=>wm Kc.out.wx.at_ (eh A n c e)⟩))))
         have J1:Hid (Calls Tryz.prog 229 #[.pointer (some ⟨g,0,none⟩),.slice A n c,.agg #[.slice A1 m1 c1,vc],.agg #[.slice A2 m2 c2,fV]] wv (ir wv g r' (B6++CY lit aq l))):=
          ae (aah lit aq oG.out.gl oG.out.gd l n my.out.2.2 my.out.2.1 oG.out.has oG.out.LI g r' B6 _ vc _ fV A c wv fk (by have:=Uf.out;omega) Kd.out.wx.at_ kR.out.1 kR.out.2.1 kR.out.2.2.1 kR.out.2.2.2 (Kd.out.kr (A,fm l) aj).1 (Kd.out.kr (A,fm l) aj).2)
         clear rG aC eh aeA Kc Gj kR;go_wp2_with fail;(with_reducible refine J1.out.mono ?_);intro e wz he;obtain⟨rfl,r9,hS⟩:=Kd.out.put he;rw[uk.out]at hS;have pU:Hid (TU s l w0 g (.returned (.tuple #[])) wz):=ae ⟨rfl,r9,lit,aq,lens,S.take k,oG.out,hS.wx⟩;clear hS he J1 Kd uk Uf;go_wp2_with fail;exact eX (eQ rfl _ _ _) rfl pU.out
theorem ard (s:List Nat)(l:List Tk)(n:Nat)(hT:gL s l s.length)(hn:l.length=n)(fk:n<=1000000)(A:Option Addr)(c g:Nat)(r:Option Nat)(w0 w:World)(hW:WX w0 w g r [])(ht:Rd w A (fm l))(ot:nf g r A (fm l)):
 Calls Tryz.prog 168 #[.pointer (some ⟨g,0,none⟩),.slice A n c,.int .i64 2,.bool true] w (TU s l w0 g):=by
 have HR:=ae (aq4 s l n hT hn fk A c g r w0 w hW ht ot);clear hT hn hW ht ot;go_enter Tryz.func168,Tryz.ntmps168;go_wp2_with fail;(with_reducible refine HR.out.mono ?_);intro e w1 he;have H:=ae he;obtain⟨rfl,_⟩:=he;clear HR;go_wp2_with fail;exact eX (eQ rfl _ _ _) rfl H.out
theorem arf (s:ByteArray)(hs:s.size<=1000000)(w:World):Calls Tryz.prog 109 #[.string s] w (N7 s w):=by
 have xM:=ae (WX.new w);go_enter Tryz.func109,Tryz.ntmps109;go_upto_region 2 with fail;generalize w.alloc (.cells #[.slice none 0 0,.int .i64 0] 254)=w0 at*;generalize hg:w.heap.size=g at*;have FO:=ae hg;clear hg;go_wp2_with fail;(with_reducible refine(parse_any s hs w0).mono ?_);rintro e w1 ⟨l,A,n,c,rfl,hl,tM,hT,bY,eh,au⟩;have HL:=ae hT;have mC:=ae (ard (c_ s) l n (by rw[o_];exact hT) hl aa A c g none w w1 (xM.out.below au) bY (wm xM.out.at_ eh));clear hl tM hT bY eh au xM;go_wp2_with fail;(with_reducible refine mC.out.mono ?_);rintro e w2 ⟨rfl,r2,lit,aq,lens,sorted,bq,dS⟩;have H2:=ae dS;have gE:=ae bq;clear dS bq mC;go_wp2_with fail;(with_reducible refine(Rp g r2 _ w2 H2.out.at_).mono ?_);rintro e w3 ⟨rfl,aO⟩;have dm:=ae (H2.out.bl.trans (aO.mono H2.out.bl.size));clear aO;go_wp2_with fail;go_ret;refine⟨_,gE.out.ahL (by rw[o_];exact HL.out),?_,dm.out⟩;rw[fY,Cv,fY,kK,bV];rfl
def arh (s:ByteArray)(w:World)(e:Ending)(w':World):Prop:=∃us:List (List Bool),sd (c_ s) us/\RM us.flatten w e w'/\(aX us.flatten).length<=s.size+5
def OC (s:ByteArray)(x:ByteArray):Prop:=∃us:List (List Bool),sd (c_ s) us/\x=av (aX us.flatten)/\x.size<=s.size+5
theorem ari (s:ByteArray)(hs:s.size<=65535)(w:World):Calls Tryz.prog 58 #[.string s] w (arh s w):=by
 have jP:=ae (am8 s hs w);have iM:Hid (∀w',Calls Tryz.prog 108 #[.string s] w' (N7 s w')):=ae λ w'=>aqk s aa w';have oD:Hid (∀w',Calls Tryz.prog 109 #[.string s] w' (N7 s w')):=ae λ w'=>arf s aa w';have aeB:=ae (sd.stored (s:=c_ s) (by rw[o_];exact hs));go_enter Tryz.func58,Tryz.ntmps58;go_wp2_with fail;(with_reducible refine jP.out.mono ?_);rintro e w1 ⟨rfl,au⟩
 have jZ:Hid (OC s (av (aX (nM (c_ s))))):=ae ⟨[nM (c_ s)],aeB.out,by rw[fY,kK,bV],by
  rw[cV,Du]
  have h:(nM (c_ s)).length=40+8*s.size:=by
   unfold nM;simp only[ag,fi,cA,uG,o_];omega
  omega⟩
 have cD:=ae au;clear au jP aeB;generalize av (aX (nM (c_ s)))=x0 at*;go_wp2_with fail;(with_reducible refine(iM.out _).mono ?_);rintro e w2 ⟨aeC,cN,rfl,aC⟩;obtain⟨x1,mG⟩:∃x,av (aX aeC.flatten)=x:=⟨_,rfl⟩;have I7:=ae (af cN mG);have bG:=ae (cD.out.trans (aC.mono cD.out.size));rw[mG];clear cN mG aC cD iM;go_wp2_with fail;(with_reducible refine(oD.out _).mono ?_);rintro e w3 ⟨aeD,dV,rfl,aO⟩;obtain⟨x2,ff⟩:∃x,av (aX aeD.flatten)=x:=⟨_,rfl⟩;have gm:=ae (af dV ff);have dm:=ae (bG.out.trans (aO.mono bG.out.size));rw[ff];clear dV ff aO bG oD;go_wp2_with fail;have dC:=Bk.new w3 9 #[.string x1,.string x2];have c0:=dC.cell_ 0 _ rfl;have c1:=dC.cell_ 1 _ rfl;have cU:=ae (dm.out.alloc dm.out.size (.cells #[.string x1,.string x2] 9));clear dC dm;generalize w3.alloc (.cells #[.string x1,.string x2] 9)=w4 at*;generalize w3.heap.size=q at*
 have N4:Hid (∀x y:ByteArray,(x=x1∨x=x2)->OC s y->x.size<y.size->OC s x):=ae λ x y hx hy ao=>by
  obtain⟨us,_,_,h⟩:=hy;rcases hx with rfl|rfl
  ·exact⟨aeC,I7.out.1,I7.out.2.symm,aa⟩
  ·exact⟨aeD,gm.out.1,gm.out.2.symm,aa⟩
 go_loop [3,14] (λ v3 vi=>∃(k:Nat) (y:ByteArray),v3= .string y/\vi= .int .i64 (k:Nat)/\k<=2/\Hid (OC s y)) (λ _ vi=>2-vnat vi)
 case atStart=>exact⟨0,x0,rfl,rfl,aa,jZ⟩
 case round=>
  obtain⟨k,y,rfl,rfl,hk,HY⟩:=hrel;by_cases bI:k=2
  ·subst bI;go_wp2_with fail;go_ret;obtain⟨us,h1,h2,h3⟩:=HY.out;subst h2;exact⟨us,h1,⟨rfl,cU.out⟩,by rw[<-cV];exact h3⟩
  ·have sD:∃x,w4.cell? ⟨q,k,none⟩=some (.string x)/\(x=x1∨x=x2):=by
    rcases(show k=0∨k=1 by omega)with rfl|rfl
    ·exact⟨x1,c0,.inl rfl⟩
    ·exact⟨x2,c1,.inr rfl⟩
   obtain⟨x,j7,Bw⟩:=sD;have gG:=ae Bw;have mh:(k:Int)<2:=aa;clear Bw c0 c1;by_cases ao:(x.size:Int)<(y.size:Int)
   ·have HN:=ae (N4.out x y gG.out HY.out aa);go_wp2_with fail;go_round
    case rel=>exact⟨k+1,x,rfl,by first|rfl|go_num,aa,HN⟩
    case measure=>simp[vnat];omega
   ·go_wp2_with fail;go_round
    case rel=>exact⟨k+1,y,rfl,by first|rfl|go_num,aa,HY⟩
    case measure=>simp[vnat];omega
