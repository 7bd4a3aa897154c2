import Derived.Test.YtajokjbmpjjoiaaGreatDoorP18
import Derived.Test.YtajokjbmpjjoiaaGreatDoorP36
set_option maxRecDepth 20000
set_option maxHeartbeats 0
set_option linter.unusedSimpArgs false
set_option linter.unusedVariables false
namespace Go.Proofs.YtajokjbmpjjoiaaGreatDoor
section
open Go.RowKit
open So (aI aK aM)
open Cn (fl kQ xo tJ ay gS)
theorem Tq:El Tryz.prog 444 446 2 16:=El.kg (z:=.agg #[.int .i64 0,.bool false]) Tryz.underlying444 ah aa rfl
def aqo (l:List aT)(w:World)(e:Ending)(w':World):Prop:=∃v,e= .returned v/\w'.ownsRow w.heap.size 446 2 v l.length (fl l)/\Below w.heap.size w w'
theorem aqp (l:List aT)(A:Option Addr)(n c:Nat)(hn:l.length=n)(hl:n<=1000)(w:World)(hr:Rd w A (fl l)):
 Calls Tryz.prog 375 #[.slice A n c] w (aqo l w):=by
 have Hn:=ae hn;clear hn
 cases A with
 |none=>
  have h0:l=[]:=by
   rcases lC l with h|⟨a,b,h⟩
   ·exact h
   ·obtain⟨_,_,e,_⟩:=hr (by intro e;have:=kQ l;rw[e,h]at this;simp at this)
    cases e
  subst h0;obtain rfl:n=0:=Hn.out.symm;clear Hn;have FV:=λ w=>Go.Lib.run_eql_slice_nil (P:=Tryz.prog) w 444 446 none 0 c 0 0 Tryz.underlying444;go_enter Tryz.func375,Tryz.ntmps375;go_wp2_with fail;go_ret;exact⟨_,rfl,jD _ _ _ _,aB _ _⟩
 |some ad=>
  have FV:=λ w=>Go.Lib.run_eql_slice_nil (P:=Tryz.prog) w 444 446 (some ad) n c 0 0 Tryz.underlying444;have uc:=ae (show(fl l).length=n*2 by rw[kQ,Hn.out]);have hw:=(aB w.heap.size w).alloc (ai _) (.cells #[] 446);have ho:=World.ownsRow_lit (base:=w.heap.size) (e:=446) (size:=2) w #[] 0 (ai _) (by unfold maxLen;omega) rfl;have cH:=hr.below ((aB w.heap.size w).alloc (ai _) (.cells #[] 446));go_enter Tryz.func375,Tryz.ntmps375;go_wp2_with (at_builtin;go_must (refine qm _ rfl (.tmp 5) (.tmp 6) 444 rfl w.heap.size 446 2 16 Tq _ _ _ ho rfl _ _ _ _ cH uc.out rfl (xo l) (by unfold maxLen;omega) aa aj ?_);intro v1 w1 gg au;simp only[jd,List.nil_append]at gg;have HO:=ae gg;clear gg);go_ret;exact⟨_,rfl,by rw[Hn.out];exact HO.out,hw.trans au⟩
theorem aqq {X Z:List aT}(h:aK X Z){x:aT}(hx:x∈Z):x∈X:=by
 have h1:x∈Z.filter (λ y=>decide (y.1=x.1)):=pz.2 ⟨hx,aj⟩;rw[<-h x.1]at h1;exact(pz.1 h1).1
theorem adw {M:Nat}:∀(l:List aT),(∀c∈l,c.1<=M)->∀c∈eJ l,c.1<=2*M
 |[],_,c,hc=>by cases hc
 |[_],_,c,hc=>by cases hc
 |a::b::l,h,c,hc=>by
  rw[eJ]at hc;rcases eW.1 hc with rfl|hc
  ·have h1:=h a aj;have h2:=h b aj;show a.1+b.1<=_;omega
  ·exact adw l (λ x hx=>h x (by simp[hx])) c hc
theorem aqr:∀(l:List aT) (k:Nat) (a b:aT),l[2*k]? =some a->l[2*k+1]? =some b->(eJ l).take (k+1)=(eJ l).take k++[(a.1+b.1,true)]:=λ l k a b h1 h2=>by
 rw[eu,Py l k a b h1 h2];rfl
theorem Rd.Tr {w:World}{A:Option Addr}{l:List aT}(h:Rd w A (fl l)){i:Nat}{x:aT}(hx:l[i]? =some x):∃b o,A=some ⟨b,o,none⟩/\b<w.heap.size/\w.cell? ⟨b,o+i*2,none⟩=some (.int .i64 (x.1:Nat))/\w.cell? ⟨b,o+i*2+1,none⟩=some (.bool x.2):=by
 have h0:=Cn.Hq l i;have h1:=Cn.Hr l i;rw[hx]at h0 h1;obtain⟨b,o,e,hc⟩:=h (λ e=>by rw[e]at h0;cases h0);have q0:=hc _ _ h0;exact⟨b,o,e,cQ w _ q0,q0,hc _ _ h1⟩
theorem aqs (l:List aT)(k:Nat):fl (l.drop k)=(fl l).drop (k*2):=by
 conv=>rhs;rw[<-gI k l,tJ]
 rcases Nat.le_total k l.length with h|h
 ·rw[List.drop_left' (by rw[kQ,ba];omega)]
 ·rw[nD h];rw[nD (by rw[ag,kQ,ba];simp[fl];omega)];rfl
theorem aqt {P:Program}{ops:Array Oper}{o:Oper}{a:Act}{w:World}{K:Act->World->Prop}{Q:Exit->Act->World->Prop}{E:Prop}(d_:o.guard=none)(s x:Operand)(t:TypeId)
 (ho:o.op= .call {callee:=.builtin .append,args:=#[s,x],argTypes:=#[t,t]})
 (base:Nat)(e:TypeId)(size bytes:Nat)(jF:El P t e size bytes)(v:Value)(n:Nat)(xs:List Value)(aw:w.ownsRow base e size v n xs)(hs:a.eval s=v)(C:Array Value)(ad:Addr)
 (hx:a.eval x= .slice (some ad) 1 1)(eT:∀j u,C.toList[j]? =some u->w.cell? (ad.add j)=some u)(hC:C.size=size)(h1:∀u∈C.toList,u.oneCell'=true)
 (kh:n+1<=maxLen)(iQ:(n+1)*bytes<=140737488355328)(jG:base<=w.heap.size)
 (hK:∀v' w',w'.ownsRow base e size v' (n+1) (xs++C.toList)->Below base w w'->K (a.put o.dst v') w'):
 if Region.wanted o (yielded ops a.tmps)=true then Oper.wp P o a w K Q else E:=by
 obtain⟨ht,aG,i,z,hi,hz,lE,nH,lh⟩:=jF;have hw:Region.wanted o (yielded ops a.tmps)=true:=by simp[Region.wanted,d_]
 rw[if_pos hw];obtain⟨v',w',jf,r1,r2,r3⟩:=run_append_own (P:=P) w base t o.type e i z size bytes ht hi hz lE nH lh aG v n xs aw ad 1 1 C.toList (by simp[hC]) eT h1 kh iQ jG;unfold Oper.wp;simp[execOp,ho,resolve,invoke,builtin,hs,hx,jf,Result.andThen];exact hK v' w' r1 ((aB _ _).grown r2 jG λ k hk=>(aw.lt k hk).1)
theorem aqu {w:World}{b o:Nat}{xs:List Value}(h:Rd w (some ⟨b,o,none⟩) xs)(k:Nat):Rd w (some ⟨b,o+k,none⟩) (xs.drop k):=λ hn=>by
 obtain⟨b2,o2,e,hc⟩:=h (λ e=>hn (by rw[e];simp))
 cases e
 refine⟨b,o+k,rfl,λ j u hj=>?_⟩;rw[rO]at hj;rw[rQ];exact hc (k+j) u hj
def adx (L:List aT)(n:Nat)(v0:Value)(k:Nat)(w:World):Prop:=∃(A:Option Addr) (q c:Nat),v0= .slice A q c/\q<=c/\c<=maxLen/\2*k+q=n/\Rd w A (fl (L.drop (2*k)))
def aqv (base ahead:List aT)(w:World)(e:Ending)(w':World):Prop:=∃(l:List aT) (g n c:Nat),e= .returned (.slice (some ⟨g,0,none⟩) n c)/\l.length=n/\n=base.length+ahead.length/2/\n<=c/\c<=maxLen/\yx base ahead l/\aI l/\(∀x∈l,x∈base++eJ ahead)/\ay w' g l/\w.heap.size<=g/\Below w.heap.size w w'
theorem aqw (base ahead:List aT)(nb na M:Nat)(fk:base.length=nb)(ady:ahead.length=na)(au:1<=nb)(aC:nb<=320)(Nb:na<=640)(hM:M<=1000000000000000)(hcs:∀c∈ahead,c.1<=M)(N9:∀c∈base,c.2=false)(LF:aI base)(pg:aI ahead)
 (A A2:Option Addr)(c c2:Nat)(bT:na<=c2)(fG:c2<=maxLen)(w:World)(hr:Rd w A (fl base))(cH:Rd w A2 (fl ahead)):Calls Tryz.prog 351 #[.slice A nb c,.slice A2 na c2] w (aqv base ahead w):=by
 have gD:=ae (aqp base A nb c fk aa w hr);have iN:=ae cH;have HN:=ae (af fk ady);have adz:=ae hcs;have HS:=ae (af N9 (af LF pg));clear hr cH fk ady hcs N9 LF pg;go_enter Tryz.func351,Tryz.ntmps351;go_wp2_with fail;(with_reducible refine gD.out.mono ?_);rintro e w1 ⟨v,rfl,aw,adA⟩;have H0:Hid (adx ahead na (.slice A2 na c2) 0 w/\w1.ownsRow w.heap.size 446 2 v (nb+0) (fl (base++(eJ ahead).take 0))/\Below w.heap.size w w1):=ae ⟨⟨A2,na,c2,rfl,bT,fG,aa,iN.out⟩,by rw[mM,bV,Nat.add_zero,<-HN.out.1];exact aw,adA⟩;clear aw adA gD iN;go_wp2_with fail;go_loopw [1,5] (λ v1 v5 wr=>∃k:Nat,2*k<=na/\Hid (adx ahead na v1 k w/\wr.ownsRow w.heap.size 446 2 v5 (nb+k) (fl (base++(eJ ahead).take k))/\Below w.heap.size w wr)) (λ v1 _ _=>jK v1)
 case atStart=>exact⟨0,aa,H0⟩
 case round=>
  clear H0;obtain⟨k,hk,HX⟩:=hrel;obtain⟨A3,q,c3,rfl,t_,tF,zo,bY⟩:=HX.out.1;by_cases h2:(2:Int)<=(q:Int)
  ·obtain⟨a,ha⟩:∃a,ahead[2*k]? =some a:=⟨_,aZ (by rw[HN.out.2];omega)⟩;obtain⟨d,hd⟩:∃d,ahead[2*k+1]? =some d:=⟨_,aZ (by rw[HN.out.2];omega)⟩;obtain⟨b,o,rfl,cq,x1, -⟩:=bY.Tr (i:=0) (x:=a) (by rw[rO];exact ha);obtain⟨b2,o2,e2, -,y1, -⟩:=bY.Tr (i:=1) (x:=d) (by rw[rO];exact hd)
   cases e2
   have adB:Rd w (some ⟨b,o+2*2,none⟩) (fl (ahead.drop (2*(k+1)))):=by
    rw[show 2*(k+1)=2*k+2 by omega,<-uy,aqs];exact aqu bY 4
   have x0:wr.cell? ⟨b,o,none⟩=some (.int .i64 (a.1:Nat)):=by have:=(HX.out.2.2.cell (cQ w _ x1)).trans x1;simpa using this
   have y0:wr.cell? ⟨b,o+2,none⟩=some (.int .i64 (d.1:Nat)):=by have:=(HX.out.2.2.cell (cQ w _ y1)).trans y1;simpa using this
   clear x1 y1 cq;have aqx:=ae adB;clear adB;have zk:=adz.out a (du ha);have yA:=adz.out d (du hd);have N_:=ae (aqr ahead k a d ha hd);obtain⟨ax,adC⟩:∃ax,a.1=ax:=⟨_,rfl⟩;obtain⟨dx,adD⟩:∃dx,d.1=dx:=⟨_,rfl⟩;rw[adC]at x0 zk N_;rw[adD]at y0 yA N_;have aqy:IntKind.i64.wrap ((ax:Int)+(dx:Int))=(ax:Int)+(dx:Int):=by rw[aE];omega
   have lI:(0:Int)<(q:Int):=aa;have avY:(1:Int)<(q:Int):=aa;have avZ:0<q:=aa;have av0:1<q:=aa;have HO:=ae (af HX.out.2.1 HX.out.2.2);clear ha hd adC adD HX bY;go_upto_region 4 with fail;go_region_law (refine aqt rfl (.tmp 13) (.tmp 24) 444 rfl w.heap.size 446 2 16 Tq _ (nb+k) (fl (base++(eJ ahead).take k)) (HO.out.1.alloc _) (by simp[Act.eval,Act.put]) #[.int .i64 ((ax:Int)+(dx:Int)),.bool true] ⟨wr.heap.size,0,none⟩ (by simp[Act.eval,Act.put]) (by intro j u hu;rw[lD,World.cell?_drew,zF];simpa using hu) rfl (by intro u hu;simp at hu;rcases hu with rfl|rfl<;>rfl) (by unfold maxLen;omega) aa (by simp;have:=HO.out.2.size;omega) ?_;intro v5 w5 yV bE)
   all_goals
    have H5:Hid (w5.ownsRow w.heap.size 446 2 v5 (nb+(k+1)) (fl (base++(eJ ahead).take (k+1)))/\Below w.heap.size w w5):=ae ⟨by rw[N_.out,<-aN,tJ];have h:=yV;rw[<-Int.natCast_add]at h;exact h,HO.out.2.trans (((aB wr.heap.size wr).alloc (ai _) _).drew.mono HO.out.2.size|>.trans bE)⟩
    clear yV bE x0 y0 HO N_
    rcases gx 2 c3 with h|h
    ·have h3:(2:Int)<=(c3:Int):=aa;have h4:¬2=c3:=aa;go_simp;go_wp2_with fail;go_roundw
     case rel=>exact⟨k+1,aa,ae ⟨⟨_,q-2,c3-2,rfl,aa,aa,aa,aqx.out⟩,H5.out⟩⟩
     case measure=>simp[jK];omega
    ·obtain rfl:c3=2:=aa;obtain rfl:q=2:=aa;go_simp;go_wp2_with fail;go_roundw
     case rel=>exact⟨k+1,aa,ae ⟨⟨_,0,0,rfl,aa,aa,aa,by rw[nD (by rw[HN.out.2];omega)];exact Rd.nil _ _⟩,H5.out⟩⟩
     case measure=>simp[jK]
  ·have bI:k=(eJ ahead).length:=by rw[Ag,HN.out.2];omega
   have hO:=HX.out.2.1;rw[bI,zL]at hO;obtain⟨N,hN⟩:∃N,(base++eJ ahead).length=N:=⟨_,rfl⟩;have jB:nb+(eJ ahead).length=N:=by rw[<-hN,ag,HN.out.1]
   rw[jB]at hO;have SX:N<=1000:=by rw[<-jB,Ag,HN.out.2];omega
   rcases hO.2 with⟨_,h0⟩|⟨g,cap,cur,rfl,hg,dU,hnc,Gb,_,ht⟩
   ·omega
   ·have HF:Hid (ay wr g (base++eJ ahead)):=ae ⟨cur,dU,by rw[hN];exact ht⟩;have HG:=ae (af hg (af hnc (af Gb (af HX.out.2.2 (show N=nb+na/2 by rw[<-jB,Ag,HN.out.2])))));have cm:=ae (Cn.JM g cap N (base++eJ ahead) wr hN SX HF.out);clear hO hg dU hnc Gb ht HX bY bI jB;go_wp2_with fail;(with_reducible refine cm.out.mono ?_);rintro e w5 ⟨rfl,⟨Z,z1,z2,z3,z4⟩,iI⟩;have HZ:=ae (af z1 (af z2 (af z3 (af (show ay w5 g Z by simpa using z4) iI))));clear z1 z2 z3 z4 iI cm;go_wp2_with fail;go_ret;have bK:yx base ahead Z:=ahB HS.out.1 HS.out.2.1 (WI _ HS.out.2.2) HZ.out.2.1 HZ.out.2.2.1;refine⟨Z,g,N,cap,rfl,HZ.out.1.trans hN,by rw[HG.out.2.2.2.2,HN.out.1,HN.out.2],HG.out.2.1,HG.out.2.2.1,bK,HZ.out.2.1,λ x hx=>aqq HZ.out.2.2.1 hx,HZ.out.2.2.2.1,HG.out.1,?_⟩;exact HG.out.2.2.2.1.trans (me HZ.out.2.2.2.2 HG.out.1 HG.out.2.2.2.1.size)
end
section
open Go.RowKit
open Cn (fl kQ)
theorem aqz {l:List aT}{i:Nat}{x:aT}(h:l[i]? =some x):(eS (l.take (i+1))).length=(eS (l.take i)).length+if x.2 then 1 else 0:=by
 rw[eu,h];unfold eS;rw[kI,ag]
 cases hx:x.2<;>simp[hx]
theorem aqA (l:List aT)(A:Option Addr)(m n c:Nat)(hm:l.length=m)(hn:n<=m)(fy:m<=1000)(pY:m<=c)(fG:c<=maxLen)(w:World)(hr:Rd w A (fl l)):
 Calls Tryz.prog 352 #[.slice A m c,.int .i64 (n:Nat)] w λ e w'=>e= .returned (.tuple #[.int .i64 ((f_ (l.take n)).length:Nat),.int .i64 ((eS (l.take n)).length:Nat)])/\Below w.heap.size w w':=by
 have HM:=ae hm;have HR:=ae hr;have hnc:(n:Int)<=(c:Int):=aa;have HS:=ae (show(f_ (l.take n)).length+(eS (l.take n)).length=n by rw[GV,ba];omega);clear hm hr;go_enter Tryz.func352,Tryz.ntmps352;go_wp2_with fail;go_loopw [6,13] (λ v6 J2 wr=>∃i p:Nat,v6= .int .i64 (p:Nat)/\J2= .int .i64 (i:Nat)/\i<=n/\p<=i/\Hid ((eS (l.take i)).length=p/\Below w.heap.size w wr)) (λ _ J2 _=>n-vnat J2)
 case atStart=>exact⟨0,0,rfl,rfl,aa,aa,ae ⟨rfl,aB _ _⟩⟩
 case round=>
  obtain⟨i,p,rfl,rfl,hi,hp,HX⟩:=hrel;by_cases ao:(i:Int)<(n:Int)
  ·obtain⟨x,hx⟩:∃x,l[i]? =some x:=⟨_,aZ (by rw[HM.out];omega)⟩;obtain⟨b,o,rfl,cq,x1,y1⟩:=HR.out.Tr hx;have x0:=(HX.out.2.cell (p:=⟨b,o+i*2,none⟩) cq).trans x1;have y0:=(HX.out.2.cell (p:=⟨b,o+i*2+1,none⟩) cq).trans y1;have xJ:=ae (aqz hx);obtain⟨xa,xb⟩:=x;have gF:Below wr.heap.size wr (wr.alloc (.cells #[.int .i64 (xa:Nat),.bool xb] 446)):=(aB _ wr).alloc (ai _) _;have bG:=ae (HX.out.2.trans (gF.mono HX.out.2.size));have J3:=ae HX.out.1;have dC:=Bk.new wr 446 #[.int .i64 (xa:Nat),.bool xb];have z1:=dC.cell_ 1 (.bool xb) rfl;clear hx x1 y1 gF dC HX cq;go_upto_region 5 with fail;generalize wr.alloc (.cells #[.int .i64 (xa:Nat),.bool xb] 446)=w5 at*;clear x0 y0
   cases xb
   ·go_wp2_with fail;go_roundw
    case rel=>exact⟨i+1,p,rfl,by first|rfl|go_num,aa,aa,ae ⟨by rw[xJ.out,J3.out];rfl,bG.out⟩⟩
    case measure=>simp[vnat];omega
   ·go_wp2_with fail;go_roundw
    case rel=>exact⟨i+1,p+1,by first|rfl|go_num,by first|rfl|go_num,aa,aa,ae ⟨by rw[xJ.out,J3.out];rfl,bG.out⟩⟩
    case measure=>simp[vnat];omega
  ·obtain rfl:i=n:=aa;have hs:((i:Int)-(p:Int))=(((f_ (l.take i)).length:Nat):Int):=by have:=HS.out;rw[HX.out.1]at this;omega
   have HH:=ae hs;clear hs;go_wp2_with fail;go_ret2;refine⟨?_,HX.out.2⟩;rw[<-HH.out,HX.out.1];rfl
end
section
open Go.RowKit
open So (aI aK)
open Cn (fl kQ ay)
theorem aqB {P:Program}(w:World){ops:Array Oper}{rest:List Oper}{o:Oper}{a:Act}{Q:Exit->Act->World->Prop}(d_:o.guard=none)(s x:Operand)(t:TypeId)
 (ho:o.op= .call {callee:=.builtin .append,args:=#[s,x],argTypes:=#[t,t]})
 (base:Nat)(e:TypeId)(size bytes:Nat)(jF:El P t e size bytes)
 (v:Value)(n:Nat)(xs:List Value)(aw:w.ownsRow base e size v n xs)(hs:a.eval s=v)(C:Array Value)
 (hx:a.eval x= .slice (some ⟨w.heap.size,0,none⟩) 1 1)(hC:C.size=size)(h1:∀u∈C.toList,u.oneCell'=true)
 (kh:n+1<=maxLen)(iQ:(n+1)*bytes<=140737488355328)(jG:base<=w.heap.size)
 (h:∀v' w',w'.ownsRow base e size v' (n+1) (xs++C.toList)->(w.alloc (.cells C e)).grownBy w' v.ownBlock->Below base w w'->wpList P ops Q rest (a.put o.dst v') w'):wpList P ops Q (o::rest) a (w.alloc (.cells C e)):=by
 obtain⟨ht,aG,i,z,hi,hz,lE,nH,lh⟩:=jF;refine wpList_append_own (w.alloc (.cells C e)) d_ s x t ho base e i z size bytes ht hi hz lE nH lh aG v n xs hs (aw.alloc _) ⟨w.heap.size,0,none⟩ 1 1 C.toList hx (by simp[hC]) ?_ h1 kh iQ (by simp;omega) ?_
 ·intro j u hj;rw[lD,zF];simpa using hj
 ·intro v' w' h2 h3 _;exact h v' w' h2 h3 (((aB _ _).alloc jG _).grown h3 (by simp;omega) λ k hk=>(aw.lt k hk).1)
theorem ay.Ts {w:World}{g:Nat}{l:List aT}(h:ay w g l):Rd w (some ⟨g,0,none⟩) (fl l):=by
 obtain⟨cur,h1,h2⟩:=h;rw[<-h2];exact h1.rd _
def lz (w:World):List Value->List (List aT)->Prop
 |[],[]=>True
 |v::vs,l::ls=>(∃g n c,v= .slice (some ⟨g,0,none⟩) n c/\l.length=n/\n<=c/\c<=maxLen/\ay w g l)/\lz w vs ls
 |_,_=>False
theorem lz.len {w:World}:∀{vs:List Value} {ls:List (List aT)},lz w vs ls->vs.length=ls.length
 |[],[],_=>rfl
 |_::vs,_::ls,h=>by rw[aU,aU,lz.len h.2]
 |[],_::_,h=>h.elim
 |_::_,[],h=>h.elim
theorem lz.same {w w':World}(hb:∀(g:Nat) (l:List aT),ay w g l->ay w' g l):∀{vs:List Value} {ls:List (List aT)},lz w vs ls->lz w' vs ls
 |[],[],_=>trivial
 |_::_,_::_,⟨⟨g,n,c,h1,h2,h3,h4,h5⟩,h⟩=>⟨⟨g,n,c,h1,h2,h3,h4,hb g _ h5⟩,lz.same hb h⟩
 |[],_::_,h=>h.elim
 |_::_,[],h=>h.elim
theorem lz.below {w w':World}(hb:Below w.heap.size w w'){vs:List Value}{ls:List (List aT)}(h:lz w vs ls):lz w' vs ls:=h.same λ _ _ h=>h.aL hb
theorem lz.snoc {w:World}{v:Value}{l:List aT}(hv:∃g n c,v= .slice (some ⟨g,0,none⟩) n c/\l.length=n/\n<=c/\c<=maxLen/\ay w g l):∀{vs:List Value} {ls:List (List aT)},lz w vs ls->lz w (vs++[v]) (ls++[l])
 |[],[],_=>⟨hv,trivial⟩
 |_::_,_::_,h=>⟨h.1,lz.snoc hv h.2⟩
 |[],_::_,h=>h.elim
 |_::_,[],h=>h.elim
theorem lz.get {w:World}:∀{vs:List Value} {ls:List (List aT)} (i:Nat) (l:List aT),lz w vs ls->ls[i]? =some l->∃g n c,vs[i]? =some (.slice (some ⟨g,0,none⟩) n c)/\l.length=n/\n<=c/\c<=maxLen/\ay w g l
 |v::vs,k::ls,0,l,h,e=>by
  obtain⟨g,n,c,h1,h2⟩:=h.1;have e:k=l:=by simpa using e
  subst e;exact⟨g,n,c,by rw[h1];rfl,h2⟩
 |v::vs,k::ls,i+1,l,h,e=>by
  rw[eF]at e⊢;exact lz.get i l h.2 e
 |[],[],_,_,_,e=>by cases e
 |[],_::_,_,_,h,_=>h.elim
 |_::_,[],_,_,h,_=>h.elim
theorem ay.adE {w w':World}{X:Nat->Prop}{g:Nat}{l:List aT}(h:ay w g l)(hk:KX X w w')(hn:¬X g):ay w' g l:=by
 obtain⟨cur,h1,h2⟩:=h;exact⟨cur,h1.kx hk hn,h2⟩
theorem ay.gb {w w':World}{B n:Nat}{v:Value}{xs:List Value}{g:Nat}{l:List aT}(h:ay w g l)(aw:w.ownsRow B 444 1 v n xs)(hg:w.grownBy w' v.ownBlock):ay w' g l:=by
 obtain⟨cur,h1,h2⟩:=h;exact⟨cur,(hg.block g h1.lt λ e=>fx aw h1 aA e.symm).trans h1,h2⟩
structure Oa (base:List aT)(rs:List (List aT)):Prop where
 rows:pD base rs.reverse
 yy:∀R∈rs,aI R
 len:∀R∈rs,R.length<=2*base.length
 big:∀R,rs.getLast? =some R->∀c∈R,c.1<=1000000000*2^(rs.length-1)
theorem aqC {base:List aT}(hs:aI base)(hM:∀c∈base,c.1<=1000000000):Oa base [base]:=
 ⟨rfl,λ R h=>by rw[pA.1 h];exact hs,λ R h=>by rw[pA.1 h];omega,λ R h c hc=>by
  have h:base=R:=by simpa using h
  subst h;simpa using hM c hc⟩
theorem aqD {base:List aT}{rs:List (List aT)}{R Z:List aT}(h:Oa base rs)(hl:rs.getLast? =some R)(Ob:∀c∈base,c.1<=1000000000)(bK:yx base R Z)(hs:aI Z)(hlen:Z.length=base.length+R.length/2)(hm:∀x∈Z,x∈base++eJ R):Oa base (rs++[Z]):=by
 obtain⟨i_,rfl⟩:∃i_,rs=i_++[R]:=by
  rw[List.getLast?_eq_some_iff]at hl;exact hl
 refine⟨?_,λ Q hQ=>?_,λ Q hQ=>?_,λ Q hQ c hc=>?_⟩
 ·have h1:=h.rows;rw[List.reverse_append,List.reverse_append]at*;exact⟨bK,h1⟩
 ·rcases fE.1 hQ with hQ|hQ
  ·exact h.yy Q hQ
  ·rw[pA.1 hQ];exact hs
 ·rcases fE.1 hQ with hQ|hQ
  ·exact h.len Q hQ
  ·rw[pA.1 hQ,hlen];have:=h.len R aj;omega
 ·have hQ:Z=Q:=by simpa using hQ
  subst hQ;have hR:=h.big R aj;have hp:1<=2^(i_++[R]).length:=Nat.one_le_two_pow;have e:(i_++[R]++[Z]).length-1=(i_++[R]).length:=aj
  have e2:2^(i_++[R]).length=2*2^((i_++[R]).length-1):=by
   have:(i_++[R]).length=((i_++[R]).length-1)+1:=aj;conv=>lhs;rw[this,Nat.pow_succ]
   omega
  rw[e];rcases fE.1 (hm c hc)with h1|h1
  ·have:=Ob c h1
   calc c.1<=1000000000*1:=aa
    _<=_:=Nat.mul_le_mul_left _ hp
  ·have h2:=adw R hR c h1;rw[e2]
   calc c.1<=2*(1000000000*2^((i_++[R]).length-1)):=h2
    _=1000000000*(2*2^((i_++[R]).length-1)):=by rw[Nat.mul_left_comm]
theorem aqE {syms l:List Nat}{i s:Nat}(h:syms[i]? =some s):mf (syms.take (i+1)) l=(mf (syms.take i) l).set s ((mf (syms.take i) l).getD s 0+1):=by
 unfold mf;rw[eu,h,rT];rfl
def J4 (syms:List Nat)(rem:List (List aT))(N:Nat)(out:List Nat):List Nat:=(takes rem N).foldl (λ l k=>mf (syms.take k) l) out
theorem aqF (syms:List Nat)(R:List aT)(rem:List (List aT))(N:Nat)(out:List Nat):J4 syms (R::rem) N out=J4 syms rem (2*(eS (R.take N)).length) (mf (syms.take (f_ (R.take N)).length) out):=rfl
theorem aqG {base R:List aT}{rem:List (List aT)}(h:pD base (R::rem)):pD base rem:=by
 cases rem with
 |nil=>trivial
 |cons R' l=>exact h.2
theorem adF {base R R':List aT}{rem:List (List aT)}(h:pD base (R::R'::rem))(N:Nat):2*(eS (R.take N)).length<=R'.length:=by
 have h1:=h.1.pr
 have h2:(eS (R.take N)).length<=(eS R).length:=by
  unfold eS;exact(List.Sublist.filter _ (List.take_sublist N R)).length_le
 rw[h1,Ag]at h2;omega
theorem aqH {rs:List (List aT)}{k:Nat}{R:List aT}(h:rs[k]? =some R):(rs.take (k+1)).reverse=R::(rs.take k).reverse:=by
 rw[eu,h,List.reverse_append];rfl
def adG (F:List Nat)(L:Nat)(w:World)(e:Ending)(w':World):Prop:=∃(out:List Nat) (A:Option Addr) (n c:Nat),e= .returned (.tuple #[.slice A n c,.int .i64 0])/\out.length=n/\n<=c/\c<=maxLen/\Rd w' A (nv out)/\wX F L out/\(∀ad,A=some ad->w.heap.size<=ad.block)/\Below w.heap.size w w'
def D8 (B:Nat)(w1:World)(F:List Nat)(i:Nat)(v7:Value)(wr:World):Prop:=wr.ownsRow B 3 1 v7 (jj F i).length (nv (jj F i))/\Below B w1 wr
theorem aqI:El Tryz.prog 79 3 1 8:=El.kg (z:=.int .i64 0) Tryz.underlying79 ah aA (by rfl)
def sV (n:Nat)(Z:List (Nat×Nat))(i:Nat):List Nat:=(Z.take i).foldl (λ l x=>l.set x.2 1) (List.replicate n 0)
theorem adH {n:Nat}{Z:List (Nat×Nat)}{i:Nat}{x:Nat×Nat}(h:Z[i]? =some x):sV n Z (i+1)=(sV n Z i).set x.2 1:=by
 unfold sV;rw[eu,h,rT];rfl
theorem Oc (n:Nat)(Z:List (Nat×Nat)):∀i,(sV n Z i).length=n
 |0=>cA
 |i+1=>by
  rcases gx i Z.length with h|h
  ·rw[adH (aZ h),iP,Oc n Z i]
  ·have e:sV n Z (i+1)=sV n Z i:=by unfold sV;rw[bQ aa,bQ h]
   rw[e,Oc n Z i]
theorem aqJ {F:List Nat}{Z:List (Nat×Nat)}(hZ:PX F Z)(h:Z.length<2)(L:Nat)(hL:1<=L):wX F L (sV F.length Z Z.length):=by
 cases Z with
 |nil=>
  have:∀s,F.getD s 0=0:=λ s=>by
   rcases wG (F.getD s 0)with h|h
   ·exact h
   ·have:=(hZ.mem s).2 h;simp at this
  exact ahr F L this
 |cons x Z=>
  have hz:Z=[]:=dP (by simp at h;omega);subst hz;have e:sV F.length [x] 1=(List.replicate F.length 0).set x.2 1:=rfl;show wX F L (sV F.length [x] 1);rw[e];refine aht F L x.2 hL ((hZ.mem x.2).1 aj) λ t ht=>?_;rcases wG (F.getD t 0)with h|h
  ·exact h
  ·have:=(hZ.mem t).2 h;simp at this;exact absurd this ht
theorem aqK:El Tryz.prog 447 444 1 24:=El.kg (z:=.slice none 0 0) Tryz.underlying447 ah aA (by rfl)
def Tt (base:List aT)(gr:Nat)(w5:World)(k:Nat)(Tu:Value)(wx:World):Prop:=∃rs vs,rs.length=k+1/\Oa base rs/\wx.ownsRow gr 444 1 Tu (k+1) vs/\lz wx vs rs/\Below gr w5 wx
structure Od (base:List aT)(syms:List Nat)(rs:List (List aT))(fin:List Nat)(n go:Nat)(w6:World)(j N T:Nat)(out:List Nat)(wx:World):Prop where
 row:dF wx go out
 len:out.length=n
 bd:∀s,out.getD s 0<=T
 Tv:J4 syms (rs.take j).reverse N out=fin
 ro:pD base (rs.take j).reverse
 fit:∀R l,(rs.take j).reverse=R::l->N<=R.length
 fr:KX (λ k=>k=go) w6 wx
def adI (base:List aT)(syms:List Nat)(rs:List (List aT))(fin:List Nat)(n go:Nat)(w6:World)(L j N:Nat)(wx:World):Prop:=∃T out,T<=(L-j)*1000/\Od base syms rs fin n go w6 j N T out wx
def adJ (v:Value):Nat:=match v with| .int _ i=>(i+1).toNat|_=>0
theorem aqL {l:List Nat}(h:nv l≠[]):l≠[]:=λ e=>h (by rw[e];rfl)
theorem adK (Z:List (Nat×Nat)):In.fl Z=nv (Z.map (·.2)):=by unfold In.fl nv;rw[yi];rfl
def aqM (F:List Nat)(B q:Nat)(A7:Option Addr)(w1:World)(e:Ending)(w':World):Prop:=e= .returned (.tuple #[])/\∃Z,PX F Z/\Z.length=q/\Rd w' A7 (nv (Z.map (·.2)))/\(∀ad,A7=some ad->B<=ad.block)/\Below B w1 w'
theorem aqN (F:List Nat)(n:Nat)(A:Option Addr)(c g0:Nat)(w1 wr:World)(v7:Value)(q:Nat)(A7:Option Addr)(c7:Nat)(hX:D8 (g0+1) w1 F F.length v7 wr)(hg:g0+1<=w1.heap.size)(hv:v7= .slice A7 q c7)(hq:(jj F F.length).length=q)(ZW:q<=320)(wT:wr.cell? ⟨g0,0,none⟩=some (.slice A n c))(hn:F.length=n)
 (hA:∀ad,A=some ad->F≠[]->ad.block<=g0)(hr:Rd wr A (nv F)):Calls Tryz.prog 348 #[.slice A7 q c7,.func (.func 349) #[] #[.pointer (some ⟨g0,0,none⟩)]] wr (aqM F (g0+1) q A7 w1):=by
 obtain⟨hO,hB⟩:=hX;rcases hO.2 with⟨h1,h0⟩|⟨g,cap,cur,h1,fc,dU,hnc,fG,_,ht⟩
 ·rw[hv]at h1;have h2:A7=none/\q=0/\c7=0:=by simpa using h1
  obtain⟨rfl,rfl,rfl⟩:=h2;refine(In.NQ none 0 _ wr).mono ?_;rintro e w' ⟨rfl,rfl⟩;have he:Ap F (jj F F.length)=[]:=by rw[dP hq];rfl
  refine⟨rfl,[],?_,rfl,Rd.nil _ _,aj,hB⟩;exact WM List.Pairwise.nil (by rw[he];exact λ _=>rfl)
 ·rw[hv,hq]at h1;have h2:A7=some ⟨g,0,none⟩/\c7=cap:=by simpa using h1
  obtain⟨rfl,rfl⟩:=h2;have lJ:(Ap F (jj F F.length)).length=q:=by unfold Ap;rw[eG,hq]
  have hF:In.ay ⟨g0,A,c,F⟩ wr g (Ap F (jj F F.length)):=by
   refine⟨⟨cur,dU,?_⟩,⟨by show wr.cell? ⟨g0,0,none⟩=some (.slice A F.length c);rw[hn];exact wT,hr⟩,⟨by show g0≠g;omega,λ ad h1 h2=>by have:=hA ad h1 h2;omega⟩,λ x hx=>?_⟩
   ·rw[lJ,adK,WL];rw[hq,yh]at ht;exact ht
   ·obtain⟨s,hs,rfl⟩:=kJ.1 hx;exact⟨mU (PV.1 hs),rfl⟩
  refine(In.JM (Q:=⟨g0,A,c,F⟩) g c7 q _ wr lJ aa hF).mono ?_;rintro e w' ⟨rfl,⟨Z,z1,z2,z3,z4⟩,tV⟩;have z4:In.ay ⟨g0,A,c,F⟩ w' g Z:=by simpa using z4
  refine⟨rfl,Z,WM z2 z3,z1.trans lJ,?_,λ ad h=>by cases h;exact fc,hB.trans (me tV fc (b_ hg hB.size))⟩;obtain⟨av1,h1,h2⟩:=z4.row;rw[<-adK,<-h2];exact h1.rd _
theorem Tw (F:List Nat)(n L:Nat)(hn:F.length=n)(MX:1<=n)(fk:n<=320)(hF:∀x∈F,x<=1000000000)(qB:1<=L)(nP:L<=15)(adL:(jj F F.length).length<=2^L)(A:Option Addr)(c:Nat)(hnc:n<=c)(fG:c<=maxLen)(w:World)(hr:Rd w A (nv F)):
 Calls Tryz.prog 299 #[.slice A n c,.int .i64 (L:Nat)] w (adG F L w):=by
 have HN:=ae hn;have HR:=ae hr;have HF:=ae hF;have adM:=ae adL;have gF:Below w.heap.size w (w.alloc (.cells #[.slice A n c] 79)):=(aB _ w).alloc (ai _) _;have jZ:=ae (af gF (Bk.new w 79 #[.slice A n c]));have j3:=ae (show(w.alloc (.cells #[.slice A n c] 79)).heap.size=w.heap.size+1 from by simp);have d1:decide ((L:Int)<1)=false:=ct aa;have d2:decide ((15:Int)<(L:Int))=false:=ct aa;have d3:decide ((320:Int)<(n:Int))=false:=ct aa;have e1:¬(L:Int)<1:=aa;have e2:¬(15:Int)<(L:Int):=aa;have e3:¬(320:Int)<(n:Int):=aa;clear hn hr hF adL gF;go_enter Tryz.func299,Tryz.ntmps299;go_upto_region 2 with fail;obtain⟨g0,Bq⟩:∃g,w.heap.size=g:=⟨_,rfl⟩;have HG:=ae Bq;rw[Bq]at jZ j3⊢;clear Bq;generalize w.alloc (.cells #[.slice A n c] 79)=w0 at*;have c0:w0.cell? ⟨g0,0,none⟩=some (.slice A n c):=jZ.out.2.cell_ 0 _ rfl;have Oe:Hid (Calls Tryz.prog 347 #[.slice A n c,.func (.func 346) #[] #[]] w0 λ e w'=>e= .returned (.bool false)/\Below w0.heap.size w0 w'):=ae (amd F HF.out A n c HN.out aa w0 (HR.out.below (by rw[HG.out];exact jZ.out.1)));go_wp2_with fail;(with_reducible refine Oe.out.mono ?_);rintro e w1 ⟨rfl,au⟩;have cR:w1.cell? ⟨g0,0,none⟩=some (.slice A n c):=(au.cell (cQ w0 _ c0)).trans c0;have gu:=ae (af (show g0+1<=w1.heap.size by have:=au.size;rw[j3.out]at this;exact this) (af (jZ.out.1.trans (au.mono (by have:=j3.out;omega))) cR));have xA:Hid (Rd w1 A (nv F)):=ae ((HR.out.below (by rw[HG.out];exact jZ.out.1)).below au);have H0:Hid (D8 (g0+1) w1 F 0 (.slice none 0 0) w1):=ae ⟨jD _ _ _ _,aB _ _⟩;have c1:=cR;clear au cR c0 Oe d1 d2 d3;go_wp2_with fail;clear c1;go_loopw [7,41] (λ v7 Tx wr=>∃i:Nat,Tx= .int .i64 (i:Nat)/\i<=n/\Hid (D8 (g0+1) w1 F i v7 wr)) (λ _ Tx _=>n-vnat Tx)
 case atStart=>exact⟨0,rfl,aa,H0⟩
 case round=>
  clear H0;obtain⟨i,rfl,hi,HX⟩:=hrel;by_cases ao:(i:Int)<(n:Int)
  ·obtain⟨b,o,rfl,cx⟩:=xA.out.num (i:=i) (by rw[HN.out];omega);have cq:=cQ _ _ cx;obtain⟨x,hx⟩:∃x,F.getD i 0=x:=⟨_,rfl⟩;rw[hx]at cx
   have fM:b<g0+1:=by
    obtain⟨b2,o2,e,Ty⟩:=HR.out.num (i:=i) (by rw[HN.out];omega)
    cases e
    have h1:b<w.heap.size:=cQ w _ Ty;rw[HG.out]at h1;omega
   have cr:wr.cell? ⟨b,o+i,none⟩=some (.int .i64 (x:Nat)):=(HX.out.2.cell fM).trans cx;by_cases iF:(0:Int)<(x:Int)
   ·have oX:=ahE (F:=F) (i:=i) (by rw[hx];omega);have hlen:(jj F i).length<=i:=PU F i;have xJ:=ae oX;obtain⟨q,hq⟩:∃q,(jj F i).length=q:=⟨_,rfl⟩;have HO:=ae (af HX.out.1 (af HX.out.2 (show g0+1<=wr.heap.size from b_ gu.out.1 HX.out.2.size)));rw[hq]at HO hlen;have HQ:=ae hq;clear hq oX hx cx cq fM HX;go_wp2_with (at_builtin;go_must (refine vI _ rfl (.tmp 48) (.tmp 50) 79 rfl (g0+1) 3 1 8 aqI _ q (nv (jj F i)) HO.out.1 rfl _ 1 rfl rfl (by intro u hu;simp at hu;rcases hu with rfl;rfl) (by unfold maxLen;omega) aa HO.out.2.2 ?_);intro v6 w6 j6 b9);have H6:Hid (D8 (g0+1) w1 F (i+1) v6 w6):=ae ⟨by rw[xJ.out,Fv,ag,HQ.out];exact j6,HO.out.2.1.trans (b9.mono (ai _))⟩;clear j6 b9 HO cr;go_wp2_with fail;go_roundw
    case rel=>exact⟨i+1,by first|rfl|go_num,aa,H6⟩
    case measure=>simp[vnat];omega
   ·have oX:=ahF (F:=F) (i:=i) (by rw[hx];omega);have H6:Hid (D8 (g0+1) w1 F (i+1) u7 wr):=ae (by have:=HX.out;unfold D8 at this⊢;rw[oX];exact this);clear oX hx cx cq fM HX;go_wp2_with fail;go_roundw
    case rel=>exact⟨i+1,by first|rfl|go_num,aa,H6⟩
    case measure=>simp[vnat];omega
  ·have yB:i=n:=aa;rw[yB]at HX ao⊢;have gm:Hid (D8 (g0+1) w1 F F.length u7 wr):=ae (by rw[HN.out];exact HX.out);have wT:wr.cell? ⟨g0,0,none⟩=some (.slice A n c):=(HX.out.2.cell (p:=⟨g0,0,none⟩) aj).trans gu.out.2.2;obtain⟨q,hq⟩:∃q,(jj F F.length).length=q:=⟨_,rfl⟩;have Rj:q<=n:=by rw[<-hq,<-HN.out];exact PU F _
   have HQ:=ae hq;obtain⟨_,A7,c7,e7,adN,aqO,NY⟩:=Sl.own gm.out.1;have Og:u7= .slice A7 q c7:=by rw[e7,hq]
   have aqP:=ae Og;rw[Og];have aan:q<=c7:=by rw[<-hq];exact adN
   clear HX yB hi hq e7 NY adN aqO Og
   have iL:¬wrap64 ((2:Int)^L)<(q:Int):=by
    have h1:=adM.out;rw[HQ.out]at h1;have h2:((2:Int)^L)=((2^L:Nat):Int):=by rw[Int.natCast_pow];rfl
    have h3:2^L<=2^15:=px aa nP;rw[h2,EG _ aa aa];omega
   have Oh:∀ad,A=some ad->F≠[]->ad.block<=g0:=λ ad h1 h2=>by
    obtain⟨b2,o2,e,Ty⟩:=HR.out.num (i:=0) (by have:=oK.2 h2;omega);rw[h1]at e
    cases e
    have h3:b2<w.heap.size:=cQ w _ Ty;rw[HG.out]at h3;show b2<=g0;omega
   have bY:Rd wr A (nv F):=λ aS=>by
    obtain⟨b,o,e,hc⟩:=xA.out aS;have h1:b<=g0:=Oh _ e (aqL aS);exact⟨b,o,e,λ j u hj=>(gm.out.2.cell (p:=⟨b,o+j,none⟩) (by show b<g0+1;omega)).trans (hc j u hj)⟩
   have cm:=ae (aqN F n A c g0 w1 wr u7 q A7 c7 gm.out gu.out.1 aqP.out HQ.out aa wT HN.out Oh bY);clear bY;clear wT;go_wp2_with fail;(with_reducible refine cm.out.mono ?_);rintro e w2 ⟨rfl,Z,hZ,adO,adP,adQ,Tz⟩;have bT:w2.cell? ⟨g0,0,none⟩=some (.slice A n c):=(Tz.cell (p:=⟨g0,0,none⟩) aj).trans gu.out.2.2;have vh:=run_make_row' (P:=Tryz.prog) 79 3 (.int .i64 0) 8 Tryz.underlying79 xF rfl .i64 .i64 n aa aa;have HZ:=ae (af hZ (af adO (af adP (af adQ Tz))));have aqQ:=ae Oh;clear hZ adO adP adQ Tz cm gm iL Oh;go_upto_region 15 with fail;obtain⟨go,cF⟩:∃g,w2.heap.size=g:=⟨_,rfl⟩;have aO:=(aB w2.heap.size w2).alloc (ai _) (.cells (madeCells #[.int .i64 0] n) 3);have dL:=dF.made w2 n;have TA:g0+1<=go:=by rw[<-cF];exact b_ gu.out.1 HZ.out.2.2.2.2.size
   have mR:=(aO.cell (p:=⟨g0,0,none⟩) (cQ w2 _ bT)).trans bT;have qY:=HZ.out.2.2.1.below aO
   have lA:∀ad,A7=some ad->nv (Z.map (·.2))≠[]->ad.block<go:=λ ad h1 h2=>by
    obtain⟨b,o,e,hc⟩:=HZ.out.2.2.1 h2;obtain⟨u,hu⟩:∃u,(nv (Z.map (·.2)))[0]? =some u:=⟨_,aZ (oK.2 h2)⟩;have h3:=cQ w2 _ (hc 0 u hu);rw[h1]at e
    cases e
    rw[<-cF];exact h3
   have E4:(w2.alloc (.cells (madeCells #[.int .i64 0] n) 3)).heap.size=go+1:=by rw[lY,cF]
   have gz:Below (g0+1) w1 (w2.alloc (.cells (madeCells #[.int .i64 0] n) 3)):=HZ.out.2.2.2.2.trans (aO.mono (by rw[cF];exact TA));rw[cF]at dL⊢;have H3:=ae (af dL (af TA (af mR (af qY (af lA (af E4 gz))))));have kW:=ae (af HZ.out.1 HZ.out.2.1);clear aO dL TA mR qY lA E4 gz cF vh bT HZ;generalize w2.alloc (.cells (madeCells #[.int .i64 0] n) 3)=w3 at*
   have cS:Hid (∀w',KX (λ k=>k=go) w3 w'->Below w.heap.size w w'):=ae λ w' hk=>by
    have h1:=H3.out;rw[HG.out];have bI:=hk.below (B:=g0) aa (λ k e=>by rw[e];omega);exact(gu.out.2.1.trans (h1.2.2.2.2.2.2.mono (yk _))).trans bI
   by_cases tF:(q:Int)<2
   ·go_wp2_with fail;go_loopw [69] (λ TB wr=>∃i:Nat,TB= .int .i64 (i:Nat)/\i<=q/\Hid (dF wr go (sV n Z i)/\KX (λ k=>k=go) w3 wr)) (λ TB _=>q-vnat TB)
    case atStart=>exact⟨0,rfl,aa,ae ⟨H3.out.1,KX.refl⟩⟩
    case round=>
     obtain⟨i,rfl,hi,HX⟩:=hrel;by_cases fO:(i:Int)<(q:Int)
     ·obtain⟨x,hx⟩:∃x,Z[i]? =some x:=⟨_,aZ (by rw[kW.out.2];omega)⟩;have ng:=kW.out.1.key x (du hx);have d_:(Z.map (·.2)).getD i 0=x.2:=by rw[a_,eH,hx];rfl
      obtain⟨b,o,rfl,j7⟩:=H3.out.2.2.2.1.num (i:=i) (by rw[eG,kW.out.2];omega);rw[d_]at j7;have fM:=H3.out.2.2.2.2.1 _ rfl (λ e=>by have h1:=congrArg List.length e;unfold nv at h1;rw[eG,eG,kW.out.2]at h1;simp at h1;omega);have TC:wr.cell? ⟨b,o+i,none⟩=some (.int .i64 (x.2:Nat)):=(ED (HX.out.2.block b (cQ w3 _ j7) (by have h1:b<go:=fM;omega))).trans j7;have jJ:x.2<n:=by rw[<-HN.out];exact ng.1
      obtain⟨y,hy⟩:∃y,x.2=y:=⟨_,rfl⟩;have adR:=ae (adH (n:=n) hx);rw[hy]at TC jJ adR;have co:=HX.out.1.cell y (by rw[Oc];exact jJ);have fo:=HX.out.1.frozen y;have H4:Hid (dF (wr.setCell ⟨go,y,none⟩ (.int .i64 1)) go (sV n Z (i+1))/\KX (λ k=>k=go) w3 (wr.setCell ⟨go,y,none⟩ (.int .i64 1))):=ae ⟨by rw[adR.out];exact HX.out.1.aP y 1,HX.out.2.trans (KX.pR wr go y _ (X:=λ k=>k=go) rfl) λ _ _ h=>h⟩;clear ng d_ j7 fM hx HX hy;go_wp2_with fail;go_roundw
      case rel=>exact⟨i+1,by first|rfl|go_num,aa,H4⟩
      case measure=>simp[vnat];omega
     ·have Ni:i=q:=aa;rw[Ni]at HX fO⊢;have aqR:=ae (aqJ kW.out.1 (by rw[kW.out.2];omega) L qB);have HH:=ae (af HX.out.1.rd (cS.out _ HX.out.2));clear HX;go_wp2_with fail;refine eX (wM rfl _ _ _) rfl ?_;refine⟨sV n Z q,some ⟨go,0,none⟩,n,n,rfl,Oc _ _ _,ai _,b_ hnc fG,HH.out.1,?_,λ ad h=>?_,HH.out.2⟩
      ·have:=aqR.out;rwa [HN.out,kW.out.2]at this
      ·cases h
       have:=H3.out.2.1;have:=HG.out;show w.heap.size<=go;omega
   ·have aqS:Hid (∀x∈Z,∀w',Below (go+1) w3 w'->∃b o,A=some ⟨b,o,none⟩/\x.2<n/\w'.cell? ⟨b,o+x.2,none⟩=some (.int .i64 (x.1:Nat))):=ae λ x hx w' hb=>by
     have ng:=kW.out.1.key x hx;obtain⟨b,o,e,hc⟩:=xA.out.num ng.1;have h1:b<=g0:=aqQ.out _ e (λ h=>by rw[h]at ng;simp at ng);have h2:=(H3.out.2.2.2.2.2.2.cell (p:=⟨b,o+x.2,none⟩) (by show b<g0+1;omega)).trans hc;have h3:=(hb.cell (p:=⟨b,o+x.2,none⟩) (by show b<go+1;have:=H3.out.2.1;omega)).trans h2;exact⟨b,o,e,by rw[<-HN.out];exact ng.1,by rw[ng.2];exact h3⟩
    have adS:∀w',Below (go+1) w3 w'->w'.cell? ⟨g0,0,none⟩=some (.slice A n c):=λ w' hb=>(hb.cell (p:=⟨g0,0,none⟩) (by show g0<go+1;have:=H3.out.2.1;omega)).trans H3.out.2.2.1;have aqT:=ae adS;clear adS;go_wp2_with fail;go_loopw [13,80] (λ J2 v80 wr=>∃i:Nat,v80= .int .i64 (i:Nat)/\i<=q/\Hid (wr.ownsRow (go+1) 446 2 J2 i (fl ((iV Z).take i))/\Below (go+1) w3 wr)) (λ _ v80 _=>q-vnat v80)
    case atStart=>exact⟨0,rfl,aa,ae ⟨jD _ _ _ _,aB _ _⟩⟩
    case round=>
     obtain⟨i,rfl,hi,HX⟩:=hrel;by_cases fO:(i:Int)<(q:Int)
     ·obtain⟨x,hx⟩:∃x,Z[i]? =some x:=⟨_,aZ (by rw[kW.out.2];omega)⟩;have d_:(Z.map (·.2)).getD i 0=x.2:=by rw[a_,eH,hx];rfl
      obtain⟨b,o,rfl,j7⟩:=H3.out.2.2.2.1.num (i:=i) (by rw[eG,kW.out.2];omega);rw[d_]at j7;have fM:=H3.out.2.2.2.2.1 _ rfl (λ e=>by have h1:=congrArg List.length e;unfold nv at h1;rw[eG,eG,kW.out.2]at h1;simp at h1;omega);have TC:wr.cell? ⟨b,o+i,none⟩=some (.int .i64 (x.2:Nat)):=(HX.out.2.cell (p:=⟨b,o+i,none⟩) (by have h1:b<go:=fM;show b<go+1;omega)).trans j7;obtain⟨b2,o2,rfl,CQ,aqU⟩:=aqS.out x (du hx) wr HX.out.2;have aqV:=aqT.out wr HX.out.2;have adT:(iV Z).take (i+1)=(iV Z).take i++[(x.1,false)]:=by unfold iV;rw[eu,eH,hx];rfl
      have Nd:=ae adT;have HO:=ae (af HX.out.1 (af HX.out.2 (show go+1<=wr.heap.size by rw[<-H3.out.2.2.2.2.2.1];exact HX.out.2.size)));obtain⟨xa,xb⟩:=x;clear hx d_ j7 fM HX adT;go_wp2_with (at_builtin;go_must (refine vI _ rfl (.tmp 84) (.tmp 90) 444 rfl (go+1) 446 2 16 Tq _ i (fl ((iV Z).take i)) HO.out.1 rfl _ 1 rfl rfl (by intro u hu;simp at hu;rcases hu with rfl|rfl<;>rfl) (by unfold maxLen;omega) aa HO.out.2.2 ?_);intro v6 w6 j6 b9);have H6:Hid (w6.ownsRow (go+1) 446 2 v6 (i+1) (fl ((iV Z).take (i+1)))/\Below (go+1) w3 w6):=ae ⟨by rw[Nd.out,Cn.tJ];exact j6,HO.out.2.1.trans b9⟩;clear j6 b9 HO TC aqU aqV;go_wp2_with fail;go_roundw
      case rel=>exact⟨i+1,by first|rfl|go_num,aa,H6⟩
      case measure=>simp[vnat];omega
     ·have Ni:i=q:=aa;rw[Ni]at HX fO⊢;have aV:(iV Z).length=q:=by rw[WJ,kW.out.2]
      have TD:=HX.out.1;rw[bQ (by rw[aV];exact ai _)]at TD;rcases TD.2 with⟨_,h0⟩|⟨gb,cap,cur,adU,fc,adV,adW,adX,_,jg⟩
      ·omega
      ·have jb:ay wr gb (iV Z):=⟨cur,adV,by rw[aV];exact jg⟩;rw[adU];have rF:=HX.out.2;clear TD HX;go_upto_region 29 with fail;obtain⟨gr,tV⟩:∃g,wr.heap.size=g:=⟨_,rfl⟩;have gF:=(aB wr.heap.size wr).alloc (ai _) (.cells #[.slice (some ⟨gb,0,none⟩) q cap] 444);have zl:=World.ownsRow_lit (base:=gr) (e:=444) (size:=1) wr #[.slice (some ⟨gb,0,none⟩) q cap] 1 (by rw[tV];exact ai _) aA rfl;have rC:=jb.aL gF;have adY:gb<gr:=by rw[<-tV];exact jb.lt
       have dw:Below (go+1) w3 (wr.alloc (.cells #[.slice (some ⟨gb,0,none⟩) q cap] 444)):=rF.trans (gF.mono (by have:=rF.size;rw[H3.out.2.2.2.2.2.1]at this;exact this));have adZ:go<gr:=by have:=rF.size;rw[H3.out.2.2.2.2.2.1,tV]at this;omega
       have ad0:(wr.alloc (.cells #[.slice (some ⟨gb,0,none⟩) q cap] 444)).heap.size=gr+1:=by rw[lY,tV]
       rw[tV]at zl⊢;have H5:=ae (af rC (af adY (af dw (af adZ ad0))));have DU:=ae zl;have gD:=ae aV;have ad1:=ahI kW.out.1.yy
       have Ob:∀c∈iV Z,c.1<=1000000000:=λ c hc=>by
        obtain⟨x,hx,rfl⟩:=kJ.1 hc;have hk:=kW.out.1.key x hx;rw[hk.2];exact HF.out _ (by rw[a_,aZ hk.1];exact mN _)
       have Oi:=ae (af ad1 Ob);have ad2:=ae (af adW adX);clear jb rF gF zl rC adY dw adZ ad0 fc adV jg adU aV tV ad1 Ob adW adX;generalize wr.alloc (.cells #[.slice (some ⟨gb,0,none⟩) q cap] 444)=w5 at*;have H6:Hid (Tt (iV Z) gr w5 0 (.slice (some ⟨gr,0,none⟩) 1 1) w5):=ae ⟨[iV Z],[.slice (some ⟨gb,0,none⟩) q cap],rfl,aqC Oi.out.1 Oi.out.2,DU.out,⟨⟨gb,q,cap,rfl,gD.out,ad2.out.1,ad2.out.2,H5.out.1⟩,trivial⟩,aB _ _⟩;have av2:IntKind.i64.wrap ((L:Int)-1)=(L:Int)-1:=by rw[aE];omega
       clear DU;go_wp2_with fail;go_loopw [16,97] (λ Tu TE wx=>∃k:Nat,TE= .int .i64 (k:Nat)/\k<=L-1/\Hid (Tt (iV Z) gr w5 k Tu wx)) (λ _ TE _=>L-vnat TE)
       case atStart=>exact⟨0,rfl,aa,H6⟩
       case round=>
        clear H6;obtain⟨w6,rfl⟩:∃x,x=wr:=⟨_,rfl⟩;obtain⟨k,rfl,hk,jt⟩:=hrel;by_cases tL:(k:Int)<(L:Int)-1
        ·obtain⟨rs,vs,mT,bq,aw,hcs,cq⟩:=jt.out;obtain⟨R,hR⟩:∃R,rs[k]? =some R:=⟨_,aZ aa⟩;obtain⟨g,nr,cr,zu,rj,J5,J6,J7⟩:=hcs.get k R hR;have DF:rs.getLast? =some R:=by rw[List.getLast?_eq_getElem?,mT];exact hR
         obtain⟨_,ad3,Dm,D9,Oj,TF,D_⟩:=Sl.own aw;obtain⟨TH,TI,rfl,vy⟩:=D_ (by intro e;rw[e]at zu;cases zu);have r_:=vy k _ zu;have TJ:=du hR;have J8:=bq.len R TJ;rw[gD.out,rj]at J8;have vC:2^k<=2^14:=px aa aa;have hbig:=bq.big R DF;rw[mT,qh]at hbig;have iy:=ae (aqw (iV Z) R q nr (1000000000*2^k) gD.out rj aa aa aa aa hbig (LG Z) Oi.out.1 (bq.yy R TJ) (some ⟨gb,0,none⟩) (some ⟨g,0,none⟩) cap cr J5 J6 w6 (ay.Ts (ay.adE H5.out.1 (X:=λ k=>gr<=k) ⟨cq.os,cq.tape,cq.output,cq.size,λ k _ hk=>cq.block k aa⟩ (by have:=H5.out.2.1;omega))) (ay.Ts J7));have ui:=ae (af mT (af bq (af aw (af hcs (af cq (af DF rj))))));rw[D9];have aqW:=ae D9;clear mT bq hcs cq hR zu rj J7 DF Oj TF D_ vy TJ J8 vC hbig J5 J6 aw D9 jt;go_wp2_with fail;(with_reducible refine iy.out.mono ?_);rintro e w7 ⟨Z2,g2,n2,c2,rfl,z1,z2,z3,z4,z5,z6,z7,z8,z9,J9⟩;have yS:=ae (af z1 (af z2 (af z3 (af z4 (af z5 (af z6 (af z7 z8)))))));have Gk:Hid (w7.ownsRow gr 444 1 (.slice (some ⟨TH,TI,none⟩) (k+1) Dm) (k+1) vs/\lz w7 vs rs/\Below gr w5 w7/\gr<=w7.heap.size):=ae ⟨by rw[<-aqW.out];exact kL ui.out.2.2.1 J9,ui.out.2.2.2.1.below J9,ui.out.2.2.2.2.1.trans (J9.mono (b_ (by have:=H5.out.2.2.2.2;omega) ui.out.2.2.2.2.1.size)),b_ (b_ (by have:=H5.out.2.2.2.2;omega) ui.out.2.2.2.2.1.size) J9.size⟩;clear z1 z2 z3 z4 z5 z6 z7 z8 z9 J9 iy;go_wp2_with (at_builtin;go_must (refine aqB _ rfl (.tmp 99) (.tmp 108) 447 rfl gr 444 1 24 aqK _ (k+1) vs Gk.out.1 rfl #[.slice (some ⟨g2,0,none⟩) n2 c2] rfl rfl (by intro u hu;simp at hu;rcases hu with rfl;rfl) (by unfold maxLen;omega) aa Gk.out.2.2.2 ?_);intro v8 w8 Jc ad4 iO)
         have H8:Hid (Tt (iV Z) gr w5 (k+1) v8 w8):=ae (by
          have ej:=(aB w7.heap.size w7).alloc (ai _) (.cells #[.slice (some ⟨g2,0,none⟩) n2 c2] 444)
          have dk:=kL Gk.out.1 ej
          have hz:=yS.out
          refine⟨rs++[Z2],vs++[.slice (some ⟨g2,0,none⟩) n2 c2],by rw[ag,ui.out.1];rfl,?_,Jc,?_,Gk.out.2.2.1.trans iO⟩
          ·exact aqD ui.out.2.1 ui.out.2.2.2.2.2.1 Oi.out.2 hz.2.2.2.2.1 hz.2.2.2.2.2.1 (hz.1.trans hz.2.1) hz.2.2.2.2.2.2.1
          ·exact((Gk.out.2.1.below ej).snoc ⟨g2,n2,c2,rfl,hz.1,hz.2.2.1,hz.2.2.2.1,hz.2.2.2.2.2.2.2.aL ej⟩).same λ g' l' h'=>ay.gb h' dk ad4)
         clear Jc ad4 iO Gk r_;go_wp2_with fail;go_roundw
         case rel=>exact⟨k+1,by first|rfl|go_num,aa,H8⟩
         case measure=>simp[vnat];omega
        ·have aqX:k+1=L:=aa;obtain⟨rs,vs,mT,bq,aw,hcs,cq⟩:=jt.out;obtain⟨_,ad3,Dm,D9,Oj,TF,D_⟩:=Sl.own aw;rw[aqX]at mT;have Ea:Below (go+1) w3 w6:=H5.out.2.2.1.trans (cq.mono (by have:=H5.out.2.2.2.1;omega))
         have TK:dF w6 go (List.replicate n 0):=by
          obtain⟨cs,h1,h2⟩:=H3.out.1;exact⟨cs,(Ea.block go (Nat.lt_succ_self _)).trans h1,h2⟩
         obtain⟨fin,o9⟩:∃fin,J4 (Z.map (·.2)) rs.reverse (2*q-2) (List.replicate n 0)=fin:=⟨_,rfl⟩
         obtain⟨R0,l0,qE⟩:∃R l,rs.reverse=R::l:=by
          cases hh:rs.reverse with
          |nil=>have:=congrArg List.length hh;rw[List.length_reverse,mT]at this;simp at this;omega
          |cons R l=>exact⟨R,l,rfl⟩
         have Bz:l0.length+1=L:=by have:=congrArg List.length qE;rw[List.length_reverse,mT,aU]at this;exact this.symm
         have Ol:=bq.rows;rw[qE]at Ol o9;have aqY:2<=q:=aa
         have oQ:2*q-2<=R0.length:=by
          have h1:=ag5 R0 l0 Ol (by rw[gD.out,Bz];have:=adM.out;rw[HQ.out]at this;exact this);rwa [gD.out]at h1
         have pZ:wX F L fin:=by
          have h1:=ahq (WK kW.out.1.yy) (LG Z) R0 l0 Ol (by rw[gD.out];exact aqY) (by rw[gD.out];exact oQ) aa F (Z.map (·.2)) kW.out.1.nodup kW.out.1.mem (by rw[eG,WJ]);rw[Bz,gD.out,HN.out]at h1;rw[<-o9];exact h1
         have fa:=ae pZ
         have bu:Od (iV Z) (Z.map (·.2)) rs fin n go w6 L (2*q-2) 0 (List.replicate n 0) w6:=by
          have jg:rs.take L=rs:=bQ aa;refine⟨TK,cA,λ s=>?_,by rw[jg,qE];exact o9,by rw[jg];exact bq.rows,λ R l e=>?_,KX.refl⟩
          ·rw[a_,nE];split<;>simp
          ·rw[jg,qE]at e;cases e;exact oQ
         have H9:Hid (∃(N T:Nat) (out:List Nat),(Value.int .i64 ((2*q-2:Nat):Int))= .int .i64 (N:Nat)/\N<=640/\T<=(L-L)*1000/\Od (iV Z) (Z.map (·.2)) rs fin n go w6 L N T out w6):=ae ⟨2*q-2,0,_,rfl,aa,aa,bu⟩
         have F4:Hid (∀wx,KX (λ k=>k=go) w6 wx->wx.ownsRow gr 444 1 u16 (k+1) vs/\lz wx vs rs):=ae λ wx Om=>by
          refine⟨FK aw Om λ j hj e=>?_,hcs.same λ g' l' h'=>ay.adE h' Om λ e=>?_⟩
          ·have h1:=(aw.lt j hj).1;have h2:=H5.out.2.2.2.1;omega
          ·obtain⟨cur,h1,_⟩:=h';obtain⟨cs,h2,_⟩:=TK;exact iK h1 h2 aA e
         have oG:=ae (af mT (af bq.len (af bq D9)))
         have On:Hid (∀wx,KX (λ k=>k=go) w6 wx->Rd wx A7 (nv (Z.map (·.2)))/\Below w.heap.size w wx):=ae λ wx Om=>by
          have bI:KX (λ k=>k=go) w3 wx:=KX.trans (X:=λ k=>k=go) (Y:=λ k=>k=go) ⟨Ea.os,Ea.tape,Ea.output,Ea.size,λ k hk _=>Ea.block k (by have:=H3.out.2.2.2.2.2.1;omega)⟩ Om λ _ _ h=>h;refine⟨H3.out.2.2.2.1.kx bI λ ad hA e=>?_,cS.out wx bI⟩;by_cases aS:nv (Z.map (·.2))=[]
          ·exact absurd (congrArg List.length aS) (by unfold nv;rw[eG,eG,kW.out.2];simp;omega)
          ·have:=H3.out.2.2.2.2.1 ad hA aS;omega
         have tW:(2:Int)*(q:Int)-2=((2*q-2:Nat):Int):=aa;rw[D9];clear mT bq aw hcs cq D9 Oj TF D_ Ea TK qE Bz Ol oQ pZ bu o9 tL jt;go_upto_region 35 with fail;go_loopw [17,18] (λ TL zw wx=>∃j N:Nat,TL= .int .i64 (N:Nat)/\zw= .int .i64 ((j:Int)-1)/\j<=L/\N<=640/\Hid (adI (iV Z) (Z.map (·.2)) rs fin n go w6 L j N wx)) (λ _ zw _=>adJ zw)
         case atStart=>
          obtain⟨N,T,out,e,h1,h2,h3⟩:=H9.out;exact⟨L,2*q-2,rfl,rfl,ai _,aa,ae ⟨T,out,h2,by cases e;exact h3⟩⟩
         case round=>
          clear H9;obtain⟨wy,rfl⟩:∃x,x=wr:=⟨_,rfl⟩;obtain⟨j,N,rfl,rfl,hj,av3,HK⟩:=hrel;obtain⟨T,out,hT,hK⟩:=HK.out;have ju:=ae hK;clear hK HK
          cases j with
          |zero=>
           have e0:((0:Nat):Int)-1= -1:=rfl;rw[e0];have pF:out=fin:=by have:=ju.out.Tv;simpa[J4,takes]using this
           have HH:=ae (af ju.out.row.rd (af (On.out _ ju.out.fr).2 (af ju.out.len pF)));clear pF ju;go_wp2_with fail;refine eX (wM rfl _ _ _) rfl ?_;refine⟨out,some ⟨go,0,none⟩,n,n,rfl,HH.out.2.2.1,ai _,b_ hnc fG,HH.out.1,by rw[HH.out.2.2.2];exact fa.out,λ ad h=>?_,HH.out.2.1⟩
           cases h
           have:=H3.out.2.1;have:=HG.out;show w.heap.size<=go;omega
          |succ j=>
           have e0:((j+1:Nat):Int)-1=(j:Int):=aa;rw[e0];obtain⟨R,hR⟩:∃R,rs[j]? =some R:=⟨_,aZ (by rw[oG.out.1];omega)⟩;have J':=aqH hR;have r_:=F4.out wy ju.out.fr;obtain⟨g,nr,cr,zu,rj,J5,J6,J7⟩:=r_.2.get j R hR;have aw:=r_.1;obtain⟨_,av4,QR,ad5,_,_,D_⟩:=Sl.own aw;obtain⟨TH,TI,ad6,vy⟩:=D_ (by intro e;rw[e]at zu;cases zu);have aqZ:=vy j _ zu;have TM:=oG.out.2.2.2;rw[ad5]at TM;have ad7:ad3=some ⟨TH,TI,none⟩:=by cases TM;exact ad6
           have J8:=oG.out.2.1 R (du hR);rw[gD.out,rj]at J8;have qt:=ju.out.fit R _ J';rw[rj]at qt;have zf:=ju.out.ro;rw[J']at zf;have cF:=ju.out.Tv;rw[J',aqF]at cF;obtain⟨sg,Oo⟩:∃x,(f_ (R.take N)).length=x:=⟨_,rfl⟩;obtain⟨pr,Eb⟩:∃x,(eS (R.take N)).length=x:=⟨_,rfl⟩
           have av5:sg<=q:=by
            have h1:=PB (WK kW.out.1.yy) (LG Z) _ N zf sg (by rw[takes,Oo];simp);rwa [gD.out]at h1
           have aq0:2*pr<=640:=by
            have h1:=GV (R.take N);rw[Oo,Eb,ba]at h1;have h2:=GW
            have h3:pr<=320:=by
             have h4:=zf
             cases TN:(rs.take j).reverse with
             |nil=>
              rw[TN]at h4;have h5:R=iV Z:=h4;rw[<-Eb,h5];have:eS ((iV Z).take N)=[]:=rS.2 λ c hc=>by rw[LG Z c (s6 hc)];simp
              rw[this];simp
             |cons R' l=>
              rw[TN]at h4;have h5:=adF h4 N
              have h6:=oG.out.2.1 R' (by
               have:R'∈(rs.take j).reverse:=by rw[TN];simp
               exact s6 (List.mem_reverse.1 this))
              rw[gD.out]at h6;rw[Eb]at h5;omega
            omega
           have TP:=ae (aqA R (some ⟨g,0,none⟩) nr N cr rj qt aa J5 J6 wy (ay.Ts J7));rw[Oo,Eb]at TP cF
           have sx:Hid (∀R' l,(rs.take j).reverse=R'::l->2*pr<=R'.length):=ae λ R' l e=>by
            rw[e]at zf;have:=adF zf N;rwa [Eb]at this
           have fp:=ae (af cF (af (aqG zf) J'));rw[ad7];clear hR J' r_ zu rj J5 J6 J7 aw ad5 D_ vy TM ad7 J8 qt zf cF Oo Eb ad6;go_wp2_with fail;(with_reducible refine TP.out.mono ?_);rintro e w8 ⟨rfl,iO⟩;have ad8:Od (iV Z) (Z.map (·.2)) rs fin n go w6 (j+1) N T out w8:=⟨ju.out.row.aL iO,ju.out.len,ju.out.bd,ju.out.Tv,ju.out.ro,ju.out.fit,ju.out.fr.trans (KX.pQ (X:=λ k=>k=go) iO) λ _ _ h=>h⟩;have Gl:=ae ad8;have av6:(sg:Int)<=(c7:Int):=aa;clear ad8 iO ju TP aqZ;go_wp2_with fail;go_loopw [135] (λ TQ wx=>∃i:Nat,TQ= .int .i64 (i:Nat)/\i<=sg/\Hid (dF wx go (mf ((Z.map (·.2)).take i) out)/\(∀s,(mf ((Z.map (·.2)).take i) out).getD s 0<=T+i)/\KX (λ k=>k=go) w6 wx)) (λ TQ _=>sg-vnat TQ)
           case atStart=>exact⟨0,rfl,aa,ae ⟨by rw[mM];exact Gl.out.row,λ s=>by rw[mM];exact Gl.out.bd s,Gl.out.fr⟩⟩
           case round=>
            obtain⟨wz,rfl⟩:∃x,x=wr:=⟨_,rfl⟩;obtain⟨i,rfl,hi,HI⟩:=hrel;by_cases tL:(i:Int)<(sg:Int)
            ·obtain⟨x,hx⟩:∃x,Z[i]? =some x:=⟨_,aZ (by rw[kW.out.2];omega)⟩;have eB:(Z.map (·.2))[i]? =some x.2:=by rw[eH,hx];rfl
             have ng:=kW.out.1.key x (du hx);obtain⟨b,o,rfl,j7⟩:=(On.out _ HI.out.2.2).1.num (i:=i) (by rw[eG,kW.out.2];omega);rw[a_,eB]at j7;have jS:=aqE (l:=out) eB;obtain⟨y,hy⟩:∃y,x.2=y:=⟨_,rfl⟩;have RH:y<n:=by rw[<-hy,<-HN.out];exact ng.1
             rw[hy]at j7 jS;have j7:wz.cell? ⟨b,o+i,none⟩=some (.int .i64 (y:Nat)):=j7;obtain⟨z,hz⟩:∃z,(mf ((Z.map (·.2)).take i) out).getD y 0=z:=⟨_,rfl⟩;have co:=HI.out.1.cell y (by rw[GZ,Gl.out.len];exact RH);have fo:=HI.out.1.frozen y;have Dz:=HI.out.2.1 y;rw[hz]at co Dz jS
             have av7:z<=20000:=by
              have h1:(L-(j+1))*1000<=15*1000:=Nat.mul_le_mul_right _ aa;omega
             have H4:Hid (dF (wz.setCell ⟨go,y,none⟩ (.int .i64 ((z:Int)+1))) go (mf ((Z.map (·.2)).take (i+1)) out)/\(∀s,(mf ((Z.map (·.2)).take (i+1)) out).getD s 0<=T+(i+1))/\KX (λ k=>k=go) w6 (wz.setCell ⟨go,y,none⟩ (.int .i64 ((z:Int)+1)))):=ae ⟨by rw[jS];exact HI.out.1.aP y (z+1),λ s=>by
              rw[jS,a_,zO];have h1:=HI.out.2.1 s;split
              ·split
               ·show z+1<=_;omega
               ·exact gV _
              ·rw[<-a_];omega,HI.out.2.2.trans (KX.pR wz go y _ (X:=λ k=>k=go) rfl) λ _ _ h=>h⟩
             clear hx eB ng jS hy hz Dz HI;go_wp2_with fail;go_roundw
             case rel=>exact⟨i+1,by first|rfl|go_num,aa,H4⟩
             case measure=>simp[vnat];omega
            ·have aq1:i=sg:=aa;rw[aq1]at HI tL⊢
             have aq2:Hid (adI (iV Z) (Z.map (·.2)) rs fin n go w6 L j (2*pr) wz):=ae ⟨T+sg,_,by
              have h1:(L-j)*1000=(L-(j+1))*1000+1000:=by
               rw[show L-j=(L-(j+1))+1 by omega,Nat.add_mul]
              omega,⟨HI.out.1,by rw[GZ,Gl.out.len],HI.out.2.1,fp.out.1,fp.out.2.1,sx.out,HI.out.2.2⟩⟩
             have vC:IntKind.i64.wrap (2*(pr:Int))=((2*pr:Nat):Int):=by rw[aE];omega
             clear HI fp sx Gl;go_wp2_with fail;go_roundw
             case rel=>exact⟨j,2*pr,by first|rfl|(congr 1;omega),by first|rfl|go_num,aa,aq0,aq2⟩
             case measure=>simp[adJ]
