import Derived.Test.YtajokjbmpjjoiaaGreatDoorP15
import Derived.Lib.AppendStr
set_option maxRecDepth 20000
set_option maxHeartbeats 0
set_option linter.unusedSimpArgs false
namespace Go.Proofs.YtajokjbmpjjoiaaGreatDoor
section
open Go.RowKit Go.Lib
theorem Fp:El Tryz.prog 54 5 1 1:=El.kg (z:=.int .u8 0) Tryz.underlying54 ah aA (by rfl)
theorem YL:(Tryz.prog.info? 5).map (λ i=>(i.zero,i.size,i.bytes))=some (some (.int .u8 0),1,1):=ah
theorem YM (s:ByteArray):strCells s=aJ s.toList:=by
 rw[kY];rfl
theorem ak2 (l:List UInt8):∀u∈aJ l,u.oneCell'=true:=λ u hu=>by
 unfold aJ at hu;obtain⟨x,_,rfl⟩:=kJ.1 hu;rfl
theorem ak3 {P:Program}{ops:Array Oper}{rest:List Oper}{o:Oper}{a:Act}{w:World}{Q:Exit->Act->World->Prop}(d_:o.guard=none)(sl x:Operand)(t u:TypeId)
 (ho:o.op= .call {callee:=.builtin .append,args:=#[sl,x],argTypes:=#[t,u]})
 (e:TypeId)(ht:P.underlying t=some (.slice e))(hu:P.underlying u=some .string)(hz:(P.info? e).map (λ i=>(i.zero,i.size,i.bytes))=some (some (.int .u8 0),1,1))
 (hs:a.eval sl= .slice none 0 0)(s:ByteArray)(hx:a.eval x= .string s)(iQ:s.size<=1000000000000)
 (h:∀A c w',s.size<=c->c<=maxLen->Rd w' A (aJ s.toList)->(∀ad,A=some ad->w.heap.size<=ad.block)->Below w.heap.size w w'->wpList P ops Q rest (a.put o.dst (.slice A s.size c)) w'):wpList P ops Q (o::rest) a w:=by
 obtain⟨i,hi,z0,z1,z2⟩:=info_parts hz;refine wpList_append_own_string w d_ sl x t u ho w.heap.size e i ht hu hi z0 z1 z2 (.slice none 0 0) 0 [] hs (jD _ _ _ _) s hx (by unfold maxLen;omega) aa (ai _) ?_;intro v' w' h2 h3 _;rw[jd,List.nil_append,YM]at h2;have hb:Below w.heap.size w w':=⟨h3.os,h3.tape,h3.output,h3.size,λ k hk=>h3.block k hk (by simp[Value.ownBlock])⟩;obtain⟨A,c,hv,h4,h5,h6,h7,_⟩:=rX.own h2 hb (ai _);obtain rfl:v'= .slice A s.size c:=by injection hv
 exact h A c w' h4 h5 h6 h7 hb
theorem YN {P:Program}{ops:Array Oper}{rest:List Oper}{o:Oper}{a:Act}{w:World}{Q:Exit->Act->World->Prop}(d_:o.guard=none)(sl x:Operand)(t:TypeId)
 (ho:o.op= .call {callee:=.builtin .append,args:=#[sl,x],argTypes:=#[t,t]})
 (e:TypeId)(jF:El P t e 1 1)
 (hs:a.eval sl= .slice none 0 0)(A0:Option Addr)(m c0:Nat)(l:List UInt8)(hr:Rd w A0 (aJ l))(hl:l.length=m)(hx:a.eval x= .slice A0 m c0)(iQ:m<=1000000000000)
 (h:∀A c w',m<=c->c<=maxLen->Rd w' A (aJ l)->(∀ad,A=some ad->w.heap.size<=ad.block)->w'.ownsRow w.heap.size e 1 (.slice A m c) m (aJ l)->Below w.heap.size w w'->wpList P ops Q rest (a.put o.dst (.slice A m c)) w'):wpList P ops Q (o::rest) a w:=by
 refine qm w d_ sl x t ho w.heap.size e 1 1 jF (.slice none 0 0) 0 [] (jD _ _ _ _) hs A0 m c0 (aJ l) hr (by rw[je,hl,yh]) hx (ak2 l) (by unfold maxLen;omega) aa (ai _) ?_;intro v' w' h2 hb;rw[jd,List.nil_append]at h2;obtain⟨A,c,hv,h4,h5,h6,h7,_⟩:=rX.own h2 hb (ai _);obtain rfl:v'= .slice A m c:=by injection hv
 exact h A c w' h4 h5 h6 h7 h2 hb
def bK (H:List Nat)(v:Value)(n:Nat):Array Value:=((H.map λ k=>Value.int .u32 (k:Nat))++[v,.int .i64 (n:Nat)]).toArray
theorem YO (w:World):Calls Tryz.prog 113 #[] w λ e w'=>e= .returned (.pointer (some ⟨w.heap.size,0,none⟩))/\w'=w.alloc (.cells (bK o6 (.slice none 0 0) 0) 267):=by
 go_enter Tryz.func113,Tryz.ntmps113;go_wp2_with fail;go_ret;exact⟨rfl,rfl⟩
theorem YP (H:List Nat)(rest:List UInt8)(h:64<=rest.length):gM (rest.length/64) H rest=gM ((rest.drop 64).length/64) (sv H (rest.take 64)) (rest.drop 64):=by
 rw[cw,show rest.length/64=(rest.length-64)/64+1 by omega];rfl
theorem ak4 (rest:List UInt8)(h:64<=rest.length):rest.drop (64*(rest.length/64))=(rest.drop 64).drop (64*((rest.drop 64).length/64)):=by
 rw[cw,uy];congr 1;omega
theorem Rd.YQ {w:World}{b o:Nat}{l:List UInt8}(h:∀j u,(aJ l)[j]? =some u->w.cell? ⟨b,o+j,none⟩=some u)(k:Nat):Rd w (some ⟨b,o+k,none⟩) (aJ (l.drop k)):=λ _=>
 ⟨b,o+k,rfl,λ j u hj=>by
   rw[rQ];refine h (k+j) u ?_;unfold aJ at hj⊢;rw[List.map_drop,rO]at hj;exact hj⟩
theorem Rd.YR {w:World}{A:Option Addr}{xs:List Value}(h:Rd w A xs):Rd w.drew A xs:=h.keep λ _ _ _ h=>h
theorem Q1 {H:List Nat}(h:lP H)(b:List UInt8):lP (sv H b):=by
 unfold sv;exact akX h.1 (ME _ _ _ h).1
theorem MH:∀(n:Nat) (H:List Nat) (b:List UInt8),lP H->lP (gM n H b)
 |0,_,_,h=>h
 |n+1,H,b,h=>MH n (sv H (b.take 64)) (b.drop 64) (Q1 h _)
theorem Q2:lP o6:=by unfold lP;decide
theorem ak5 (a0 a1 a2 a3 a4 a5 a6 a7:Nat)(v:Value)(n m:Nat):(bK [a0,a1,a2,a3,a4,a5,a6,a7] v n).setIfInBounds 9 (.int .i64 (m:Nat))=bK [a0,a1,a2,a3,a4,a5,a6,a7] v m:=by simp[bK]
theorem Q3 (a0 a1 a2 a3 a4 a5 a6 a7:Nat)(v u:Value)(n:Nat):(bK [a0,a1,a2,a3,a4,a5,a6,a7] v n).setIfInBounds 8 u=bK [a0,a1,a2,a3,a4,a5,a6,a7] u n:=by simp[bK]
theorem ak6 (a0 a1 a2 a3 a4 a5 a6 a7 b0 b1 b2 b3 b4 b5 b6 b7:Nat)(v:Value)(n:Nat):(((((((((bK [a0,a1,a2,a3,a4,a5,a6,a7] v n).setIfInBounds 0 (.int .u32 (b0:Nat))).setIfInBounds 1 (.int .u32 (b1:Nat))).setIfInBounds 2 (.int .u32 (b2:Nat))).setIfInBounds 3 (.int .u32 (b3:Nat))).setIfInBounds 4 (.int .u32 (b4:Nat))).setIfInBounds 5 (.int .u32 (b5:Nat))).setIfInBounds 6 (.int .u32 (b6:Nat))).setIfInBounds 7 (.int .u32 (b7:Nat)))=bK [b0,b1,b2,b3,b4,b5,b6,b7] v n:=by simp[bK]
def IB (n:Nat):Nat:=(119-n%64)%64
def qS (n:Nat):List UInt8:=qR (n*8/4294967296)++qR (n*8)
theorem MI (n:Nat):(qS n).length=8:=rfl
theorem ak7 (n:Nat):o7 n=128::(List.replicate (IB n) 0++qS n):=by simp[o7,IB,qS]
theorem ak8 (k:Nat):List.replicate (k+1) (0:UInt8)=List.replicate k 0++[0]:=by rw[List.replicate_succ']
theorem ak9 (n i:Nat)(hn:n<=1000000000)(hi:i<8):(((qS n).getD i 0).toNat:Int)=((n:Int)*8/2^(56-8*i))%256:=by
 have h:i=0∨i=1∨i=2∨i=3∨i=4∨i=5∨i=6∨i=7:=aa;rcases h with rfl|rfl|rfl|rfl|rfl|rfl|rfl|rfl<;>simp[qS,qR,yb]<;>omega
theorem ala (n i:Nat)(hi:i<8):(qS n).take (i+1)=(qS n).take i++[(qS n).getD i 0]:=by
 rw[zI (by rw[MI];exact hi),a_,aZ (by rw[MI];exact hi)];rfl
theorem alb (a0 a1 a2 a3 a4 a5 a6 a7 b0 b1 b2 b3 b4 b5 b6 b7:Nat):(((((((((gO [a0,a1,a2,a3,a4,a5,a6,a7]).setIfInBounds 0 (.int .u32 (b0:Nat))).setIfInBounds 1 (.int .u32 (b1:Nat))).setIfInBounds 2 (.int .u32 (b2:Nat))).setIfInBounds 3 (.int .u32 (b3:Nat))).setIfInBounds 4 (.int .u32 (b4:Nat))).setIfInBounds 5 (.int .u32 (b5:Nat))).setIfInBounds 6 (.int .u32 (b6:Nat))).setIfInBounds 7 (.int .u32 (b7:Nat)))=gO [b0,b1,b2,b3,b4,b5,b6,b7]:=by simp[gO]
theorem alc {w:World}{v:Value}{n base:Nat}{e:TypeId}{l:List UInt8}(b:UInt8)(X:Int)(l':List UInt8)(h:w.ownsRow base e 1 v n (aJ l++(#[Value.int .u8 X]:Array Value).toList))(hX:(b.toNat:Int)=X)(hl:l'=l++[b]):w.ownsRow base e 1 v n (aJ l'):=by
 rw[hl,<-wN l b X hX];exact h
theorem ald {P:Program}(w:World){ops:Array Oper}{rest:List Oper}{o:Oper}{a:Act}{Q:Exit->Act->World->Prop}(d_:o.guard=none)(s x:Operand)(t:TypeId)
 (ho:o.op= .call {callee:=.builtin .append,args:=#[s,x],argTypes:=#[t,t]})
 (base:Nat)(e:TypeId)(size bytes:Nat)(jF:El P t e size bytes)
 (v:Value)(n:Nat)(xs:List Value)(aw:w.ownsRow base e size v n xs)(hs:a.eval s=v)(C:Array Value)(m:Nat)
 (hx:a.eval x= .slice (some ⟨w.heap.size,0,none⟩) m m)(hC:C.size=m*size)(h1:∀u∈C.toList,u.oneCell'=true)
 (kh:n+m<=maxLen)(iQ:(n+m)*bytes<=140737488355328)(jG:base<=w.heap.size)
 (h:∀v' w',w'.ownsRow base e size v' (n+m) (xs++C.toList)->Below base w w'->wpList P ops Q rest (a.put o.dst v') w'):wpList P ops Q (o::rest) a (w.alloc (.cells C e)):=
 qm (w.alloc (.cells C e)) d_ s x t ho base e size bytes jF v n xs (aw.alloc _) hs _ m m C.toList (Rd.new w e C) (by simpa using hC) hx h1 kh iQ (by simp;omega) λ v' w' h2 h3=>h v' w' h2 (((aB base w).alloc jG _).trans h3)
theorem ale (x:Nat):aJ (qR x)=[.int .u8 ((x:Int)/16777216%256),.int .u8 ((x:Int)/65536%256),.int .u8 ((x:Int)/256%256),.int .u8 ((x:Int)%256)]:=by
 simp[aJ,qR,yb]
theorem alf (H:List Nat)(i:Nat)(h:i<H.length):aJ ((H.take (i+1)).flatMap qR)=aJ ((H.take i).flatMap qR)++aJ (qR (H.getD i 0)):=by
 rw[zI h,a_,aZ h];unfold aJ;rw[Cz,ka];simp only[wJ,List.flatMap_nil,bV,ye]
def Q4:Value->Nat
 | .slice _ n _=>n
 |_=>0
theorem alg (a0 a1 a2 a3 a4 a5 a6 a7:Nat)(rest:List UInt8)(N r g:Nat)(A:Option Addr)(c:Nat)(w:World)(hN:N<=1000000000)(Q5:N%64=r)(YS:rest.length=r)(hH:lP [a0,a1,a2,a3,a4,a5,a6,a7])(hB:Bk w g 267 (bK [a0,a1,a2,a3,a4,a5,a6,a7] (.slice A r c) N))(hr:Rd w A (aJ rest)):
 Calls Tryz.prog 117 #[.pointer (some ⟨g,0,none⟩)] w λ e w'=>e= .returned (.string (av ((gM ((r+(o7 N).length)/64) [a0,a1,a2,a3,a4,a5,a6,a7] (rest++o7 N)).flatMap qR)))/\Below w.heap.size w w':=by
 have c8:=hB.cell_ 8 (.slice A r c) rfl;have Q6:=ae YS;have AU:=ae Q5;have HB:=ae hB;have HR:=ae hr;have HH:=ae hH;have hz:IB N<=63:=by unfold IB;omega
 obtain⟨Z,hZ⟩:∃Z,IB N=Z:=⟨_,rfl⟩;have YT:(119-r)%64=Z:=by rw[<-hZ,<-Q5];rfl
 rw[hZ]at hz;have HZ:=ae (af hZ YT);have auF:r<64:=aa;clear YS hB hr hH hZ Q5 YT;go_enter Tryz.func117,Tryz.ntmps117;go_wp2_with (at_builtin;go_must (first|(refine YN rfl (.const (.slice none 0 0)) (.tmp 14) 54 rfl 5 Fp rfl A r c rest HR.out Q6.out rfl aa ?_)|(refine lg _ rfl (.tmp 16) (.tmp 17) 54 rfl w.heap.size 5 1 1 Fp _ _ _ yV rfl _ rfl rfl (by intro u hu;simp at hu;subst hu;rfl) (by unfold maxLen;omega) aa bE.size ?_));first|(intro A5 c5 w5 qG YU jo Fs yV bE)|(intro v2 w2 dk aC));have Ft:=bE.trans aC;rw[show aJ rest++(#[Value.int .u8 128]:Array Value).toList=aJ (rest++[128])from wN rest 128 128 rfl]at dk;have HG:=ae (af dk Ft);clear bE aC yV dk jo Fs qG YU Ft c8;go_loopw [3] (λ vi wr=>∃k:Nat,k<=Z/\Hid (wr.ownsRow w.heap.size 5 1 vi (r+1+k) (aJ (rest++128::List.replicate k 0)))/\Hid (Below w.heap.size w wr)) (λ vi _=>200-Q4 vi)
 case atStart=>exact⟨0,aa,ae (by rw[Nat.add_zero];exact HG.out.1),ae HG.out.2⟩
 case round=>
  clear HG;obtain⟨k,hk,HO,cS⟩:=hrel;obtain⟨bg,auG,alh,rfl,fM,dC,hnc,fG,jg⟩:=O3 HO.out aa;have aG:=dC.lt;by_cases ali:k<Z
  ·have hq:¬((r:Int)+1+(k:Int))%64=56:=by have:=HZ.out.2;omega
   go_wp2_with (at_builtin;go_must (refine lg _ rfl (.tmp 23) (.tmp 24) 54 rfl w.heap.size 5 1 1 Fp _ _ _ HO.out rfl _ rfl rfl (by intro u hu;simp at hu;subst hu;rfl) (by unfold maxLen;omega) aa cS.out.size ?_);intro v2 w2 dk aC)
   have fJ:w2.ownsRow w.heap.size 5 1 v2 (r+1+(k+1)) (aJ (rest++128::List.replicate (k+1) 0)):=by
    have e:rest++128::List.replicate (k+1) 0=(rest++128::List.replicate k 0)++[0]:=by rw[ak8];simp
    rw[e,<-wN _ 0 0 rfl];exact dk
   have alj:Q4 v2=r+1+k+1:=by
    rcases fJ.2 with⟨_,h0⟩|⟨g',Ia,auH,hv,_⟩
    ·omega
    ·rw[hv];rfl
   go_round
   case rel=>exact⟨k+1,aa,ae fJ,ae (cS.out.trans aC)⟩
   case measure=>rw[alj];show 200-(r+1+k+1)<200-(r+1+k);omega
  ·obtain rfl:k=Z:=aa;have hq:((r:Int)+1+(k:Int))%64=56:=by have:=HZ.out.2;omega
   have YV:=HB.out.aL cS.out;have c9:=YV.cell_ 9 (.int .i64 N) rfl;clear YV;go_wp2_with fail;clear jg dC aG fM hnc fG;obtain⟨L1,qB⟩:∃L1,rest++128::List.replicate k 0=L1:=⟨_,rfl⟩;obtain⟨m1,iq⟩:∃m1,r+1+k=m1:=⟨_,rfl⟩;have YW:m1<=200:=aa;have YX:L1.length=m1:=by rw[<-qB,<-iq,ag,Q6.out];simp;omega
   rw[qB,iq]at HO;have xB:=ae (af qB (af iq YX));have HQ:=ae (af hq YW);have eU:IntKind.i64.wrap ((N:Int)*8)=(N:Int)*8:=by rw[aE];omega
   clear qB iq YX hq;go_loopw [3,26] (λ vb vi wr=>∃i:Nat,vi= .int .i64 (i:Nat)/\i<=8/\Hid (wr.ownsRow w.heap.size 5 1 vb (m1+i) (aJ (L1++(qS N).take i)))/\Hid (Below w.heap.size w wr)) (λ _ vi _=>8-(intOf vi).toNat)
   case atStart=>exact⟨0,rfl,aa,ae (by rw[mM,bV,xB.out.2.1];exact HO.out),cS⟩
   case round=>
    clear HO cS c9;obtain⟨i,rfl,hi,HO,cS⟩:=hrel;have c9:=(HB.out.aL cS.out).cell_ 9 (.int .i64 N) rfl;by_cases ao:i<8
    ·have IC:(i:Int)<8:=aa;obtain⟨bi,xw⟩:∃bi,(qS N).getD i 0=bi:=⟨_,rfl⟩;have hv:=ak9 N i hN ao;have ht:=ala N i ao;rw[xw]at hv ht;have HV:=ae (af hv ht);obtain⟨j,hj⟩:∃j,i+1=j:=⟨_,rfl⟩;have HJ:=ae hj;clear hv ht xw hj;have h8:i=0∨i=1∨i=2∨i=3∨i=4∨i=5∨i=6∨i=7:=aa;rcases h8 with rfl|rfl|rfl|rfl|rfl|rfl|rfl|rfl
     all_goals
      clear ao IC
      go_wp2_with (at_builtin;go_must (refine lg _ rfl (.tmp 29) (.tmp 40) 54 rfl w.heap.size 5 1 1 Fp _ _ _ HO.out rfl _ rfl rfl (by intro u hu;simp at hu;subst hu;rfl) (by unfold maxLen;omega) aa cS.out.size ?_);intro v2 w2 dk aC)
      have fJ:=alc bi _ _ dk (by have h:=HV.out.1;simp only[Nat.reduceMul,Nat.reduceSub,Int.reducePow]at h;omega) (show L1++(qS N).take j=_ by rw[<-HJ.out,HV.out.2,aN])
      go_round
      case rel=>exact⟨j,by rw[<-HJ.out];first|rfl|go_num,by have:=HJ.out;omega,ae (by rw[<-HJ.out]at fJ⊢;exact fJ),ae (cS.out.trans aC)⟩
      case measure=>simp[intOf]
    ·obtain rfl:i=8:=aa;have bF:=HB.out.aL cS.out;have c0:=bF.cell_ 0 (.int .u32 (a0:Nat)) rfl;have c1:=bF.cell_ 1 (.int .u32 (a1:Nat)) rfl;have c2:=bF.cell_ 2 (.int .u32 (a2:Nat)) rfl;have c3:=bF.cell_ 3 (.int .u32 (a3:Nat)) rfl;have c4:=bF.cell_ 4 (.int .u32 (a4:Nat)) rfl;have c5:=bF.cell_ 5 (.int .u32 (a5:Nat)) rfl;have c6:=bF.cell_ 6 (.int .u32 (a6:Nat)) rfl;have c7:=bF.cell_ 7 (.int .u32 (a7:Nat)) rfl;obtain⟨YY,alk,auI,rfl,fM,dC,hnc,fG,jg⟩:=O3 HO.out aa;clear bF c9 alh;have IC:(qS N).take 8=qS N:=bQ (by rw[MI];omega);rw[IC]at jg;obtain⟨u_,hT⟩:∃u_,L1++qS N=u_:=⟨_,rfl⟩;have YZ:u_=rest++o7 N:=by rw[<-hT,<-xB.out.1,ak7,HZ.out.1];simp
     have Y0:u_.length=m1+8:=by rw[<-hT,ag,xB.out.2.2,MI]
     have Y3:(m1+8)%64=0:=by have:=HQ.out.1;have:=xB.out.2.1;omega
     rw[hT]at jg;have bY:=(dC.alloc (.cells #[.int .u32 (a0:Nat),.int .u32 (a1:Nat),.int .u32 (a2:Nat),.int .u32 (a3:Nat),.int .u32 (a4:Nat),.int .u32 (a5:Nat),.int .u32 (a6:Nat),.int .u32 (a7:Nat)] 265)).rd (m1+8);rw[jg]at bY;have MJ:=dC.lt;have hG:=ae (af bY (af ((Bk.new wr 265 (gO [a0,a1,a2,a3,a4,a5,a6,a7]))) (af (cS.out.alloc cS.out.size (.cells #[.int .u32 (a0:Nat),.int .u32 (a1:Nat),.int .u32 (a2:Nat),.int .u32 (a3:Nat),.int .u32 (a4:Nat),.int .u32 (a5:Nat),.int .u32 (a6:Nat),.int .u32 (a7:Nat)] 265)) (af YZ (af Y0 (af Y3 MJ))))));clear jg dC bY hT YZ Y0 Y3 MJ HO IC
     have ID:Hid (∀(w':World) (A:Option Addr) (c:Nat) (b:List UInt8) (a0 a1 a2 a3 a4 a5 a6 a7 b0 b1 b2 b3 b4 b5 b6 b7:Nat),lP [a0,a1,a2,a3,a4,a5,a6,a7]->b.length=64->Rd w' A (aJ b)->sv [a0,a1,a2,a3,a4,a5,a6,a7] b=[b0,b1,b2,b3,b4,b5,b6,b7]->Calls Tryz.prog 173 #[.agg #[.int .u32 (a0:Nat),.int .u32 (a1:Nat),.int .u32 (a2:Nat),.int .u32 (a3:Nat),.int .u32 (a4:Nat),.int .u32 (a5:Nat),.int .u32 (a6:Nat),.int .u32 (a7:Nat)],.slice A 64 c] w' λ e bO=>e= .returned (.agg #[.int .u32 (b0:Nat),.int .u32 (b1:Nat),.int .u32 (b2:Nat),.int .u32 (b3:Nat),.int .u32 (b4:Nat),.int .u32 (b5:Nat),.int .u32 (b6:Nat),.int .u32 (b7:Nat)])/\Below w'.heap.size w' bO):=ae λ w' A c b a0 a1 a2 a3 a4 a5 a6 a7 b0 b1 b2 b3 b4 b5 b6 b7 h8 hb hr he=>by
      have:=YF a0 a1 a2 a3 a4 a5 a6 a7 b A c hb w' hr h8;rw[he]at this;exact this
     go_wp2_with fail;have Md:=cS.out.size;obtain⟨gv,MK⟩:∃gv,wr.heap.size=gv:=⟨_,rfl⟩;rw[MK]at Md hG⊢;obtain⟨H0,Fu⟩:∃H0,[a0,a1,a2,a3,a4,a5,a6,a7]=H0:=⟨_,rfl⟩;rw[Fu]at HH;have eN:Hid (Bk (wr.alloc (.cells #[.int .u32 (a0:Nat),.int .u32 (a1:Nat),.int .u32 (a2:Nat),.int .u32 (a3:Nat),.int .u32 (a4:Nat),.int .u32 (a5:Nat),.int .u32 (a6:Nat),.int .u32 (a7:Nat)] 265)) gv 265 (gO H0)):=ae (by rw[<-Fu];exact hG.out.2.1);have alm:=ae (af Fu MK);have auJ:=ae MK;clear Fu MK HB;generalize wr.alloc (.cells #[.int .u32 (a0:Nat),.int .u32 (a1:Nat),.int .u32 (a2:Nat),.int .u32 (a3:Nat),.int .u32 (a4:Nat),.int .u32 (a5:Nat),.int .u32 (a6:Nat),.int .u32 (a7:Nat)] 265)=wz at*;go_loopw [3] (λ v3 wr=>∃(H:List Nat) (rs:List UInt8) (A:Option Addr) (c:Nat),v3= .slice A rs.length c/\rs.length<=c/\c<=maxLen/\Hid (rs.length%64=0)/\Hid (lP H)/\Hid (Rd wr A (aJ rs))/\Hid (th gv A (aJ rs))/\Hid (Bk wr gv 265 (gO H))/\Hid (Below w.heap.size w wr)/\Hid (gM (u_.length/64) H0 u_=gM (rs.length/64) H rs)) (λ v3 _=>Q4 v3)
     case atStart=>exact⟨H0,u_,some ⟨YY,0,none⟩,alk,by rw[hG.out.2.2.2.2.1],by rw[hG.out.2.2.2.2.1];omega,fG,ae (by rw[hG.out.2.2.2.2.1];exact hG.out.2.2.2.2.2.1),HH,ae hG.out.1,ae (λ _ ad hA=>by cases hA;show YY≠gv;have:=hG.out.2.2.2.2.2.2;omega),eN,ae hG.out.2.2.1,ae rfl⟩
     case round=>
      clear fG hnc eN fM HH c0 c1 c2 c3 c4 c5 c6 c7 hi ao eU ali hk hz YW;obtain⟨H,rs,A,c,rfl,cR,bT,sB,HW,HR,HO,gi,IE,HE⟩:=hrel;obtain⟨m,hm⟩:∃m,rs.length=m:=⟨_,rfl⟩;have HM:=ae hm;rw[hm]at cR sB⊢;clear hm;by_cases h0:m=0
      ·subst h0;have HF:=ae (af (show gM (u_.length/64) H0 u_=H by rw[HE.out,HM.out];rfl) trivial);clear HE HM;obtain⟨a0,a1,a2,a3,a4,a5,a6,a7,rfl⟩:=eight HW.out.1;have c0:=gi.out.cell_ 0 (.int .u32 (a0:Nat)) rfl;have c1:=gi.out.cell_ 1 (.int .u32 (a1:Nat)) rfl;have c2:=gi.out.cell_ 2 (.int .u32 (a2:Nat)) rfl;have c3:=gi.out.cell_ 3 (.int .u32 (a3:Nat)) rfl;have c4:=gi.out.cell_ 4 (.int .u32 (a4:Nat)) rfl;have c5:=gi.out.cell_ 5 (.int .u32 (a5:Nat)) rfl;have c6:=gi.out.cell_ 6 (.int .u32 (a6:Nat)) rfl;have c7:=gi.out.cell_ 7 (.int .u32 (a7:Nat)) rfl;go_wp2_with fail;obtain⟨HX,Q7⟩:∃HX,[a0,a1,a2,a3,a4,a5,a6,a7]=HX:=⟨_,rfl⟩;have auK:HX.length=8:=by rw[<-Q7];rfl
       have Dp:Hid (∀(j:Nat) (w':World),j<8->(Instr.index 265 (.agg #[.int .u32 (a0:Nat),.int .u32 (a1:Nat),.int .u32 (a2:Nat),.int .u32 (a3:Nat),.int .u32 (a4:Nat),.int .u32 (a5:Nat),.int .u32 (a6:Nat),.int .u32 (a7:Nat)]) (.int .i64 (j:Int))).run Tryz.prog w'= .ok (.int .u32 (HX.getD j 0:Nat)) w'):=ae λ j w' hj=>QX 265 233 8 #[.int .u32 (a0:Nat),.int .u32 (a1:Nat),.int .u32 (a2:Nat),.int .u32 (a3:Nat),.int .u32 (a4:Nat),.int .u32 (a5:Nat),.int .u32 (a6:Nat),.int .u32 (a7:Nat)] j _ w' Tryz.underlying265 rfl rfl rfl hj (by rw[show(#[.int .u32 (a0:Nat),.int .u32 (a1:Nat),.int .u32 (a2:Nat),.int .u32 (a3:Nat),.int .u32 (a4:Nat),.int .u32 (a5:Nat),.int .u32 (a6:Nat),.int .u32 (a7:Nat)]:Array Value)=gO HX by rw[<-Q7];rfl];exact QW HX j aa);go_loopw [6,57] (λ vo vi wr=>∃i:Nat,vi= .int .i64 (i:Nat)/\i<=8/\Hid (wr.ownsRow w.heap.size 5 1 vo (4*i) (aJ ((HX.take i).flatMap qR)))/\Hid (Below w.heap.size w wr)) (λ _ vi _=>8-(intOf vi).toNat)
       case atStart=>exact⟨0,rfl,aa,ae ⟨rfl,Or.inl ⟨rfl,rfl⟩⟩,IE⟩
       case round=>
        obtain⟨i,rfl,hi,mr,Q8⟩:=hrel;by_cases ao:i<8
        ·have IC:(i:Int)<8:=aa;have hx:=λ w'=>Dp.out i w' ao;obtain⟨x,Q9⟩:∃x,HX.getD i 0=x:=⟨_,rfl⟩;rw[Q9]at hx;have aln:=ae (af Q9 trivial);clear Q9 ao c0 c1 c2 c3 c4 c5 c6 c7;go_wp2_with (at_builtin;go_must (refine ald _ rfl (.tmp 60) (.tmp 72) 54 rfl w.heap.size 5 1 1 Fp _ _ _ mr.out rfl _ 4 rfl rfl (by intro u hu;simp at hu;rcases hu with rfl|rfl|rfl|rfl<;>rfl) (by unfold maxLen;omega) aa Q8.out.size ?_);intro v2 w2 dk aC)
         have fJ:w2.ownsRow w.heap.size 5 1 v2 (4*(i+1)) (aJ ((HX.take (i+1)).flatMap qR)):=by
          rw[alf HX i aa,aln.out.1,ale];exact dk
         go_round
         case rel=>exact⟨i+1,by first|rfl|go_num,aa,ae fJ,ae (Q8.out.trans aC)⟩
         case measure=>simp[intOf];omega
        ·obtain rfl:i=8:=aa;have fT:=O2 (P:=Tryz.prog) mr.out 54 9 5 Tryz.underlying54 Tryz.underlying5 Tryz.underlying9;rw[bQ aa]at fT;clear c0 c1 c2 c3 c4 c5 c6 c7;go_wp2_with fail;go_ret;refine⟨?_,Q8.out⟩
         have hR:gM ((r+(o7 N).length)/64) H0 (rest++o7 N)=HX:=by
          rw[<-Q7,<-HF.out.1,<-hG.out.2.2.2.1,<-Q6.out,<-ag,<-hG.out.2.2.2.1]
         rw[alm.out.1,hR];rfl
      ·obtain⟨a0,a1,a2,a3,a4,a5,a6,a7,rfl⟩:=eight HW.out.1;have uU:64<=m:=by have:=sB.out;omega
       have Y5:(64:Int)<=(m:Int):=aa;have l0:(0:Int)<(m:Int):=aa;have alo:(64:Int)<=(c:Int):=aa;obtain⟨bb,oo,rfl,aV⟩:=HR.out (by intro e;have:=je rs;rw[e,HM.out]at this;simp at this;omega);have gD:=ae aV;have xC:Hid (Rd wr (some ⟨bb,oo,none⟩) (aJ (rs.take 64))):=ae (by have:=HR.out.take 64;unfold aJ at this⊢;rw[<-List.map_take]at this;exact this);have pK:=Q1 HW.out (rs.take 64);obtain⟨b0,b1,b2,b3,b4,b5,b6,b7,cd⟩:=eight pK.1;rw[cd]at pK;have o8:=ae (af cd trivial);have IG:=ae pK;clear aV cd pK;have c0:=gi.out.cell_ 0 (.int .u32 (a0:Nat)) rfl;have c1:=gi.out.cell_ 1 (.int .u32 (a1:Nat)) rfl;have c2:=gi.out.cell_ 2 (.int .u32 (a2:Nat)) rfl;have c3:=gi.out.cell_ 3 (.int .u32 (a3:Nat)) rfl;have c4:=gi.out.cell_ 4 (.int .u32 (a4:Nat)) rfl;have c5:=gi.out.cell_ 5 (.int .u32 (a5:Nat)) rfl;have c6:=gi.out.cell_ 6 (.int .u32 (a6:Nat)) rfl;have c7:=gi.out.cell_ 7 (.int .u32 (a7:Nat)) rfl;go_wp2_with fail;go_region_with (go_at_call 173;go_loud ((with_reducible refine(ID.out _ (some ⟨bb,oo,none⟩) c (rs.take 64) a0 a1 a2 a3 a4 a5 a6 a7 b0 b1 b2 b3 b4 b5 b6 b7 HW.out (by rw[ba,HM.out];omega) (Rd.YR xC.out) o8.out.1).mono ?_);rintro e w3 ⟨rfl,aO⟩;have bF:Bk w3 gv 265 (gO [a0,a1,a2,a3,a4,a5,a6,a7]):=gi.out.aL (GB aO);have d0:=bF.cell_ 0 (.int .u32 (a0:Nat)) rfl;have z0:=bF.frozen 0;have d1:=bF.cell_ 1 (.int .u32 (a1:Nat)) rfl;have z1:=bF.frozen 1;have d2:=bF.cell_ 2 (.int .u32 (a2:Nat)) rfl;have z2:=bF.frozen 2;have d3:=bF.cell_ 3 (.int .u32 (a3:Nat)) rfl;have z3:=bF.frozen 3;have d4:=bF.cell_ 4 (.int .u32 (a4:Nat)) rfl;have z4:=bF.frozen 4;have d5:=bF.cell_ 5 (.int .u32 (a5:Nat)) rfl;have z5:=bF.frozen 5;have d6:=bF.cell_ 6 (.int .u32 (a6:Nat)) rfl;have z6:=bF.frozen 6;have d7:=bF.cell_ 7 (.int .u32 (a7:Nat)) rfl;have z7:=bF.frozen 7))
       all_goals
        have tR:=GB aO
        have eZ:=((((((((bF.aP 0 (.int .u32 (b0:Nat))).aP 1 (.int .u32 (b1:Nat))).aP 2 (.int .u32 (b2:Nat))).aP 3 (.int .u32 (b3:Nat))).aP 4 (.int .u32 (b4:Nat))).aP 5 (.int .u32 (b5:Nat))).aP 6 (.int .u32 (b6:Nat))).aP 7 (.int .u32 (b7:Nat)))
        rw[alb]at eZ
        have Y6:=(IE.out.trans (tR.mono IE.out.size)).trans (me (aQ (aQ (aQ (aQ (aQ (aQ (aQ (aY w3 gv 0 (.int .u32 (b0:Nat))) (aY (w3.setCell ⟨gv,0,none⟩ (.int .u32 (b0:Nat))) gv 1 (.int .u32 (b1:Nat)))) (aY ((w3.setCell ⟨gv,0,none⟩ (.int .u32 (b0:Nat))).setCell ⟨gv,1,none⟩ (.int .u32 (b1:Nat))) gv 2 (.int .u32 (b2:Nat)))) (aY (((w3.setCell ⟨gv,0,none⟩ (.int .u32 (b0:Nat))).setCell ⟨gv,1,none⟩ (.int .u32 (b1:Nat))).setCell ⟨gv,2,none⟩ (.int .u32 (b2:Nat))) gv 3 (.int .u32 (b3:Nat)))) (aY ((((w3.setCell ⟨gv,0,none⟩ (.int .u32 (b0:Nat))).setCell ⟨gv,1,none⟩ (.int .u32 (b1:Nat))).setCell ⟨gv,2,none⟩ (.int .u32 (b2:Nat))).setCell ⟨gv,3,none⟩ (.int .u32 (b3:Nat))) gv 4 (.int .u32 (b4:Nat)))) (aY (((((w3.setCell ⟨gv,0,none⟩ (.int .u32 (b0:Nat))).setCell ⟨gv,1,none⟩ (.int .u32 (b1:Nat))).setCell ⟨gv,2,none⟩ (.int .u32 (b2:Nat))).setCell ⟨gv,3,none⟩ (.int .u32 (b3:Nat))).setCell ⟨gv,4,none⟩ (.int .u32 (b4:Nat))) gv 5 (.int .u32 (b5:Nat)))) (aY ((((((w3.setCell ⟨gv,0,none⟩ (.int .u32 (b0:Nat))).setCell ⟨gv,1,none⟩ (.int .u32 (b1:Nat))).setCell ⟨gv,2,none⟩ (.int .u32 (b2:Nat))).setCell ⟨gv,3,none⟩ (.int .u32 (b3:Nat))).setCell ⟨gv,4,none⟩ (.int .u32 (b4:Nat))).setCell ⟨gv,5,none⟩ (.int .u32 (b5:Nat))) gv 6 (.int .u32 (b6:Nat)))) (aY (((((((w3.setCell ⟨gv,0,none⟩ (.int .u32 (b0:Nat))).setCell ⟨gv,1,none⟩ (.int .u32 (b1:Nat))).setCell ⟨gv,2,none⟩ (.int .u32 (b2:Nat))).setCell ⟨gv,3,none⟩ (.int .u32 (b3:Nat))).setCell ⟨gv,4,none⟩ (.int .u32 (b4:Nat))).setCell ⟨gv,5,none⟩ (.int .u32 (b5:Nat))).setCell ⟨gv,6,none⟩ (.int .u32 (b6:Nat))) gv 7 (.int .u32 (b7:Nat)))) Md (b_ IE.out.size tR.size))
        have dL:=HR.out.below tR
        have fK:=((((((((dL.only (aY w3 gv 0 (.int .u32 (b0:Nat))) HO.out).only (aY (w3.setCell ⟨gv,0,none⟩ (.int .u32 (b0:Nat))) gv 1 (.int .u32 (b1:Nat))) HO.out).only (aY ((w3.setCell ⟨gv,0,none⟩ (.int .u32 (b0:Nat))).setCell ⟨gv,1,none⟩ (.int .u32 (b1:Nat))) gv 2 (.int .u32 (b2:Nat))) HO.out).only (aY (((w3.setCell ⟨gv,0,none⟩ (.int .u32 (b0:Nat))).setCell ⟨gv,1,none⟩ (.int .u32 (b1:Nat))).setCell ⟨gv,2,none⟩ (.int .u32 (b2:Nat))) gv 3 (.int .u32 (b3:Nat))) HO.out).only (aY ((((w3.setCell ⟨gv,0,none⟩ (.int .u32 (b0:Nat))).setCell ⟨gv,1,none⟩ (.int .u32 (b1:Nat))).setCell ⟨gv,2,none⟩ (.int .u32 (b2:Nat))).setCell ⟨gv,3,none⟩ (.int .u32 (b3:Nat))) gv 4 (.int .u32 (b4:Nat))) HO.out).only (aY (((((w3.setCell ⟨gv,0,none⟩ (.int .u32 (b0:Nat))).setCell ⟨gv,1,none⟩ (.int .u32 (b1:Nat))).setCell ⟨gv,2,none⟩ (.int .u32 (b2:Nat))).setCell ⟨gv,3,none⟩ (.int .u32 (b3:Nat))).setCell ⟨gv,4,none⟩ (.int .u32 (b4:Nat))) gv 5 (.int .u32 (b5:Nat))) HO.out).only (aY ((((((w3.setCell ⟨gv,0,none⟩ (.int .u32 (b0:Nat))).setCell ⟨gv,1,none⟩ (.int .u32 (b1:Nat))).setCell ⟨gv,2,none⟩ (.int .u32 (b2:Nat))).setCell ⟨gv,3,none⟩ (.int .u32 (b3:Nat))).setCell ⟨gv,4,none⟩ (.int .u32 (b4:Nat))).setCell ⟨gv,5,none⟩ (.int .u32 (b5:Nat))) gv 6 (.int .u32 (b6:Nat))) HO.out).only (aY (((((((w3.setCell ⟨gv,0,none⟩ (.int .u32 (b0:Nat))).setCell ⟨gv,1,none⟩ (.int .u32 (b1:Nat))).setCell ⟨gv,2,none⟩ (.int .u32 (b2:Nat))).setCell ⟨gv,3,none⟩ (.int .u32 (b3:Nat))).setCell ⟨gv,4,none⟩ (.int .u32 (b4:Nat))).setCell ⟨gv,5,none⟩ (.int .u32 (b5:Nat))).setCell ⟨gv,6,none⟩ (.int .u32 (b6:Nat))) gv 7 (.int .u32 (b7:Nat))) HO.out)
        clear d0 z0 d1 z1 d2 z2 d3 z3 d4 z4 d5 z5 d6 z6 d7 z7 aO tR dL bF
        generalize((((((((w3.setCell ⟨gv,0,none⟩ (.int .u32 (b0:Nat))).setCell ⟨gv,1,none⟩ (.int .u32 (b1:Nat))).setCell ⟨gv,2,none⟩ (.int .u32 (b2:Nat))).setCell ⟨gv,3,none⟩ (.int .u32 (b3:Nat))).setCell ⟨gv,4,none⟩ (.int .u32 (b4:Nat))).setCell ⟨gv,5,none⟩ (.int .u32 (b5:Nat))).setCell ⟨gv,6,none⟩ (.int .u32 (b6:Nat))).setCell ⟨gv,7,none⟩ (.int .u32 (b7:Nat)))=w4 at*
        have cU:=ae eZ
        have alp:=ae Y6
        have tS:=ae fK
        clear eZ Y6 fK c0 c1 c2 c3 c4 c5 c6 c7 HR gD xC gi IE
        have sC:Hid (Rd w4 (some ⟨bb,oo+64,none⟩) (aJ (rs.drop 64))):=ae (by
         obtain⟨alq,alr,he,aV⟩:=tS.out (by intro e;have:=je rs;rw[e,HM.out]at this;simp at this;omega)
         cases he
         exact Rd.YQ aV 64)
        have vd:Hid (gM (u_.length/64) H0 u_=gM ((rs.drop 64).length/64) [b0,b1,b2,b3,b4,b5,b6,b7] (rs.drop 64)):=ae (by rw[HE.out,YP _ _ (by rw[HM.out];exact uU),o8.out.1])
        have iX:=ae (show(rs.drop 64).length=m-64 by rw[cw,HM.out])
        by_cases sD:c=64
        ·subst sD;obtain rfl:m=64:=aa;have xD:=ae (show rs.drop 64=[]from dP (by rw[iX.out]));go_wp2_with fail;go_round
         case rel=>exact⟨[b0,b1,b2,b3,b4,b5,b6,b7],rs.drop 64,some ⟨bb,oo,none⟩,0,⟨rfl,by rw[iX.out],rfl⟩,by rw[iX.out];omega,aa,ae (by rw[iX.out]),IG,ae (by rw[xD.out];exact Rd.nil _ _),ae (by rw[xD.out];intro h;exact absurd rfl h),cU,vd⟩
         case measure=>show 0<64;omega
        ·have als:¬((64:Int)=(c:Int)):=aa;have alu:¬((c:Int)=64):=aa
         have ML:Hid (th gv (some ⟨bb,oo+64,none⟩) (aJ (rs.drop 64))):=ae λ h ad hA=>by
          have h1:=HO.out (by intro e;have:=je rs;rw[e,HM.out]at this;simp at this;omega) _ rfl
          cases hA
          exact h1
         go_wp2_with fail;go_round
         case rel=>(repeat apply Exists.intro);exact⟨⟨[b0,b1,b2,b3,b4,b5,b6,b7],rs.drop 64,some ⟨bb,oo+64,none⟩,c-64,by rw[iX.out],by rw[iX.out];omega,aa,ae (by rw[iX.out];have:=sB.out;omega),IG,sC,ML,cU,alp,vd⟩,rfl⟩
         case measure=>show m-64<m;omega
theorem Q_:∀(k j:Nat) (H:List Nat) (s p:List UInt8),64*k<=s.length->gM (k+j) H (s++p)=gM j (gM k H s) (s.drop (64*k)++p)
 |0,j,H,s,p,_=>by simp[gM]
 |k+1,j,H,s,p,h=>by
  rw[show k+1+j=(k+j)+1 by omega];simp only[gM];rw[Er aa,zH aa,Q_ k j _ (s.drop 64) p (by rw[cw];omega),uy,show 64+64*k=64*(k+1)by omega]
theorem alv (s:List UInt8):gM ((s.length%64+(o7 s.length).length)/64) (gM (s.length/64) o6 s) (s.drop (64*(s.length/64))++o7 s.length)=gM ((s.length+(o7 s.length).length)/64) o6 (s++o7 s.length):=by
 rw[<-Q_ (s.length/64) _ o6 s (o7 s.length) aa];congr 1;omega
