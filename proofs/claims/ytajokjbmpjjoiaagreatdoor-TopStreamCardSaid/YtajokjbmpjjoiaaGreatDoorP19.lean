import Derived.Test.YtajokjbmpjjoiaaGreatDoorP16
import Derived.Test.YtajokjbmpjjoiaaGreatDoorP18
set_option maxRecDepth 20000
set_option maxHeartbeats 0
namespace Go.Proofs.YtajokjbmpjjoiaaGreatDoor
section
open Go.RowKit Go.Lib
theorem anB {w:World}{B size n:Nat}{e:TypeId}{v:Value}{xs:List Value}(h:w.ownsRow B e size v n xs):w.ownsRow 0 e size v n xs:=⟨h.1,h.2.imp id λ ⟨g,cap,cur,h1,_,h3⟩=>⟨g,cap,cur,h1,gV _,h3⟩⟩
def qZ (w:World)(g:Nat)(r:Option Nat)(l:List UInt8):Prop:=∃A c,Bk w g 267 (bK (gM (l.length/64) o6 l) (.slice A (l.length%64) c) l.length)/\w.ownsRow 0 5 1 (.slice A (l.length%64) c) (l.length%64) (aJ (l.drop (64*(l.length/64))))/\(Value.slice A (l.length%64) c).ownBlock=r
theorem R1 (l:List UInt8)(s:ByteArray)(g:Nat)(r:Option Nat)(w:World)(hs:l.length+s.size<=1000000000)(h:qZ w g r l):
 Calls Tryz.prog 114 #[.pointer (some ⟨g,0,none⟩),.string s] w λ e w'=>e= .returned (.tuple #[])/\∃r',qZ w' g r' (l++s.toList)/\KX (λ k=>k=g∨some k=r) w w'/\(r'=none∨∃k,r'=some k/\w.heap.size<=k):=by
 obtain⟨A0,c0,hB,aw,ze⟩:=h;have Nl:lP (gM (l.length/64) o6 l):=MH _ _ _ Q2;obtain⟨e0,e1,e2,e3,e4,e5,e6,e7,R2⟩:=eight Nl.1;have Nn:=ae (af R2 trivial);rw[R2]at hB Nl;obtain⟨q,hq⟩:∃q,l.length%64=q:=⟨_,rfl⟩;obtain⟨N,hN⟩:∃N,l.length=N:=⟨_,rfl⟩;obtain⟨X,hX⟩:∃X,l++s.toList=X:=⟨_,rfl⟩;obtain⟨M,hM⟩:∃M,X.length=M:=⟨_,rfl⟩;have aaC:N+s.size=M:=by rw[<-hM,<-hX,ag,aD,hN]
 rw[hq]at hB aw ze;rw[hN]at hB hs;have Bq:=hB.lt;have h8:=hB.cell_ 8 (.slice A0 q c0) rfl;have h9:=hB.cell_ 9 (.int .i64 (N:Nat)) rfl;have f8:=hB.frozen 8;have f9:=hB.frozen 9;have avk:q<64:=aa;have ws:IntKind.i64.wrap ((N:Int)+(s.size:Int))=(M:Int):=by rw[aE];omega
 have ku:Bk (w.setCell ⟨g,9,none⟩ (.int .i64 (M:Nat))) g 267 (bK [e0,e1,e2,e3,e4,e5,e6,e7] (.slice A0 q c0) M):=by
  have:=hB.aP 9 (.int .i64 (M:Nat));rw[ak5]at this;exact this
 have gg:=aw.kept (aY w g 9 (.int .i64 (M:Nat))) (.inr (fx aw hB aA));have HB:=ae (af ku (af (aY w g 9 (.int .i64 (M:Nat))) (af gg ze)));have nk:=ae hM;have gG:=ae hX;have HL:=ae (af hq (af hN aaC));have aaD:=ae Nl;clear hB ku aw gg ze hM hX Nl R2 hq aaC hN
 have ID:Hid (∀(w':World) (A:Option Addr) (c:Nat) (b:List UInt8) (a0 a1 a2 a3 a4 a5 a6 a7 b0 b1 b2 b3 b4 b5 b6 b7:Nat),lP [a0,a1,a2,a3,a4,a5,a6,a7]->b.length=64->Rd w' A (aJ b)->sv [a0,a1,a2,a3,a4,a5,a6,a7] b=[b0,b1,b2,b3,b4,b5,b6,b7]->Calls Tryz.prog 173 #[.agg #[.int .u32 (a0:Nat),.int .u32 (a1:Nat),.int .u32 (a2:Nat),.int .u32 (a3:Nat),.int .u32 (a4:Nat),.int .u32 (a5:Nat),.int .u32 (a6:Nat),.int .u32 (a7:Nat)],.slice A 64 c] w' λ e bO=>e= .returned (.agg #[.int .u32 (b0:Nat),.int .u32 (b1:Nat),.int .u32 (b2:Nat),.int .u32 (b3:Nat),.int .u32 (b4:Nat),.int .u32 (b5:Nat),.int .u32 (b6:Nat),.int .u32 (b7:Nat)])/\Below w'.heap.size w' bO):=ae λ w' A c b a0 a1 a2 a3 a4 a5 a6 a7 b0 b1 b2 b3 b4 b5 b6 b7 h8 hb hr he=>by
  have:=YF a0 a1 a2 a3 a4 a5 a6 a7 b A c hb w' hr h8;rw[he]at this;exact this
 go_enter Tryz.func114,Tryz.ntmps114;obtain⟨ib,nR,aaE,aaF,aaG⟩:=info_parts YL;have HI:=ae (af nR (af aaE (af aaF aaG)));clear nR aaE aaF aaG;go_wp2_with (at_builtin;go_must (refine wpList_append_own_string _ rfl (.tmp 19) (.tmp 20) 54 9 rfl 0 5 ib Tryz.underlying54 Tryz.underlying9 HI.out.1 HI.out.2.1 HI.out.2.2.1 HI.out.2.2.2 (.slice A0 q c0) q _ rfl HB.out.2.2.1 s rfl (by unfold maxLen;omega) aa (gV _) ?_);intro v2 w8 dk qV _;obtain⟨_,A2,c2,rfl,bT,fj,vw⟩:=Sl.own dk;have aS:=fx HB.out.2.2.1 HB.out.1 aA;have eU:Bk w8 g 267 (bK [e0,e1,e2,e3,e4,e5,e6,e7] (.slice A0 q c0) M):=(qV.block g HB.out.1.lt (λ e=>aS e.symm)).trans HB.out.1;have d8:=eU.cell_ 8 (.slice A0 q c0) rfl;have z8:=eU.frozen 8;have H8:=ae (af dk (af qV eU));clear dk qV vw eU aS);obtain⟨vJ,ze⟩:∃x,l.drop (64*(l.length/64))++s.toList=x:=⟨_,rfl⟩;have aaH:vJ.length=q+s.size:=by rw[<-ze,ag,cw,aD,<-HL.out.1];omega
 have R3:w8.ownsRow 0 5 1 (.slice A2 (q+s.size) c2) (q+s.size) (aJ vJ):=by
  have h:=H8.out.1;rw[YM]at h;rw[<-ze];unfold aJ at h⊢;rw[ka];exact h
 have FU:=H8.out.2.2.aP 8 (.slice A2 (q+s.size) c2);rw[Q3]at FU;have uS:=fx R3 H8.out.2.2 aA
 have I5:Rd (w8.setCell ⟨g,8,none⟩ (.slice A2 (q+s.size) c2)) A2 (aJ vJ):=by
  obtain⟨_,A',c',e,_,_,h⟩:=Sl.own (R3.kept (aY w8 g 8 (.slice A2 (q+s.size) c2)) (.inr uS))
  cases e;exact h
 have aaI:th g A2 (aJ vJ):=λ _ ad hA e=>by subst hA;exact uS (by show some ad.block=_;rw[e])
 have aaJ:KX (λ k=>k=g∨some k=r) w (w8.setCell ⟨g,8,none⟩ (.slice A2 (q+s.size) c2)):=by
  have h2:=H8.out.2.1;have oP:KX (λ k=>k=g∨some k=r) w (w.setCell ⟨g,9,none⟩ (.int .i64 (M:Nat))):=KX.pR w g 9 _ (.inl rfl);have bI:KX (λ k=>k=g∨some k=r) (w.setCell ⟨g,9,none⟩ (.int .i64 (M:Nat))) w8:=⟨h2.os,h2.tape,h2.output,h2.size,λ k hk hn=>h2.block k hk (λ e=>hn (.inr (by rw[<-HB.out.2.2.2];exact e)))⟩;exact(oP.trans bI λ _ _ h=>h).trans (KX.pR w8 g 8 _ (X:=λ k=>k=g∨some k=r) (.inl rfl)) λ _ _ h=>h
 have cq:gM (M/64) o6 X=gM (vJ.length/64) [e0,e1,e2,e3,e4,e5,e6,e7] vJ:=by
  have h1:=Q_ (l.length/64) (vJ.length/64) o6 l s.toList aa;rw[Nn.out.1,ze,gG.out]at h1;rw[<-h1];congr 1;have:=HL.out;omega
 have aaK:X.drop (64*(M/64))=vJ.drop (64*(vJ.length/64)):=by
  have h1:X.drop (64*(l.length/64))=vJ:=by rw[<-gG.out,zH aa,ze]
  rw[<-h1,uy,h1];congr 1;have:=HL.out;omega
 have cm:=ae (af FU (af I5 (af aaI (af (af cq aaK) aaJ))));have fa:=ae aaH;clear FU I5 aaI cq aaK aaJ R3 uS ze aaH h8 h9 f8 f9 d8 z8 H8 HB HI Nn;generalize w8.setCell ⟨g,8,none⟩ (.slice A2 (q+s.size) c2)=wz at*;go_loopw [24] (λ vi wr=>∃(H:List Nat) (rest:List UInt8) (A:Option Addr) (c:Nat),rest.length<=c/\c<=maxLen/\Hid (lP H)/\Hid (Rd wr A (aJ rest))/\Hid (th g A (aJ rest))/\Hid (Bk wr g 267 (bK H (.slice A rest.length c) M))/\Hid (wz.grownBy wr (some g))/\Hid (gM (M/64) o6 X=gM (rest.length/64) H rest)/\Hid (X.drop (64*(M/64))=rest.drop (64*(rest.length/64)))) (λ _ wr=>match wr.cell? ⟨g,8,none⟩with|some (.slice _ n _)=>n|_=>0)
 case atStart=>exact⟨[e0,e1,e2,e3,e4,e5,e6,e7],vJ,A2,c2,by rw[fa.out];exact bT,fj,aaD,ae cm.out.2.1,ae cm.out.2.2.1,ae (by rw[fa.out];exact cm.out.1),ae ⟨rfl,rfl,rfl,ai _,λ _ _ _=>rfl⟩,ae cm.out.2.2.2.1.1,ae cm.out.2.2.2.1.2⟩
 case round=>
  clear aaD;obtain⟨H,rest,A,c,cR,bT,HW,HR,HO,gi,xy,HE,HD⟩:=hrel;obtain⟨a0,a1,a2,a3,a4,a5,a6,a7,rfl⟩:=eight HW.out.1;obtain⟨m,hm⟩:∃m,rest.length=m:=⟨_,rfl⟩;have HM:=ae hm;rw[hm]at gi cR;have c8:=gi.out.cell_ 8 (.slice A m c) rfl;have R4:=ae c8;by_cases uU:64<=m
  ·have Y5:(64:Int)<=(m:Int):=aa;have alo:(64:Int)<=(c:Int):=aa;obtain⟨bb,oo,rfl,aV⟩:=HR.out (by intro e;have:=je rest;rw[e,hm]at this;simp at this;omega);have gD:=ae aV;have xC:Hid (Rd wr (some ⟨bb,oo,none⟩) (aJ (rest.take 64))):=ae (by have:=HR.out.take 64;unfold aJ at this⊢;rw[<-List.map_take]at this;exact this);have pK:=Q1 HW.out (rest.take 64);obtain⟨b0,b1,b2,b3,b4,b5,b6,b7,cd⟩:=eight pK.1;rw[cd]at pK;have o8:=ae cd;have IG:=ae pK;clear aV cd pK hm;have c0:=gi.out.cell_ 0 (.int .u32 (a0:Nat)) rfl;have c1:=gi.out.cell_ 1 (.int .u32 (a1:Nat)) rfl;have c2:=gi.out.cell_ 2 (.int .u32 (a2:Nat)) rfl;have c3:=gi.out.cell_ 3 (.int .u32 (a3:Nat)) rfl;have c4:=gi.out.cell_ 4 (.int .u32 (a4:Nat)) rfl;have c5:=gi.out.cell_ 5 (.int .u32 (a5:Nat)) rfl;have c6:=gi.out.cell_ 6 (.int .u32 (a6:Nat)) rfl;have c7:=gi.out.cell_ 7 (.int .u32 (a7:Nat)) rfl;go_wp2_with fail;go_region_with (go_at_call 173;go_loud ((with_reducible refine(ID.out _ (some ⟨bb,oo,none⟩) c (rest.take 64) a0 a1 a2 a3 a4 a5 a6 a7 b0 b1 b2 b3 b4 b5 b6 b7 HW.out (by rw[ba,HM.out];omega) (Rd.YR xC.out) o8.out).mono ?_);rintro e w3 ⟨rfl,aO⟩;have bF:Bk w3 g 267 (bK [a0,a1,a2,a3,a4,a5,a6,a7] (.slice (some ⟨bb,oo,none⟩) m c) M):=gi.out.aL (GB aO);have d0:=bF.cell_ 0 (.int .u32 (a0:Nat)) rfl;have z0:=bF.frozen 0;have d1:=bF.cell_ 1 (.int .u32 (a1:Nat)) rfl;have z1:=bF.frozen 1;have d2:=bF.cell_ 2 (.int .u32 (a2:Nat)) rfl;have z2:=bF.frozen 2;have d3:=bF.cell_ 3 (.int .u32 (a3:Nat)) rfl;have z3:=bF.frozen 3;have d4:=bF.cell_ 4 (.int .u32 (a4:Nat)) rfl;have z4:=bF.frozen 4;have d5:=bF.cell_ 5 (.int .u32 (a5:Nat)) rfl;have z5:=bF.frozen 5;have d6:=bF.cell_ 6 (.int .u32 (a6:Nat)) rfl;have z6:=bF.frozen 6;have d7:=bF.cell_ 7 (.int .u32 (a7:Nat)) rfl;have z7:=bF.frozen 7))
   all_goals
    have tR:=GB aO
    have eZ:=((((((((bF.aP 0 (.int .u32 (b0:Nat))).aP 1 (.int .u32 (b1:Nat))).aP 2 (.int .u32 (b2:Nat))).aP 3 (.int .u32 (b3:Nat))).aP 4 (.int .u32 (b4:Nat))).aP 5 (.int .u32 (b5:Nat))).aP 6 (.int .u32 (b6:Nat))).aP 7 (.int .u32 (b7:Nat)))
    rw[ak6]at eZ
    have aaL:wz.grownBy w3 (some g):=aQ xy.out ⟨tR.os,tR.tape,tR.output,tR.size,λ k hk _=>tR.block k hk⟩
    have aaM:=(aQ (aQ (aQ (aQ (aQ (aQ (aQ (aQ aaL (aY w3 g 0 (.int .u32 (b0:Nat)))) (aY (w3.setCell ⟨g,0,none⟩ (.int .u32 (b0:Nat))) g 1 (.int .u32 (b1:Nat)))) (aY ((w3.setCell ⟨g,0,none⟩ (.int .u32 (b0:Nat))).setCell ⟨g,1,none⟩ (.int .u32 (b1:Nat))) g 2 (.int .u32 (b2:Nat)))) (aY (((w3.setCell ⟨g,0,none⟩ (.int .u32 (b0:Nat))).setCell ⟨g,1,none⟩ (.int .u32 (b1:Nat))).setCell ⟨g,2,none⟩ (.int .u32 (b2:Nat))) g 3 (.int .u32 (b3:Nat)))) (aY ((((w3.setCell ⟨g,0,none⟩ (.int .u32 (b0:Nat))).setCell ⟨g,1,none⟩ (.int .u32 (b1:Nat))).setCell ⟨g,2,none⟩ (.int .u32 (b2:Nat))).setCell ⟨g,3,none⟩ (.int .u32 (b3:Nat))) g 4 (.int .u32 (b4:Nat)))) (aY (((((w3.setCell ⟨g,0,none⟩ (.int .u32 (b0:Nat))).setCell ⟨g,1,none⟩ (.int .u32 (b1:Nat))).setCell ⟨g,2,none⟩ (.int .u32 (b2:Nat))).setCell ⟨g,3,none⟩ (.int .u32 (b3:Nat))).setCell ⟨g,4,none⟩ (.int .u32 (b4:Nat))) g 5 (.int .u32 (b5:Nat)))) (aY ((((((w3.setCell ⟨g,0,none⟩ (.int .u32 (b0:Nat))).setCell ⟨g,1,none⟩ (.int .u32 (b1:Nat))).setCell ⟨g,2,none⟩ (.int .u32 (b2:Nat))).setCell ⟨g,3,none⟩ (.int .u32 (b3:Nat))).setCell ⟨g,4,none⟩ (.int .u32 (b4:Nat))).setCell ⟨g,5,none⟩ (.int .u32 (b5:Nat))) g 6 (.int .u32 (b6:Nat)))) (aY (((((((w3.setCell ⟨g,0,none⟩ (.int .u32 (b0:Nat))).setCell ⟨g,1,none⟩ (.int .u32 (b1:Nat))).setCell ⟨g,2,none⟩ (.int .u32 (b2:Nat))).setCell ⟨g,3,none⟩ (.int .u32 (b3:Nat))).setCell ⟨g,4,none⟩ (.int .u32 (b4:Nat))).setCell ⟨g,5,none⟩ (.int .u32 (b5:Nat))).setCell ⟨g,6,none⟩ (.int .u32 (b6:Nat))) g 7 (.int .u32 (b7:Nat))))
    have dL:=HR.out.below tR
    have fK:=((((((((dL.only (aY w3 g 0 (.int .u32 (b0:Nat))) HO.out).only (aY (w3.setCell ⟨g,0,none⟩ (.int .u32 (b0:Nat))) g 1 (.int .u32 (b1:Nat))) HO.out).only (aY ((w3.setCell ⟨g,0,none⟩ (.int .u32 (b0:Nat))).setCell ⟨g,1,none⟩ (.int .u32 (b1:Nat))) g 2 (.int .u32 (b2:Nat))) HO.out).only (aY (((w3.setCell ⟨g,0,none⟩ (.int .u32 (b0:Nat))).setCell ⟨g,1,none⟩ (.int .u32 (b1:Nat))).setCell ⟨g,2,none⟩ (.int .u32 (b2:Nat))) g 3 (.int .u32 (b3:Nat))) HO.out).only (aY ((((w3.setCell ⟨g,0,none⟩ (.int .u32 (b0:Nat))).setCell ⟨g,1,none⟩ (.int .u32 (b1:Nat))).setCell ⟨g,2,none⟩ (.int .u32 (b2:Nat))).setCell ⟨g,3,none⟩ (.int .u32 (b3:Nat))) g 4 (.int .u32 (b4:Nat))) HO.out).only (aY (((((w3.setCell ⟨g,0,none⟩ (.int .u32 (b0:Nat))).setCell ⟨g,1,none⟩ (.int .u32 (b1:Nat))).setCell ⟨g,2,none⟩ (.int .u32 (b2:Nat))).setCell ⟨g,3,none⟩ (.int .u32 (b3:Nat))).setCell ⟨g,4,none⟩ (.int .u32 (b4:Nat))) g 5 (.int .u32 (b5:Nat))) HO.out).only (aY ((((((w3.setCell ⟨g,0,none⟩ (.int .u32 (b0:Nat))).setCell ⟨g,1,none⟩ (.int .u32 (b1:Nat))).setCell ⟨g,2,none⟩ (.int .u32 (b2:Nat))).setCell ⟨g,3,none⟩ (.int .u32 (b3:Nat))).setCell ⟨g,4,none⟩ (.int .u32 (b4:Nat))).setCell ⟨g,5,none⟩ (.int .u32 (b5:Nat))) g 6 (.int .u32 (b6:Nat))) HO.out).only (aY (((((((w3.setCell ⟨g,0,none⟩ (.int .u32 (b0:Nat))).setCell ⟨g,1,none⟩ (.int .u32 (b1:Nat))).setCell ⟨g,2,none⟩ (.int .u32 (b2:Nat))).setCell ⟨g,3,none⟩ (.int .u32 (b3:Nat))).setCell ⟨g,4,none⟩ (.int .u32 (b4:Nat))).setCell ⟨g,5,none⟩ (.int .u32 (b5:Nat))).setCell ⟨g,6,none⟩ (.int .u32 (b6:Nat))) g 7 (.int .u32 (b7:Nat))) HO.out)
    clear d0 z0 d1 z1 d2 z2 d3 z3 d4 z4 d5 z5 d6 z6 d7 z7 aO tR aaL dL bF
    generalize((((((((w3.setCell ⟨g,0,none⟩ (.int .u32 (b0:Nat))).setCell ⟨g,1,none⟩ (.int .u32 (b1:Nat))).setCell ⟨g,2,none⟩ (.int .u32 (b2:Nat))).setCell ⟨g,3,none⟩ (.int .u32 (b3:Nat))).setCell ⟨g,4,none⟩ (.int .u32 (b4:Nat))).setCell ⟨g,5,none⟩ (.int .u32 (b5:Nat))).setCell ⟨g,6,none⟩ (.int .u32 (b6:Nat))).setCell ⟨g,7,none⟩ (.int .u32 (b7:Nat)))=w4 at*
    have e8:=eZ.cell_ 8 (.slice (some ⟨bb,oo,none⟩) m c) rfl
    have z8:=eZ.frozen 8
    have cU:=ae eZ
    have aaN:=ae aaM
    have tS:=ae fK
    clear eZ aaM fK c0 c1 c2 c3 c4 c5 c6 c7 c8 xy HR gD xC ID gi
    have sC:Hid (Rd w4 (some ⟨bb,oo+64,none⟩) (aJ (rest.drop 64))):=ae (by
     obtain⟨alq,alr,he,aV⟩:=tS.out (by intro e;have:=je rest;rw[e,HM.out]at this;simp at this;omega)
     cases he
     exact Rd.YQ aV 64)
    have kM:(rest.drop 64).length=m-64:=by rw[cw,HM.out]
    have vd:Hid (gM (M/64) o6 X=gM ((rest.drop 64).length/64) [b0,b1,b2,b3,b4,b5,b6,b7] (rest.drop 64)):=ae (by rw[HE.out,YP _ _ (by rw[HM.out];exact uU),o8.out])
    have AG:Hid (X.drop (64*(M/64))=(rest.drop 64).drop (64*((rest.drop 64).length/64))):=ae (by rw[HD.out,ak4 _ (by rw[HM.out];exact uU)])
    have dw:=λ v=>cU.out.aP 8 v
    simp only[Q3]at dw
    have mq:=ae dw
    have iX:=ae kM
    clear dw kM
    by_cases sD:c=64
    ·subst sD;obtain rfl:m=64:=aa;have FV:rest.drop 64=[]:=dP (by rw[iX.out]);have xD:=ae FV;clear FV;go_wp2_with fail;go_round
     case rel=>exact⟨[b0,b1,b2,b3,b4,b5,b6,b7],rest.drop 64,some ⟨bb,oo,none⟩,0,by rw[iX.out];omega,aa,IG,ae (by rw[xD.out];exact Rd.nil _ _),ae (by rw[xD.out];intro h;exact absurd rfl h),ae (by rw[iX.out];exact mq.out _),ae (aQ aaN.out (aY w4 g 8 _)),vd,AG⟩
     case measure=>
      rw[(mq.out (.slice (some ⟨bb,oo,none⟩) 0 0)).cell_ 8 (.slice (some ⟨bb,oo,none⟩) 0 0) rfl];first|(rw[R4.out];simp)|simp
    ·have als:¬((64:Int)=(c:Int)):=aa;have alu:¬((c:Int)=64):=aa
     have aaO:th g (some ⟨bb,oo+64,none⟩) (aJ (rest.drop 64)):=λ h ad hA=>by
      have h1:=HO.out (by intro e;have:=je rest;rw[e,HM.out]at this;simp at this;omega) _ rfl
      cases hA
      exact h1
     have ML:=ae aaO;clear aaO;go_wp2_with fail;go_round
     case rel=>exact⟨[b0,b1,b2,b3,b4,b5,b6,b7],rest.drop 64,some ⟨bb,oo+64,none⟩,c-64,by rw[iX.out];omega,aa,IG,ae (sC.out.only (aY w4 g 8 _) ML.out),ML,ae (by rw[iX.out];exact mq.out _),ae (aQ aaN.out (aY w4 g 8 _)),vd,AG⟩
     case measure=>
      rw[(mq.out (.slice (some ⟨bb,oo+64,none⟩) (m-64) (c-64))).cell_ 8 (.slice (some ⟨bb,oo+64,none⟩) (m-64) (c-64)) rfl,R4.out];show m-64<m;omega
  ·have Y5:(m:Int)<64:=aa;have hE:gM (M/64) o6 X=[a0,a1,a2,a3,a4,a5,a6,a7]:=by rw[HE.out,HM.out,show m/64=0 by omega];rfl
   have hD:X.drop (64*(M/64))=rest:=by rw[HD.out,HM.out,show m/64=0 by omega];rfl
   have Da:M%64=m:=by
    have:=congrArg List.length hD;rw[cw,nk.out,HM.out]at this;omega
   have pU:=ae (af hE (af hD Da));clear hE hD Da hm ID;go_wp2_with (at_builtin;go_must (refine YN rfl (.const (.slice none 0 0)) (.tmp 55) 54 rfl 5 Fp rfl A m c rest HR.out HM.out rfl aa ?_);intro A5 c5 w5 qG YU jo Fs yV bE;have dw:Bk w5 g 267 (bK [a0,a1,a2,a3,a4,a5,a6,a7] (.slice A m c) M):=gi.out.aL bE;have e8:=dw.cell_ 8 (.slice A m c) rfl;have z8:=dw.frozen 8)
   have vG:(w5.setCell ⟨g,8,none⟩ (.slice A5 m c5)).ownsRow 0 5 1 (.slice A5 m c5) m (aJ rest):=by
    have h1:=yV;exact(anB h1).kept (aY w5 g 8 _) (.inr (fx h1 dw aA))
   refine eY (eQ rfl _ _ _) rfl ⟨rfl,(Value.slice A5 m c5).ownBlock,?_,?_,?_⟩
   ·rw[gG.out];refine⟨A5,c5,?_,?_,?_⟩
    ·rw[nk.out,pU.out.1,pU.out.2.2];have:=dw.aP 8 (.slice A5 m c5);rw[Q3]at this;exact this
    ·rw[nk.out,pU.out.2.1,pU.out.2.2];exact vG
    ·rw[nk.out,pU.out.2.2]
   ·have hk:=aQ (aQ xy.out ⟨bE.os,bE.tape,bE.output,bE.size,λ k hk _=>bE.block k hk⟩) (aY w5 g 8 (.slice A5 m c5));exact cm.out.2.2.2.2.trans (KX.sJ (X:=λ k=>k=g∨some k=r) hk (.inl rfl)) λ _ _ h=>h
   ·cases A5 with
    |none=>exact .inl rfl
    |some ad=>exact .inr ⟨ad.block,rfl,b_ cm.out.2.2.2.2.size (b_ xy.out.size (Fs ad rfl))⟩
theorem qZ.new (w:World):qZ (w.alloc (.cells (bK o6 (.slice none 0 0) 0) 267)) w.heap.size none []:=⟨none,0,Bk.new w _ _,jD _ _ _ _,rfl⟩
theorem qZ.lt {w:World}{g:Nat}{r:Option Nat}{l:List UInt8}(h:qZ w g r l):g<w.heap.size/\∀k,r=some k->k<w.heap.size:=by
 obtain⟨A,c,hB,aw,hr⟩:=h;exact⟨hB.lt,λ k hk=>(aw.lt k (hr.trans hk)).2⟩
theorem qZ.below {w w':World}{g:Nat}{r:Option Nat}{l:List UInt8}(h:qZ w g r l)(hb:Below w.heap.size w w'):qZ w' g r l:=by
 obtain⟨A,c,hB,aw,hr⟩:=h;exact⟨A,c,hB.aL hb,kL aw hb,hr⟩
theorem aaP (l:List UInt8)(hl:l.length<=1000000000)(g:Nat)(r:Option Nat)(w:World)(h:qZ w g r l):
 Calls Tryz.prog 117 #[.pointer (some ⟨g,0,none⟩)] w λ e w'=>e= .returned (.string (av (ky l)))/\Below w.heap.size w w':=by
 obtain⟨A,c,hB,aw,_⟩:=h;have R5:lP (gM (l.length/64) o6 l):=MH _ _ _ Q2;obtain⟨a0,a1,a2,a3,a4,a5,a6,a7,hE⟩:=eight R5.1;have hs:=alv l;rw[hE]at R5 hB hs;obtain⟨_,A',c',e,_,_,hr⟩:=Sl.own aw
 cases e
 refine(alg a0 a1 a2 a3 a4 a5 a6 a7 (l.drop (64*(l.length/64))) l.length (l.length%64) g A c w hl rfl (by rw[cw];omega) R5 hB hr).mono ?_;rintro e w' ⟨rfl,hb⟩;refine⟨?_,hb⟩;rw[hs];rfl
structure q' (w0 w:World)(g:Nat)(r:Option Nat)(l:List UInt8):Prop where
 at_:qZ w g r l
 bl:Below w0.heap.size w0 w
 own:w0.heap.size<=g/\∀k,r=some k->w0.heap.size<=k
theorem q'.step {w0 w w':World}{g:Nat}{r r':Option Nat}{l l':List UInt8}(h:q' w0 w g r l)(h2:qZ w' g r' l')(hk:KX (λ k=>k=g∨some k=r) w w')(hr:r'=none∨∃k,r'=some k/\w.heap.size<=k):q' w0 w' g r' l':=
 ⟨h2,h.bl.trans (hk.below h.bl.size λ k e=>by
  rcases e with e|e
  ·rw[e];exact h.own.1
  ·exact h.own.2 k e.symm),h.own.1,λ k e=>by
  rcases hr with e2|⟨j,e2,hj⟩
  ·rw[e2]at e;cases e
  ·rw[e2]at e;cases e;exact b_ h.bl.size hj⟩
theorem q'.below {w0 w w':World}{g:Nat}{r:Option Nat}{l:List UInt8}(h:q' w0 w g r l)(hb:Below w.heap.size w w'):q' w0 w' g r l:=⟨h.at_.below hb,h.bl.trans (hb.mono h.bl.size),h.own⟩
def dO (ss:List ByteArray):List UInt8:=ss.flatMap ByteArray.toList
def cO (ss:List ByteArray):List Value:=ss.map Value.string
theorem aaQ {ss:List ByteArray}{i:Nat}{s:ByteArray}(h:ss[i]? =some s):dO (ss.take (i+1))=dO (ss.take i)++s.toList:=by
 unfold dO;rw[eu,h,Cz];simp
theorem aaR (ss:List ByteArray)(i:Nat):(dO (ss.take i)).length<=(dO ss).length:=by
 unfold dO;conv=>rhs;rw[<-gI i ss,Cz,ag]
 omega
theorem Np (ss:List ByteArray)(A:Option Addr)(n c:Nat)(hn:ss.length=n)(fk:n<=1000)(hl:(dO ss).length<=1000000000)(w:World)(hr:Rd w A (cO ss)):
 Calls Tryz.prog 116 #[.slice A n c] w λ e w'=>e= .returned (.string (av (ky (dO ss))))/\Below w.heap.size w w':=by
 have HN:=ae hn;have HR:=ae hr;have HL:=ae hl;clear hn hr hl;go_enter Tryz.func116,Tryz.ntmps116;go_wp2_with fail;refine(YO _).mono ?_;rintro e w1 ⟨rfl,eC⟩;obtain⟨g,hg⟩:∃g,w.heap.size=g:=⟨_,rfl⟩;have H1:Hid (∃r,q' w w1 g r (dO (ss.take 0))):=ae ⟨none,by rw[eC,<-hg];exact⟨qZ.new w,(aB _ w).alloc (ai _) _,ai _,aj⟩⟩;rw[hg];clear eC hg;go_wp2_with fail;go_loopw [9] (λ vi wr=>∃i:Nat,vi= .int .i64 (i:Nat)/\i<=n/\Hid (∃r,q' w wr g r (dO (ss.take i)))) (λ vi _=>n-vnat vi)
 case atStart=>exact⟨0,rfl,aa,H1⟩
 case round=>
  clear H1;obtain⟨i,rfl,hi,HX⟩:=hrel;by_cases ao:(i:Int)<(n:Int)
  ·obtain⟨s,hs⟩:∃s,ss[i]? =some s:=⟨_,aZ (by rw[HN.out];omega)⟩;have fe:(cO ss)[i]? =some (.string s):=by unfold cO;rw[eH,hs];rfl
   obtain⟨b,o,rfl,hc⟩:=HR.out (by intro e;rw[e]at fe;cases fe);have c0:=hc _ _ fe;obtain⟨r,hX⟩:=HX.out;have sH:wr.cell? ⟨b,o+i,none⟩=some (.string s):=(hX.bl.cell (cQ w _ c0)).trans c0;have jS:=aaQ hs;have il:=aaR ss (i+1);rw[jS,ag,aD]at il;have Br:=ae (R1 _ s g r wr (by have:=HL.out;omega) hX.at_);have HS:=ae (af hX jS);clear hs fe hc c0 hX HX jS il;go_wp2_with fail;(with_reducible refine Br.out.mono ?_);rintro e w2 ⟨rfl,r2,h2,bI,cH⟩;have H2:Hid (∃r,q' w w2 g r (dO (ss.take (i+1)))):=ae ⟨r2,by rw[HS.out.2];exact HS.out.1.step h2 bI cH⟩;clear h2 bI cH Br HS sH;go_wp2_with fail;go_roundw
   case rel=>exact⟨i+1,by first|rfl|go_num,aa,H2⟩
   case measure=>simp[vnat];omega
  ·obtain rfl:i=n:=aa;obtain⟨r,hX⟩:=HX.out;rw[bQ (by rw[HN.out];omega)]at hX;have j5:=ae (aaP _ HL.out g r wr hX.at_);have HB:=ae hX.bl;clear hX HX;go_wp2_with fail;(with_reducible refine j5.out.mono ?_);rintro e w2 ⟨rfl,aC⟩;have bG:=ae (HB.out.trans (aC.mono HB.out.size));clear aC j5;go_wp2_with fail;go_ret;exact⟨rfl,bG.out⟩
