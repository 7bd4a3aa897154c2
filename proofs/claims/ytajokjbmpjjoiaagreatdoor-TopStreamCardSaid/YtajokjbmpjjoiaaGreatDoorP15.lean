import Derived.Test.YtajokjbmpjjoiaaGreatDoorP14
import Derived.ChangeKeysEq
import Derived.Laws.CopyOwn
set_option maxRecDepth 20000
set_option maxHeartbeats 0
namespace Go.Proofs.YtajokjbmpjjoiaaGreatDoor
section
open Go.RowKit
theorem QX (t e:TypeId)(n:Nat)(C:Array Value)(i:Nat)(v:Value)(w:World)(h:Tryz.prog.underlying t=some (.array n e))(YD:(Tryz.prog.info? e).isSome=true)(hc:Tryz.prog.cellsOf e=1)(he:Tryz.prog.plainKey e=true)(hi:i<n)(hv:C[i]? =some v):
 (Instr.index t (.agg C) (.int .i64 (i:Int))).run Tryz.prog w= .ok v w:=by
 have hn:(0<=(i:Int)/\(i:Int)<(n:Int)):=aa;obtain⟨inf,akY⟩:=Option.isSome_iff_exists.1 YD;unfold Instr.index;simp only[asIntOf,dZ,Sem.run_pure,Result.andThen_ok,rV h,if_pos hn,run_sizeOf _ akY,hc,Int.toNat_natCast,yh];exact run_part_plain _ he hv
end
section
open Go.RowKit Go.Sort
structure yT (w wr:World)(H V:List Nat):Prop where
 bh:Bk wr w.heap.size 265 (gO H)
 bz:∃z,Bk wr (w.heap.size+1) 265 z/\z.size=8
 bv:Bk wr (w.heap.size+1+1) 265 (gO V)
 bl:Below w.heap.size w wr
theorem yT.below {w wr w':World}{H V:List Nat}(h:yT w wr H V)(hb:Below wr.heap.size wr w'):yT w w' H V:=
 ⟨h.bh.aL hb,by obtain⟨z,h1,h2⟩:=h.bz;exact⟨z,h1.aL hb,h2⟩,h.bv.aL hb,h.bl.trans (hb.mono h.bl.size)⟩
theorem akZ (w:World)(n:Nat)(os:Array Obj):Below w.heap.size w (Sort.grow (w.drewN n) os):=
 ⟨rfl,rfl,rfl,by show w.heap.size<=(w.heap++os).size;rw[wI];omega,λ k hk=>by show(w.heap++os)[k]? =w.heap[k]?;exact GA hk⟩
theorem YE (w:World)(n:Nat)(os:Array Obj):Below w.heap.size w (Sort.grow (w.drewN n) os):=akZ w n os
theorem Fo {x k r:Nat}(hr:gJ x k=r)(h1:x<4294967296)(hk:k<=32)(w:World):
 Calls Tryz.prog 235 #[.int .u32 x,.int .i64 (k:Nat)] w λ e w'=>e= .returned (.int .u32 (r:Nat))/\∃q kA,w'=Sort.grow (w.drewN q) kA:=by
 subst hr;exact(Im x k w h1 hk).mono λ e w' ⟨a,m,hm⟩=>⟨a,m,#[],by rw[hm,Sort.grow_empty]⟩
theorem YF (h0 h1 h2 h3 h4 h5 h6 h7:Nat)(b:List UInt8)(A:Option Addr)(c:Nat)(hn:b.length=64)(w:World)(hr:Rd w A (aJ b))(hH:lP [h0,h1,h2,h3,h4,h5,h6,h7]):
 Calls Tryz.prog 173 #[.agg #[.int .u32 (h0:Nat),.int .u32 (h1:Nat),.int .u32 (h2:Nat),.int .u32 (h3:Nat),.int .u32 (h4:Nat),.int .u32 (h5:Nat),.int .u32 (h6:Nat),.int .u32 (h7:Nat)],.slice A 64 c] w λ e w'=>e= .returned (.agg (gO (sv [h0,h1,h2,h3,h4,h5,h6,h7] b)))/\Below w.heap.size w w':=by
 have mixed:Tryz.prog.follows Departure.mixedOrders=true:=ah
 have QY:Hid (∀w',Below w.heap.size w w'->Calls Tryz.prog 234 #[.slice A 64 c] w' λ e bO=>e= .returned (.agg (gh (lu 48 (gC b))))/\Below w'.heap.size w' bO):=ae λ w' hb=>by
  have:=akJ b A 64 c hn (ai _) w' (hr.below hb);rw[bQ aa]at this;exact this
 have hS:=MD (W:=gC b) (MC _) (by have:=QO 16 b aa;rw[bQ aa]at this;exact this) 48 aa;obtain⟨WW,QZ⟩:∃WW,lu 48 (gC b)=WW:=⟨_,rfl⟩;rw[QZ]at hS QY;have o8:=ae (show sv [h0,h1,h2,h3,h4,h5,h6,h7] b=List.zipWith (λ x y=>(x+y)%4294967296) [h0,h1,h2,h3,h4,h5,h6,h7] (qQ [h0,h1,h2,h3,h4,h5,h6,h7] su WW)by unfold sv;rw[QZ]);have MF:=ae hS;have HH:=ae hH;have YG:Hid (∀i,i<64->(gh WW)[i]? =some (.int .u32 (WW.getD i 0:Nat))):=ae λ i hi=>Iq WW i (by rw[hS.2];exact hi);obtain⟨C,hC⟩:∃C,gh WW=C:=⟨_,rfl⟩;rw[hC]at QY YG
 have H3:Hid (yT w (((w.alloc (.cells (gO [h0,h1,h2,h3,h4,h5,h6,h7]) 265)).alloc (.cells #[.int .u32 0,.int .u32 0,.int .u32 0,.int .u32 0,.int .u32 0,.int .u32 0,.int .u32 0,.int .u32 0] 265)).alloc (.cells (gO [h0,h1,h2,h3,h4,h5,h6,h7]) 265)) [h0,h1,h2,h3,h4,h5,h6,h7] [h0,h1,h2,h3,h4,h5,h6,h7]):=ae (by
  refine⟨((Bk.new w _ _).alloc _).alloc _,⟨#[.int .u32 0,.int .u32 0,.int .u32 0,.int .u32 0,.int .u32 0,.int .u32 0,.int .u32 0,.int .u32 0],?_,rfl⟩,?_,(((aB _ w).alloc (ai _) _).alloc aj _).alloc (by simp;omega) _⟩
  ·have:=(Bk.new (w.alloc (.cells (gO [h0,h1,h2,h3,h4,h5,h6,h7]) 265)) 265 #[.int .u32 0,.int .u32 0,.int .u32 0,.int .u32 0,.int .u32 0,.int .u32 0,.int .u32 0,.int .u32 0]).alloc (.cells (gO [h0,h1,h2,h3,h4,h5,h6,h7]) 265);rw[lY]at this;exact this
  ·have:=Bk.new ((w.alloc (.cells (gO [h0,h1,h2,h3,h4,h5,h6,h7]) 265)).alloc (.cells #[.int .u32 0,.int .u32 0,.int .u32 0,.int .u32 0,.int .u32 0,.int .u32 0,.int .u32 0,.int .u32 0] 265)) 265 (gO [h0,h1,h2,h3,h4,h5,h6,h7]);rw[lY,lY]at this;exact this)
 clear hn hr hH hS QZ hC;go_enter Tryz.func173,Tryz.ntmps173;go_wp2_with fail;refine(QY.out _ H3.out.bl).mono ?_;rintro e w4 ⟨rfl,cu⟩;have H4:=ae (H3.out.below cu);clear cu;go_wp2_with fail;go_loopw [16] (λ vi wr=>∃(i:Nat) (V:List Nat),vi= .int .i64 i/\i<=64/\Hid (V=qQ [h0,h1,h2,h3,h4,h5,h6,h7] (su.take i) (WW.take i))/\Hid (yT w wr [h0,h1,h2,h3,h4,h5,h6,h7] V)) (λ vi _=>64-(intOf vi).toNat)
 case atStart=>exact⟨0,_,rfl,aa,ae (by simp[qQ,su]),H4⟩
 case round=>
  clear H3 H4;obtain⟨i,V,rfl,hi,HV,HM⟩:=hrel;by_cases ao:i<64
  ·have lL:(i:Int)<64:=aa;have yU:lP V:=by rw[HV.out];exact ME _ _ _ HH.out
   obtain⟨v0,v1,v2,v3,v4,v5,v6,v7,rfl⟩:=eight yU.1;have c0:=HM.out.bv.cell 0;have c1:=HM.out.bv.cell 1;have c2:=HM.out.bv.cell 2;have c3:=HM.out.bv.cell 3;have c4:=HM.out.bv.cell 4;have c5:=HM.out.bv.cell 5;have c6:=HM.out.bv.cell 6;have c7:=HM.out.bv.cell 7;simp only[gO,List.map_cons,List.map_nil,gW,eF,lZ]at c0 c1 c2 c3 c4 c5 c6 c7;obtain⟨wi,Fb⟩:∃x,WW.getD i 0=x:=⟨_,rfl⟩;obtain⟨ki,Ax⟩:∃x,su.getD i 0=x:=⟨_,rfl⟩;have xz:=YG.out i ao;rw[Fb]at xz;have ak0:wi<4294967296:=by rw[<-Fb];exact Ir MF.out.1 (by rw[MF.out.2];exact ao)
   have y0:v0<4294967296:=yU.2 _ aj;have y1:v1<4294967296:=yU.2 _ aj;have y2:v2<4294967296:=yU.2 _ aj;have y4:v4<4294967296:=yU.2 _ aj;have y5:v5<4294967296:=yU.2 _ aj;have y6:v6<4294967296:=yU.2 _ aj;have y7:v7<4294967296:=yU.2 _ aj;obtain⟨r1,gN⟩:∃r,gJ v4 6=r:=⟨_,rfl⟩;obtain⟨r2,cH⟩:∃r,gJ v4 11=r:=⟨_,rfl⟩;obtain⟨r3,dL⟩:∃r,gJ v4 25=r:=⟨_,rfl⟩;obtain⟨r4,fK⟩:∃r,gJ v0 2=r:=⟨_,rfl⟩;obtain⟨r5,jo⟩:∃r,gJ v0 13=r:=⟨_,rfl⟩;obtain⟨r6,nU⟩:∃r,gJ v0 22=r:=⟨_,rfl⟩;have T1:Hid (∀w',Calls Tryz.prog 235 #[.int .u32 v4,.int .i64 6] w' λ e bO=>e= .returned (.int .u32 (r1:Nat))/\∃q kA,bO=Sort.grow (w'.drewN q) kA):=ae λ w'=>Fo gN y4 aa w';have T2:Hid (∀w',Calls Tryz.prog 235 #[.int .u32 v4,.int .i64 11] w' λ e bO=>e= .returned (.int .u32 (r2:Nat))/\∃q kA,bO=Sort.grow (w'.drewN q) kA):=ae λ w'=>Fo cH y4 aa w';have T3:Hid (∀w',Calls Tryz.prog 235 #[.int .u32 v4,.int .i64 25] w' λ e bO=>e= .returned (.int .u32 (r3:Nat))/\∃q kA,bO=Sort.grow (w'.drewN q) kA):=ae λ w'=>Fo dL y4 aa w';have T4:Hid (∀w',Calls Tryz.prog 235 #[.int .u32 v0,.int .i64 2] w' λ e bO=>e= .returned (.int .u32 (r4:Nat))/\∃q kA,bO=Sort.grow (w'.drewN q) kA):=ae λ w'=>Fo fK y0 aa w';have T5:Hid (∀w',Calls Tryz.prog 235 #[.int .u32 v0,.int .i64 13] w' λ e bO=>e= .returned (.int .u32 (r5:Nat))/\∃q kA,bO=Sort.grow (w'.drewN q) kA):=ae λ w'=>Fo jo y0 aa w';have T6:Hid (∀w',Calls Tryz.prog 235 #[.int .u32 v0,.int .i64 22] w' λ e bO=>e= .returned (.int .u32 (r6:Nat))/\∃q kA,bO=Sort.grow (w'.drewN q) kA):=ae λ w'=>Fo nU y0 aa w';have TR:Hid (∀w',Calls Tryz.prog 236 #[.int .i64 i] w' λ e bO=>e= .returned (.int .u32 (ki:Nat))/\∃q kA,bO=Sort.grow (w'.drewN q) kA):=ae λ w'=>by rw[<-Ax];exact akE i w' ao
   have HO:=ae (akQ v4 v5 v6 v7 ki wi r1 r2 r3 y4 y5 y6 gN cH dL);have HT:=ae (akR v0 v1 v2 r4 r5 r6 y0 y1 y2 fK jo nU);obtain⟨one,uY⟩:∃o,Io v4 v5 v6 v7 ki wi=o:=⟨_,rfl⟩;obtain⟨two,Q0⟩:∃o,Mo v0 v1 v2=o:=⟨_,rfl⟩
   have HN:=ae (show qQ [h0,h1,h2,h3,h4,h5,h6,h7] (su.take (i+1)) (WW.take (i+1))=[(one+two)%4294967296,v0,v1,v2,(v3+one)%4294967296,v4,v5,v6]by
    rw[YA i [h0,h1,h2,h3,h4,h5,h6,h7] su WW ao (by rw[MF.out.2];exact ao),<-HV.out,Ax,Fb,<-uY,<-Q0];rfl)
   rw[uY]at HO;rw[Q0]at HT;clear gN cH dL fK jo nU ak0 y0 y1 y2 y4 y5 y6 y7 Ax Fb yU uY Q0 HV;have Dp:∀w',(Instr.index 344 (.agg C) (.int .i64 (i:Int))).run Tryz.prog w'= .ok (.int .u32 (wi:Nat)) w':=λ w'=>QX 344 233 64 C i _ w' Tryz.underlying344 ah ah ah ao xz;go_wp2_with fail;go_quiet (fail);go_wp2_with fail;have Dq:Hid (yT w (wr.drewN nq) [h0,h1,h2,h3,h4,h5,h6,h7] [v0,v1,v2,v3,v4,v5,v6,v7]):=ae (HM.out.below (QQ (aB _ _) nq));clear c0 c1 c2 c3 c4 c5 c6 c7 xz HM;generalize wr.drewN nq=wa at*;have AR:=ae (af Dq.out.bv trivial);have lv:=Dq.out.bv.lt;have c5:∀n os,(grow (wa.drewN n) os).cell? ⟨w.heap.size+1+1,5,none⟩=some (.int .u32 (v5:Nat)):=λ n os=>cell_grown (w:=wa) (a:=⟨w.heap.size+1+1,5,none⟩) lv ((AR.out.1.cell 5).trans rfl) n os;have c6:∀n os,(grow (wa.drewN n) os).cell? ⟨w.heap.size+1+1,6,none⟩=some (.int .u32 (v6:Nat)):=λ n os=>cell_grown (w:=wa) (a:=⟨w.heap.size+1+1,6,none⟩) lv ((AR.out.1.cell 6).trans rfl) n os;have c7:∀n os,(grow (wa.drewN n) os).cell? ⟨w.heap.size+1+1,7,none⟩=some (.int .u32 (v7:Nat)):=λ n os=>cell_grown (w:=wa) (a:=⟨w.heap.size+1+1,7,none⟩) lv ((AR.out.1.cell 7).trans rfl) n os;clear lv AR Dp;obtain⟨x1,x2,x3,x4,x5,x6,p1,p2,p3,q1,q2,q3,q4,q5,q6,q7,q8,q9,EJ⟩:=HO.out;clear HO;refine wp_region_quiet_grown mixed ah ?_;repeat(quiet_step ((first|(go_at_call 235;first|(with_reducible refine Calls.grown_of (T1.out _))|(with_reducible refine Calls.grown_of (T2.out _))|(with_reducible refine Calls.grown_of (T3.out _)))|(go_at_call 236;with_reducible refine Calls.grown_of (TR.out _)))))
   refine wpQuiet_nil ?_;intro _ sb;obtain⟨⟨nq,osq⟩,sb⟩:=sb;subst sb;go_wp2_with fail;have MG:Hid (yT w (grow (wa.drewN nq) osq) [h0,h1,h2,h3,h4,h5,h6,h7] [v0,v1,v2,v3,v4,v5,v6,v7]):=ae (Dq.out.below (YE wa nq osq));clear c5 c6 c7 Dq q1 q2 q3 q4 q5 q6 q7 q8 q9 EJ T1 T2 T3 TR;generalize grow (wa.drewN nq) osq=wb at*;have AR:=ae (af MG.out.bv trivial);have lv:=MG.out.bv.lt;have c1:∀n os,(grow (wb.drewN n) os).cell? ⟨w.heap.size+1+1,1,none⟩=some (.int .u32 (v1:Nat)):=λ n os=>cell_grown (w:=wb) (a:=⟨w.heap.size+1+1,1,none⟩) lv ((AR.out.1.cell 1).trans rfl) n os;have c2:∀n os,(grow (wb.drewN n) os).cell? ⟨w.heap.size+1+1,2,none⟩=some (.int .u32 (v2:Nat)):=λ n os=>cell_grown (w:=wb) (a:=⟨w.heap.size+1+1,2,none⟩) lv ((AR.out.1.cell 2).trans rfl) n os;clear lv AR nq osq;obtain⟨z1,z2,z3,z4,z5,z6,z7,q1,q2,q3,q4,q5,q6,q7,q8⟩:=HT.out;clear HT;refine wp_region_quiet_grown mixed ah ?_;repeat(quiet_step ((go_at_call 235;first|(with_reducible refine Calls.grown_of (T4.out _))|(with_reducible refine Calls.grown_of (T5.out _))|(with_reducible refine Calls.grown_of (T6.out _)))))
   refine wpQuiet_nil ?_;intro _ sb;obtain⟨⟨nq,osq⟩,sb⟩:=sb;subst sb;go_wp2_with fail;have tQ:Hid (yT w (grow (wb.drewN nq) osq) [h0,h1,h2,h3,h4,h5,h6,h7] [v0,v1,v2,v3,v4,v5,v6,v7]):=ae (MG.out.below (YE wb nq osq));clear c1 c2 MG q1 q2 q3 q4 q5 q6 q7 q8 T4 T5 T6;generalize grow (wb.drewN nq) osq=wc at*;clear nq osq;have hg:wc.heap[w.heap.size+1+1]? =some (.cells ([.int .u32 (v0:Nat),.int .u32 (v1:Nat),.int .u32 (v2:Nat),.int .u32 (v3:Nat),.int .u32 (v4:Nat),.int .u32 (v5:Nat),.int .u32 (v6:Nat),.int .u32 (v7:Nat)]:List Value).toArray 265 (0,0)):=tQ.out.bv
   have YH:∀j v,([.int .u32 (v0:Nat),.int .u32 (v1:Nat),.int .u32 (v2:Nat),.int .u32 (v3:Nat),.int .u32 (v4:Nat),.int .u32 (v5:Nat),.int .u32 (v6:Nat)]:List Value)[j]? =some v->wc.cell? ((⟨w.heap.size+1+1,0,none⟩:Addr).add j)=some v:=by
    intro j v hv;have hj:j<7:=(fX.1 hv).1;have h7:j=0∨j=1∨j=2∨j=3∨j=4∨j=5∨j=6:=aa;rcases h7 with rfl|rfl|rfl|rfl|rfl|rfl|rfl
    ·exact(tQ.out.bv.cell 0).trans hv
    ·exact(tQ.out.bv.cell 1).trans hv
    ·exact(tQ.out.bv.cell 2).trans hv
    ·exact(tQ.out.bv.cell 3).trans hv
    ·exact(tQ.out.bv.cell 4).trans hv
    ·exact(tQ.out.bv.cell 5).trans hv
    ·exact(tQ.out.bv.cell 6).trans hv
   have Dr:=ae (af hg YH);clear hg YH;go_region_law (refine step_copy_splice rfl (.tmp 75) (.tmp 76) 348 348 rfl 233 rfl rfl (some ⟨w.heap.size+1+1,1,none⟩) (some ⟨w.heap.size+1+1,0,none⟩) 7 7 7 8 rfl rfl (w.heap.size+1+1) 1 [.int .u32 (v0:Nat),.int .u32 (v1:Nat),.int .u32 (v2:Nat),.int .u32 (v3:Nat),.int .u32 (v4:Nat),.int .u32 (v5:Nat),.int .u32 (v6:Nat),.int .u32 (v7:Nat)] 265 Dr.out.1 [.int .u32 (v0:Nat),.int .u32 (v1:Nat),.int .u32 (v2:Nat),.int .u32 (v3:Nat),.int .u32 (v4:Nat),.int .u32 (v5:Nat),.int .u32 (v6:Nat)] rfl (λ _=>⟨rfl,⟨w.heap.size+1+1,0,none⟩,rfl,Dr.out.2⟩) aj (by intro v hv;simp only[eW,List.not_mem_nil,or_false]at hv;rcases hv with rfl|rfl|rfl|rfl|rfl|rfl|rfl<;>rfl) (w.heap.size+1+1) wc ⟨rfl,rfl,rfl,ai _,λ _ _=>rfl⟩ (ai _) ?_;intro w5 iI bE)
   all_goals
    have dw:Bk w5 (w.heap.size+1+1) 265 (gO [v0,v0,v1,v2,v3,v4,v5,v6]):=iI.out
    have HS:=ae (af tQ.out.bh (af tQ.out.bz (af tQ.out.bl bE)))
    have c0:w5.cell? ⟨w.heap.size+1+1,0,none⟩=some (.int .u32 (v0:Nat)):=(dw.cell 0).trans rfl
    have c4:w5.cell? ⟨w.heap.size+1+1,4,none⟩=some (.int .u32 (v3:Nat)):=(dw.cell 4).trans rfl
    have f0:=dw.frozen 0
    have f4:=dw.frozen 4
    have mq:=ae dw
    clear iI bE dw Dr tQ
    go_wp2_with fail
    have fL:=(mq.out.aP 4 (.int .u32 ((v3+one)%4294967296:Nat))).aP 0 (.int .u32 ((one+two)%4294967296:Nat))
    rw[show(((v3:Int)+one)%4294967296)=(((v3+one)%4294967296:Nat):Int)by omega,show(((one:Int)+two)%4294967296)=(((one+two)%4294967296:Nat):Int)by omega]
    go_round
    case rel=>
     refine⟨i+1,_,by first|rfl|go_num,aa,ae HN.out.symm,ae ⟨?_,?_,?_,?_⟩⟩
     ·exact(((HS.out.1.below HS.out.2.2.2 aa).far (by simp;omega) _).far (by simp;omega) _)
     ·obtain⟨z,h1,h2⟩:=HS.out.2.1;exact⟨z,(((h1.below HS.out.2.2.2 aa).far aj _).far aj _),h2⟩
     ·exact fL
     ·exact((HS.out.2.2.1.trans (HS.out.2.2.2.mono aa)).setCell (p:=⟨w.heap.size+1+1,4,none⟩) (by simp;omega) _).setCell (p:=⟨w.heap.size+1+1,0,none⟩) (by simp;omega) _
    case measure=>simp[intOf];omega
  ·obtain rfl:i=64:=aa;have YI:V.length=8:=by rw[HV.out];exact(ME _ _ _ HH.out).1
   have YJ:Hid (V=qQ [h0,h1,h2,h3,h4,h5,h6,h7] su WW):=ae (by
    rw[HV.out,bQ aA,bQ (by rw[MF.out.2];omega)])
   obtain⟨H,hH⟩:∃H,[h0,h1,h2,h3,h4,h5,h6,h7]=H:=⟨_,rfl⟩;have YK:H.length=8:=by rw[<-hH];rfl
   rw[hH]at HM YJ o8;have fa:=ae (af YI YK);have ak1:=ae hH;clear YI YK hH;go_wp2_with fail;go_loopw [88] (λ vi bU=>∃k:Nat,vi= .int .i64 (k:Nat)/\k<=8/\Hid (yT w bU (m_ H V k) V)) (λ vi _=>8-(intOf vi).toNat)
   case atStart=>exact⟨0,rfl,aa,ae (by rw[akS];exact HM.out)⟩
   case round=>
    clear HM HV;obtain⟨k,rfl,hk,HM⟩:=hrel;by_cases ao:(k:Int)<8
    ·have IA:k<8:=aa;have hs:=YC H V k (by rw[fa.out.2];exact IA) (by rw[fa.out.1];exact IA);have ei:=YB H V k 8 fa.out.2 fa.out.1;obtain⟨x,hx⟩:∃x,H.getD k 0=x:=⟨_,rfl⟩;obtain⟨y,hy⟩:∃y,V.getD k 0=y:=⟨_,rfl⟩;rw[hx,hy]at hs;have ch:=(HM.out.bh.cell k).trans (QW _ k (by rw[ei];exact IA));rw[hs.1]at ch;have cv:=(HM.out.bv.cell k).trans (QW V k (by rw[fa.out.1];exact IA));rw[hy]at cv;have fh:=HM.out.bh.frozen k;have cm:=ae hs.2;clear hs hx hy ei;go_wp2_with fail;go_big_region_o;all_goals go_wp2_with fail
     have cC:=HM.out.bh.aP k (.int .u32 ((x+y)%4294967296:Nat));rw[akU,cm.out]at cC;rw[show(((x:Int)+y)%4294967296)=(((x+y)%4294967296:Nat):Int)by omega];go_round
     case rel=>
      refine⟨k+1,by first|rfl|go_num,aa,ae ⟨cC,?_,?_,?_⟩⟩
      ·obtain⟨z,h1,h2⟩:=HM.out.bz;exact⟨z,h1.far aj _,h2⟩
      ·exact HM.out.bv.far (by simp;omega) _
      ·exact(HM.out.bl.setCell (p:=⟨w.heap.size,k,none⟩) aj _).drew
     case measure=>simp[intOf];omega
    ·obtain rfl:k=8:=aa;have xA:Hid (sv H b=m_ H V 8):=ae (by rw[o8.out,akT H V 8 fa.out.2 fa.out.1,YJ.out]);obtain⟨z,dN,gX⟩:=HM.out.bz;have hB:=HM.out.bh;have cq:=HM.out.bl;have aG:(gO (m_ H V 8)).size=8:=by rw[akV,YB H V 8 8 fa.out.2 fa.out.1]
     have uN:=akW (m_ H V 8);obtain⟨C,hC⟩:∃C,gO (m_ H V 8)=C:=⟨_,rfl⟩;rw[hC]at hB aG uN;have QT:=ae hC;have hi:(Tryz.prog.info? 265).map (·.size)=some C.size:=by rw[aG];kernel_rfl
     have HI:=ae hi;have yS:=ae (show z.size=C.size by rw[gX,aG]);have xy:=ae uN;have uZ:=ae dN;have cD:=ae hB;have cS:=ae cq;have QU:=ae (kd wr (w.heap.size+1) z C 265 (0,0) dN);clear hi gX aG uN dN hB hC cq;have im:wr.heap[w.heap.size]? =some (.cells C 265 (0,0)):=cD.out;have dU:wr.heap[w.heap.size+1]? =some (.cells z 265 (0,0)):=uZ.out;go_wp2_with (first|(refine qk rfl 265 _ rfl (w.heap.size) rfl 265 _ (0,0) _ im Tryz.underlying265 rfl HI.out ?_)|(refine nG rfl 265 _ _ rfl (w.heap.size+1) C rfl rfl 265 z dU HI.out yS.out xy.out ?_));rw[show sv [h0,h1,h2,h3,h4,h5,h6,h7] b=sv H b by rw[ak1.out],xA.out,QT.out];refine eX (EF Tryz.results173 _ _ (w.heap.size+1) 265 C (0,0) _ rfl QU.out Tryz.underlying265 rfl HI.out) rfl ⟨rfl,?_⟩;exact below_setRow cS.out aa C
