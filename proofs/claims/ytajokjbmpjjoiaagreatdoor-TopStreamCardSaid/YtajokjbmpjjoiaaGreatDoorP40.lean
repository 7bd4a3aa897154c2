import Derived.Test.YtajokjbmpjjoiaaGreatDoorP39
import Derived.ChangeKeysEq
set_option maxRecDepth 20000
set_option maxHeartbeats 0
set_option linter.unusedSimpArgs false
namespace Go.Proofs.YtajokjbmpjjoiaaGreatDoor
section
open Go.RowKit
theorem art {P:Program}(w:World)(t e:TypeId)(n:Nat)(cs:Array Value)(k:IntKind)(i:Nat)(v:Value)(h:P.underlying t=some (.array n e))(hs:(P.info? e).map (·.size)=some 1)(hp:P.plainKey e=true)(hi:i<n)(hv:cs[i]? =some v):
 (Instr.index t (.agg cs) (.int k (i:Int))).run P w= .ok v w:=by
 have hz:(sizeOf e).run P w= .ok 1 w:=by
  cases hh:P.info? e with
  |none=>rw[hh]at hs;cases hs
  |some x=>rw[hh]at hs;simp at hs;simp[sizeOf,typeInfo,hh,hs]
 have xG:=run_part_plain w hp hv;have hr:(0:Int)<=(i:Int)/\(i:Int)<(n:Int):=aa;simp[Instr.index,asIntOf,rV h,hr,hz,xG];intro h;omega
theorem aru (L:List Nat)(i:Nat)(h:i<L.length):(uv L).toArray[i]? =some (.int .u32 (L.getD i 0:Nat)):=by
 simp[uv,eH,a_,aZ h]
theorem arv (L:List Nat)(hl:L.length=16)(i:Nat)(hi:i<16)(w:World):(Instr.index 235 (.agg (uv L).toArray) (.int .i64 (i:Nat))).run Tryz.prog w= .ok (.int .u32 (L.getD i 0:Nat)) w:=
 art w 235 233 16 _ .i64 i _ Tryz.underlying235 ah ah hi (aru L i aa)
theorem arw (L:List Nat):(uv L).toArray.all (·.oneCell')=true:=by
 rw[Cy,nF];intro u hu;unfold uv at hu;obtain⟨x,_,rfl⟩:=kJ.1 hu;rfl
structure zz (w wr:World)(q6 q7 q8:Nat)(Z:Array Value)(F L:List Nat):Prop where
 f:jC wr q7 235 F
 s:jC wr q8 235 L
 z:Bk wr q6 159 Z
 b:Below q6 w wr
 le:q6<=wr.heap.size
 ne:q6<q7/\q7<q8
theorem zz.mix {w wr w':World}{q6 q7 q8:Nat}{Z:Array Value}{F L L':List Nat}(h:zz w wr q6 q7 q8 Z F L)(hr:jC w' q8 235 L')(hb:Below q8 wr w'):zz w w' q6 q7 q8 Z F L':=
 ⟨Bk.below h.f hb h.ne.2,hr,Bk.below h.z hb (by have:=h.ne;omega),h.b.trans (hb.mono (by have:=h.ne;omega)),b_ h.le hb.size,h.ne⟩
theorem aeH (L:List Nat)(g i j k l:Nat)(j' k' l':Int)(arx:j'=(j:Nat))(Xk:k'=(k:Nat))(ary:l'=(l:Nat))(hL:L.length=16)(hi:i<4)(hj:4<=j/\j<8)(hk:8<=k/\k<12)(hl:12<=l/\l<16)(hb:mg L)(w:World)(hr:jC w g 235 L):
 Calls Tryz.prog 145 #[.pointer (some ⟨g,0,none⟩),.int .i64 (i:Nat),.int .i64 j',.int .i64 k',.int .i64 l'] w λ e w'=>e= .returned (.tuple #[])/\jC w' g 235 (xg L (i,j,k,l))/\Below g w w':=by
 subst arx Xk ary;exact ars L g i j k l hL hi hj hk hl hb w hr
def um (M:List Nat)(i:Nat):List UInt8:=(M.take i).flatMap xh++List.replicate (64-4*i) 0
theorem arz (M:List Nat):um M 0=List.replicate 64 0:=rfl
theorem arA (M:List Nat)(h:M.length=16):um M 16=M.flatMap xh:=by unfold um;rw[bQ aa];simp
theorem arB (M:List Nat)(i:Nat)(h:M.length=16)(hi:i<=16):(um M i).length=64:=by
 unfold um;rw[ag,LN,ba,cA];omega
theorem arC (M:List Nat)(i x:Nat)(h:M.length=16)(hx:M[i]? =some x):um M (i+1)=((((um M i).set (4*i) (UInt8.ofNat x)).set (4*i+1) (UInt8.ofNat (x/256))).set (4*i+2) (UInt8.ofNat (x/65536))).set (4*i+3) (UInt8.ofNat (x/16777216)):=by
 have hi:i<16:=by have:=(fX.1 hx).1;omega
 have hl:((M.take i).flatMap xh).length=4*i:=by rw[LN,ba];omega
 unfold um;rw[eu,hx,Option.toList_some,Cz,show List.flatMap xh [x]=xh x from by simp];rw[show 64-4*i=4+(64-4*(i+1))by omega,<-KB];generalize(M.take i).flatMap xh=A at*;generalize List.replicate (64-4*(i+1)) (0:UInt8)=Z;have e:List.replicate 4 (0:UInt8)=[0,0,0,0]:=rfl;rw[e];rw[show 4*i=A.length+0 by omega,qi _ _ aa,zM];rw[show A.length+0+1=A.length+1 by omega,qi _ _ aa,zM];rw[show A.length+0+2=A.length+2 by omega,qi _ _ aa,zM];rw[show A.length+0+3=A.length+3 by omega,qi _ _ aa,zM];rw[aN];rfl
theorem arD (l:List UInt8)(i:Nat)(b:UInt8):(aJ l).toArray.setIfInBounds i (.int .u8 ((b.toNat:Nat):Int))=(aJ (l.set i b)).toArray:=by
 unfold aJ;rw[bP,zQ]
theorem Kg (l:List UInt8)(i:Nat)(h:i<l.length):(aJ l).toArray[i]? =some (.int .u8 ((l.getD i 0).toNat:Nat)):=by
 simp[aJ,eH,a_,aZ h]
theorem aeI (L:List UInt8):(aJ L).toArray.all (·.oneCell')=true:=by
 rw[Cy,nF];intro u hu;unfold aJ at hu;obtain⟨x,_,rfl⟩:=kJ.1 hu;rfl
structure Kh (w wr:World)(q6 q7 q8 qb:Nat)(Z:Array Value)(F L:List Nat)(B:List UInt8):Prop where
 x:zz w wr q6 q7 q8 Z F L
 bb:Bk wr qb 159 (aJ B).toArray
 lt:q8<qb
theorem Kh.put {w wr:World}{q6 q7 q8 qb:Nat}{Z:Array Value}{F L:List Nat}{B:List UInt8}(h:Kh w wr q6 q7 q8 qb Z F L B)(i:Nat)(b:UInt8):Kh w (wr.setCell ⟨qb,i,none⟩ (.int .u8 ((b.toNat:Nat):Int))) q6 q7 q8 qb Z F L (B.set i b):=by
 have h1:=h.lt;have h2:=h.x.ne;refine⟨⟨Bk.far h.x.f (p:=⟨qb,i,none⟩) (show q7≠qb by omega) _,Bk.far h.x.s (p:=⟨qb,i,none⟩) (show q8≠qb by omega) _,Bk.far h.x.z (p:=⟨qb,i,none⟩) (show q6≠qb by omega) _,h.x.b.setCell (p:=⟨qb,i,none⟩) (show q6<=qb by omega) _,by have:=h.x.le;simpa[World.setCell]using this,h.x.ne⟩,?_,h.lt⟩;have h3:=h.bb.aP i (.int .u8 ((b.toNat:Nat):Int));rw[arD]at h3;exact h3
theorem arE (x:Nat)(h:x<4294967296):((UInt8.ofNat x).toNat:Int)=(x:Int)%256/\((UInt8.ofNat (x/256)).toNat:Int)=(x:Int)/256%256/\((UInt8.ofNat (x/65536)).toNat:Int)=(x:Int)/65536%256/\((UInt8.ofNat (x/16777216)).toNat:Int)=(x:Int)/16777216:=by
 simp only[yb];omega
theorem aeJ:(List.replicate 16 (Value.int .u32 0)).toArray=#[.int .u32 0,.int .u32 0,.int .u32 0,.int .u32 0,.int .u32 0,.int .u32 0,.int .u32 0,.int .u32 0,.int .u32 0,.int .u32 0,.int .u32 0,.int .u32 0,.int .u32 0,.int .u32 0,.int .u32 0,.int .u32 0]:=rfl
theorem Uj:(List.replicate 64 (Value.int .u8 0)).toArray=#[.int .u8 0,.int .u8 0,.int .u8 0,.int .u8 0,.int .u8 0,.int .u8 0,.int .u8 0,.int .u8 0,.int .u8 0,.int .u8 0,.int .u8 0,.int .u8 0,.int .u8 0,.int .u8 0,.int .u8 0,.int .u8 0,.int .u8 0,.int .u8 0,.int .u8 0,.int .u8 0,.int .u8 0,.int .u8 0,.int .u8 0,.int .u8 0,.int .u8 0,.int .u8 0,.int .u8 0,.int .u8 0,.int .u8 0,.int .u8 0,.int .u8 0,.int .u8 0,.int .u8 0,.int .u8 0,.int .u8 0,.int .u8 0,.int .u8 0,.int .u8 0,.int .u8 0,.int .u8 0,.int .u8 0,.int .u8 0,.int .u8 0,.int .u8 0,.int .u8 0,.int .u8 0,.int .u8 0,.int .u8 0,.int .u8 0,.int .u8 0,.int .u8 0,.int .u8 0,.int .u8 0,.int .u8 0,.int .u8 0,.int .u8 0,.int .u8 0,.int .u8 0,.int .u8 0,.int .u8 0,.int .u8 0,.int .u8 0,.int .u8 0,.int .u8 0]:=rfl
theorem arF (key bJ:ByteArray)(bD:Nat)(hk:key.size=32)(hn:bJ.size=12)(hc:bD<4294967296)(w:World):
 Calls Tryz.prog 89 #[.string key,.string bJ,.int .i64 bD] w λ e w'=>e= .returned (.agg (aJ (xj key.toList bJ.toList bD)).toArray)/\Below w.heap.size w w':=by
 have Ec:=ae (λ w'=>arn key bJ bD hk hn hc w');obtain⟨F,hF⟩:∃F,uL key.toList bJ.toList bD=F:=⟨_,rfl⟩;have hlen:F.length=16:=by rw[<-hF,WR]
 have aeK:=ae (show mg F by rw[<-hF];exact ahQ _ _ _ hc);have cS:=ae (show xj key.toList bJ.toList bD=(List.zipWith (λ x y=>(x+y)%4294967296) (uK 10 F) F).flatMap xh by unfold xj;rw[hF]);obtain⟨R,hR⟩:∃R,xj key.toList bJ.toList bD=R:=⟨_,rfl⟩;rw[hR]at cS;simp only[hF]at Ec;rw[hR];obtain⟨C,hC⟩:∃C,(uv F).toArray=C:=⟨_,rfl⟩;have HC:=ae hC;simp only[hC]at Ec;have xZ:C.size=16:=by rw[<-hC,pv,Ug,hlen]
 have HI:=ae (show(Tryz.prog.info? 235).map (·.size)=some C.size by rw[xZ];kernel_rfl);have HO:=ae (show C.all (·.oneCell')=true by rw[<-hC];exact arw F);have HS:=ae xZ;have Ki:=ae hlen;clear hF hR hC xZ hlen hk hn hc;go_enter Tryz.func89,Tryz.ntmps89;go_upto_region 1 with fail;rw[<-Uj];obtain⟨Z,hZ⟩:∃Z,(List.replicate 64 (Value.int .u8 0)).toArray=Z:=⟨_,rfl⟩;rw[hZ];have HZ:=ae hZ;clear hZ;go_wp2_with fail;(with_reducible refine(Ec.out _).mono ?_);rintro e w1 ⟨rfl,au⟩;have H1:=ae (af (Bk.aL (Bk.new w 159 Z) au) (((aB w.heap.size w).alloc (ai _) (.cells Z 159)).trans (au.mono aj)));have zA:w.heap.size<w1.heap.size:=by have:=au.size;simp at this;omega
 clear au Ec;go_upto_region 2 with(refine nG rfl 235 _ _ rfl w1.heap.size C rfl rfl 235 _ (l_ w1 _) HI.out (by rw[HS.out];rfl) HO.out ?_);rw[<-aeJ];obtain⟨O,hO⟩:∃O,(List.replicate 16 (Value.int .u32 0)).toArray=O:=⟨_,rfl⟩;rw[hO];have arG:=ae (show O.size=16 by rw[<-hO];rfl);have aeL:=ae hO;clear hO;have mv:=QP w1 235 O C;have H2:=ae (af (af (Bk.aL H1.out.1 mv) (show Bk ((w1.alloc (.cells O 235)).setRow w1.heap.size C) w1.heap.size 235 C from kd _ _ _ _ _ _ (l_ w1 _))) (H1.out.2.trans (mv.mono (Nat.le_of_lt zA))));have fO:w1.heap.size<((w1.alloc (.cells O 235)).setRow w1.heap.size C).heap.size:=H2.out.1.2.lt;generalize(w1.alloc (.cells O 235)).setRow w1.heap.size C=w2 at*;generalize w1.heap.size=q7 at*;clear mv H1;go_upto_region 3 with(first|(refine qk rfl 235 _ rfl q7 rfl 235 C (0,0) _ H2.out.1.2 Tryz.underlying235 rfl HI.out ?_)|(refine nG rfl 235 _ _ rfl w2.heap.size C rfl rfl 235 _ (l_ w2 _) HI.out (by rw[HS.out];rfl) HO.out ?_));rw[<-aeJ,aeL.out];have mv:=QP w2 235 O C
 have H3:Hid (zz w ((w2.alloc (.cells O 235)).setRow w2.heap.size C) w.heap.size q7 w2.heap.size Z F F):=ae ⟨by
  have h:=Bk.aL H2.out.1.2 mv
  rw[<-HC.out]at h⊢
  exact h,by
  have h:Bk ((w2.alloc (.cells O 235)).setRow w2.heap.size C) w2.heap.size 235 C:=kd _ _ _ _ _ _ (l_ w2 _)
  rw[<-HC.out]at h⊢
  exact h,Bk.aL H2.out.1.1 mv,H2.out.2.trans (mv.mono aa),by have:=mv.size;omega,zA,fO⟩
 generalize(w2.alloc (.cells O 235)).setRow w2.heap.size C=w3 at*;generalize w2.heap.size=q8 at*;generalize wC:w.heap.size=q6 at*;have Uh:=ae wC;clear mv H2 zA fO wC HI HO HS arG aeL;go_wp2_with fail;go_loopw [19] (λ v wr=>∃t:Nat,v= .int .i64 (t:Nat)/\t<=10/\Hid (zz w wr q6 q7 q8 Z F (uK t F))) (λ v _=>10-vnat v)
 case atStart=>exact⟨0,rfl,aa,H3⟩
 case round=>
  clear H3;obtain⟨wo,rfl⟩:∃wo,wo=wr:=⟨_,rfl⟩;obtain⟨t,rfl,ht,HX⟩:=hrel;by_cases ao:(t:Int)<10
  ·obtain⟨L0,De⟩:∃L0,uK t F=L0:=⟨_,rfl⟩;have Ge:=ae (af (show L0.length=16 by rw[<-De,LK,Ki.out]) (show mg L0 by rw[<-De];exact P0 aeK.out t));have aeM:=ae (show uK (t+1) F=uJ 4 (yF 4 L0)by rw[uK,De]);rw[De]at HX;clear De;go_wp2_with fail;go_loopw [21] (λ v wr=>∃m:Nat,v= .int .i64 (m:Nat)/\m<=4/\Hid (zz w wr q6 q7 q8 Z F (yF m L0))) (λ v _=>4-vnat v)
   case atStart=>exact⟨0,rfl,aa,HX⟩
   case round=>
    clear HX;obtain⟨wp,rfl⟩:∃wp,wp=wr:=⟨_,rfl⟩;obtain⟨m,rfl,hm,HY⟩:=hrel;by_cases OD:(m:Int)<4
    ·have o8:=ae (aeH (yF m L0) q8 m (4+m) (8+m) (12+m) (4+(m:Int)) (8+(m:Int)) (12+(m:Int)) aa aa aa (by rw[LJ,Ge.out.1]) aa aa aa aa (LM Ge.out.2 m) wp HY.out.s);go_wp2_with fail;(refine o8.out.mono ?_);rintro e w4 ⟨rfl,fK,cu⟩;have DT:=ae (HY.out.mix fK cu);clear fK cu HY o8;go_wp2_with fail;go_roundw
     case rel=>exact⟨m+1,by first|rfl|go_num,aa,DT⟩
     case measure=>simp[vnat];omega
    ·obtain rfl:m=4:=aa;obtain⟨L1,qB⟩:∃L1,yF 4 L0=L1:=⟨_,rfl⟩;have xB:=ae (af (show L1.length=16 by rw[<-qB,LJ,Ge.out.1]) (show mg L1 by rw[<-qB];exact LM Ge.out.2 4));rw[qB]at HY aeM;clear qB;go_wp2_with fail;go_loopw [33] (λ v wr=>∃m:Nat,v= .int .i64 (m:Nat)/\m<=4/\Hid (zz w wr q6 q7 q8 Z F (uJ m L1))) (λ v _=>4-vnat v)
     case atStart=>exact⟨0,rfl,aa,HY⟩
     case round=>
      clear HY;obtain⟨wq,rfl⟩:∃wq,wq=wr:=⟨_,rfl⟩;obtain⟨m,rfl,hm,HY⟩:=hrel;by_cases OD:(m:Int)<4
      ·obtain⟨x1,mG⟩:∃x:Nat,(m+1)%4=x:=⟨_,rfl⟩;obtain⟨x2,ff⟩:∃x:Nat,(m+2)%4=x:=⟨_,rfl⟩;obtain⟨x3,nW⟩:∃x:Nat,(m+3)%4=x:=⟨_,rfl⟩;have o8:=ae (aeH (uJ m L1) q8 m (4+x1) (8+x2) (12+x3) (4+(x1:Int)) (8+(x2:Int)) (12+(x3:Int)) aa aa aa (by rw[PY,xB.out.1]) aa aa aa aa (PZ xB.out.2 m) wq HY.out.s);have FR:=ae (show uJ (m+1) L1=xg (uJ m L1) (m,4+x1,8+x2,12+x3)by rw[uJ,WO,mG,ff,nW]);have t1:Int.tmod ((m:Int)+1) 4=(x1:Int):=by rw[EC aa];omega
       have t2:Int.tmod ((m:Int)+2) 4=(x2:Int):=by rw[EC aa];omega
       have t3:Int.tmod ((m:Int)+3) 4=(x3:Int):=by rw[EC aa];omega
       have u1:((m:Int)+1)%4=(x1:Int):=aa;have u2:((m:Int)+2)%4=(x2:Int):=aa;have u3:((m:Int)+3)%4=(x3:Int):=aa;have b1:x1<4:=aa;have b2:x2<4:=aa;have b3:x3<4:=aa;clear mG ff nW;go_wp2_with fail;(refine o8.out.mono ?_);rintro e w4 ⟨rfl,fK,cu⟩;rw[<-FR.out]at fK;have DT:=ae (HY.out.mix fK cu);clear fK cu HY o8 t1 t2 t3 u1 u2 u3;go_wp2_with fail;go_roundw
       case rel=>exact⟨m+1,by first|rfl|go_num,aa,DT⟩
       case measure=>simp[vnat];omega
      ·obtain rfl:m=4:=aa;rw[<-aeM.out]at HY;go_wp2_with fail;go_roundw
       case rel=>exact⟨t+1,by first|rfl|go_num,aa,HY⟩
       case measure=>simp[vnat];omega
  ·obtain rfl:t=10:=aa;obtain⟨L,hL⟩:∃L,uK 10 F=L:=⟨_,rfl⟩;have HL:=ae (af (show L.length=16 by rw[<-hL,LK,Ki.out]) (show mg L by rw[<-hL];exact P0 aeK.out 10));rw[hL]at HX cS;clear hL;go_upto_region 17 with fail;rw[<-Uj,HZ.out];have arH:=HZ;have ej:=(aB wo.heap.size wo).alloc (ai _) (.cells Z 159);have H4:=ae (af (show zz w (wo.alloc (.cells Z 159)) q6 q7 q8 Z F L from⟨Bk.aL HX.out.f ej,Bk.aL HX.out.s ej,Bk.aL HX.out.z ej,HX.out.b.trans (ej.mono HX.out.le),b_ HX.out.le ej.size,HX.out.ne⟩) (af (Bk.new wo 159 Z) (show q8<wo.heap.size from Bk.lt HX.out.s)));clear HX ej;generalize wo.alloc (.cells Z 159)=w5 at*;generalize wo.heap.size=qb at*;obtain⟨CL,OG⟩:∃CL,(uv L).toArray=CL:=⟨_,rfl⟩;have xZ:CL.size=16:=by rw[<-OG,pv,Ug,HL.out.1]
   have HI:=ae (show(Tryz.prog.info? 235).map (·.size)=some CL.size by rw[xZ];kernel_rfl);have gD:=ae OG;have aeN:Hid (Bk w5 q8 235 CL):=ae (OG▸H4.out.1.s);clear OG xZ;go_wp2_with (refine qk rfl 235 _ rfl q8 rfl 235 CL (0,0) _ aeN.out Tryz.underlying235 rfl HI.out ?_);have nk:=ae (show(List.zipWith (λ x y=>(x+y)%4294967296) L F).length=16 by rw[List.length_zipWith,HL.out.1,Ki.out];rfl)
   have arI:=ae (λ (i:Nat) (hi:i<16)=>show(List.zipWith (λ x y=>(x+y)%4294967296) L F)[i]? =some ((L.getD i 0+F.getD i 0)%4294967296)by
    have e1:L[i]? =some (L.getD i 0):=by rw[a_,aZ (by rw[HL.out.1];exact hi)];rfl
    have e2:F[i]? =some (F.getD i 0):=by rw[a_,aZ (by rw[Ki.out];exact hi)];rfl
    rw[List.getElem?_zipWith,e1,e2])
   generalize List.zipWith (λ x y=>(x+y)%4294967296) L F=M at*
   have H5:Hid (Kh w w5 q6 q7 q8 qb Z F L (um M 0)):=ae ⟨H4.out.1,by
    have e:Z=(aJ (um M 0)).toArray:=by rw[<-arH.out,arz];rfl
    rw[<-e];exact H4.out.2.1,H4.out.2.2⟩
   clear H4 aeN HI;go_loopw [53] (λ v wr=>∃i:Nat,v= .int .i64 (i:Nat)/\i<=16/\Hid (Kh w wr q6 q7 q8 qb Z F L (um M i))) (λ v _=>16-vnat v)
   case atStart=>exact⟨0,rfl,aa,H5⟩
   case round=>
    clear H5;obtain⟨wp,rfl⟩:∃wp,wp=wr:=⟨_,rfl⟩;obtain⟨i,rfl,hi,HY⟩:=hrel;by_cases OD:(i:Int)<16
    ·have Dp:∀w',(Instr.index 235 (.agg CL) (.int .i64 (i:Nat))).run Tryz.prog w'= .ok (.int .u32 (L.getD i 0:Nat)) w':=λ w'=>by rw[<-gD.out];exact arv L HL.out.1 i aa w'
     have hF:=HY.out.x.f.cell i (by rw[Ki.out];omega);obtain⟨a,ha⟩:∃a,L.getD i 0=a:=⟨_,rfl⟩;obtain⟨b,hb⟩:∃b,F.getD i 0=b:=⟨_,rfl⟩;obtain⟨x,hx⟩:∃x,(a+b)%4294967296=x:=⟨_,rfl⟩;have o8:=ae (show M[i]? =some x by rw[<-hx,<-ha,<-hb];exact arI.out i aa);rw[ha]at Dp;rw[hb]at hF;have xX:((a:Int)+(b:Int))%4294967296=(x:Int):=aa;have Uk:x<4294967296:=aa;have Ed:=ae Uk;obtain⟨y0,y1,y2,y3⟩:=arE x Uk;have cm:=ae (arC M i x nk.out o8.out);have rF:=arB M i nk.out aa;obtain⟨B,hB⟩:∃B,um M i=B:=⟨_,rfl⟩;rw[hB]at HY cm rF;have p0:=(HY.out.bb.cell (4*i)).trans (Kg B (4*i) aa);have p1:=(HY.out.bb.cell (4*i+1)).trans (Kg B (4*i+1) aa);have p2:=(HY.out.bb.cell (4*i+2)).trans (Kg B (4*i+2) aa);have p3:=(HY.out.bb.cell (4*i+3)).trans (Kg B (4*i+3) aa);have r0:=HY.out.bb.frozen (4*i);have r1:=HY.out.bb.frozen (4*i+1);have r2:=HY.out.bb.frozen (4*i+2);have r3:=HY.out.bb.frozen (4*i+3);have HP:=ae ((((HY.out.put (4*i) (UInt8.ofNat x)).put (4*i+1) (UInt8.ofNat (x/256))).put (4*i+2) (UInt8.ofNat (x/65536))).put (4*i+3) (UInt8.ofNat (x/16777216)));rw[<-cm.out,y0,y1,y2,y3]at HP;clear ha hb hx Uk hB rF y0 y1 y2 y3 HY;go_wp2_with fail;go_roundw
     case rel=>exact⟨i+1,by first|rfl|go_num,aa,HP⟩
     case measure=>simp[vnat];omega
    ·obtain rfl:i=16:=aa;rw[arA M nk.out,<-cS.out]at HY;have rj:R.length=64:=by rw[cS.out,LN,nk.out]
     obtain⟨CR,Kj⟩:∃CR,(aJ R).toArray=CR:=⟨_,rfl⟩;have Ee:CR.size=64:=by rw[<-Kj,pv,je,rj]
     have Gp:=ae (show(Tryz.prog.info? 159).map (·.size)=some CR.size by rw[Ee];kernel_rfl);have nu:=ae (show CR.all (·.oneCell')=true by rw[<-Kj];exact aeI R);have gq:Hid (Bk wp qb 159 CR):=ae (Kj▸HY.out.bb);have aeO:=ae HY.out.x.z;have Ui:=ae HY.out.x.b;have dt:=ae (show CR.size=Z.size by rw[Ee,<-HZ.out];rfl);have arJ:=ae Kj;clear rj Kj Ee HY cS;go_wp2_with (first|(refine qk rfl 159 _ rfl qb rfl 159 CR (0,0) _ gq.out Tryz.underlying159 rfl Gp.out ?_)|(refine nG rfl 159 _ _ rfl q6 CR rfl rfl 159 _ aeO.out Gp.out dt.out.symm nu.out ?_));refine eX (EF Tryz.results89 _ _ q6 159 CR (0,0) _ rfl (kd wp q6 Z CR 159 (0,0) aeO.out) Tryz.underlying159 rfl Gp.out) rfl ⟨by rw[arJ.out],?_⟩;rw[Uh.out];exact below_setRow Ui.out (ai _) _
