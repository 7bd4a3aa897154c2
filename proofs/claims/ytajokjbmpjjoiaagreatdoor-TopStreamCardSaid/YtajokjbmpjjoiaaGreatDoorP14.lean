import Derived.Test.YtajokjbmpjjoiaaGreatDoorP13
import Derived.Deep.DeepBigQuietO
import Derived.Shelf.SlSortCmp.QuietGrown
set_option maxRecDepth 20000
set_option maxHeartbeats 0
set_option linter.unusedSimpArgs false
set_option linter.unusedVariables false
namespace Go.Proofs.YtajokjbmpjjoiaaGreatDoor
section
open Go.RowKit
theorem akx {P:Program}{ops:Array Oper}{rest:List Oper}{o:Oper}{a:Act}{w:World}{Q:Exit->Act->World->Prop}(d_:o.guard=none)(t:TypeId)(parts:Array (Nat×Operand))(ho:o.op= .build t parts)(Ip:Array (Nat×Value))(v:Value)(hv:(parts.map λ (i,x)=>(i,a.eval x))=Ip)
 (hr:∀w:World,(Instr.build t Ip).run P w= .ok v w)(h:wpList P ops Q rest (a.put o.dst v) w):wpList P ops Q (o::rest) a w:=
 wpList_plain d_ λ K hK=>by
  unfold Oper.wp execOp;simp only[ho,hv,dZ,hr,Result.andThen_ok];exact hK _ _ h
def AP:Array Value:=(su.map λ k=>Value.int .u32 (k:Nat)).toArray
theorem aky:AP.size=64:=ah
theorem akz:Tryz.prog.built 344 [(0,.int .u32 1116352408),(1,.int .u32 1899447441),(2,.int .u32 3049323471),(3,.int .u32 3921009573),(4,.int .u32 961987163),(5,.int .u32 1508970993),(6,.int .u32 2453635748),(7,.int .u32 2870763221),(8,.int .u32 3624381080),(9,.int .u32 310598401),(10,.int .u32 607225278),(11,.int .u32 1426881987),(12,.int .u32 1925078388),(13,.int .u32 2162078206),(14,.int .u32 2614888103),(15,.int .u32 3248222580),(16,.int .u32 3835390401),(17,.int .u32 4022224774),(18,.int .u32 264347078),(19,.int .u32 604807628),(20,.int .u32 770255983),(21,.int .u32 1249150122),(22,.int .u32 1555081692),(23,.int .u32 1996064986),(24,.int .u32 2554220882),(25,.int .u32 2821834349),(26,.int .u32 2952996808),(27,.int .u32 3210313671),(28,.int .u32 3336571891),(29,.int .u32 3584528711),(30,.int .u32 113926993),(31,.int .u32 338241895),(32,.int .u32 666307205),(33,.int .u32 773529912),(34,.int .u32 1294757372),(35,.int .u32 1396182291),(36,.int .u32 1695183700),(37,.int .u32 1986661051),(38,.int .u32 2177026350),(39,.int .u32 2456956037),(40,.int .u32 2730485921),(41,.int .u32 2820302411),(42,.int .u32 3259730800),(43,.int .u32 3345764771),(44,.int .u32 3516065817),(45,.int .u32 3600352804),(46,.int .u32 4094571909),(47,.int .u32 275423344),(48,.int .u32 430227734),(49,.int .u32 506948616),(50,.int .u32 659060556),(51,.int .u32 883997877),(52,.int .u32 958139571),(53,.int .u32 1322822218),(54,.int .u32 1537002063),(55,.int .u32 1747873779),(56,.int .u32 1955562222),(57,.int .u32 2024104815),(58,.int .u32 2227730452),(59,.int .u32 2361852424),(60,.int .u32 2428436474),(61,.int .u32 2756734187),(62,.int .u32 3204031479),(63,.int .u32 3329325298)]=some AP:=ah
theorem akA (i:Nat)(hi:i<64):AP[i]? =some (.int .u32 (su.getD i 0:Nat)):=by
 unfold AP;rw[gW,eH,a_,aZ (show i<su.length from hi)];rfl
theorem Yr:(Tryz.prog.info? 344).map (·.size)=some AP.size:=ah
theorem akB:AP.all (·.oneCell')=true:=ah
theorem akC (w:World)(t:TypeId)(o KT:Array Value)(i:Nat):((w.alloc (.cells o t)).setRow w.heap.size KT).cell? ⟨w.heap.size,i,none⟩=KT[i]? :=
 cell_of_row _ _ i KT t (0,0) (kd _ w.heap.size o KT t (0,0) (l_ w _))
theorem QP (w:World)(t:TypeId)(o KT:Array Value):Below w.heap.size w ((w.alloc (.cells o t)).setRow w.heap.size KT):=by
 have h:=(aB w.heap.size w).alloc (ai _) (.cells o t);refine⟨h.os,h.tape,h.output,?_,λ k hk=>?_⟩
 ·simp[World.setRow]
 ·rw[<-h.block k hk];simp only[World.setRow];rw[zG,if_neg aa]
theorem akD (w:World)(t:TypeId)(o KT:Array Value):(w.alloc (.cells o t)).setRow w.heap.size KT=Sort.grow (w.drewN 0) #[.cells KT t]:=by
 show _=Sort.grow w #[.cells KT t];rw[<-Sort.alloc_eq_grow];unfold World.setRow World.alloc;simp only[World.mk.injEq,and_true,true_and];refine Array.ext_getElem? λ k=>?_;rw[zG];by_cases hk:w.heap.size=k
 ·subst hk;rw[if_pos rfl];simp
 ·rw[if_neg hk];simp[Co,Ne.symm hk]
theorem akE (i:Nat)(w:World)(hi:i<64):
 Calls Tryz.prog 236 #[.int .i64 i] w λ e w'=>e= .returned (.int .u32 (su.getD i 0:Nat))/\∃q kA,w'=Sort.grow (w.drewN q) kA:=by
 have il:∀w:World,(Instr.build 344 #[(0,.int .u32 1116352408),(1,.int .u32 1899447441),(2,.int .u32 3049323471),(3,.int .u32 3921009573),(4,.int .u32 961987163),(5,.int .u32 1508970993),(6,.int .u32 2453635748),(7,.int .u32 2870763221),(8,.int .u32 3624381080),(9,.int .u32 310598401),(10,.int .u32 607225278),(11,.int .u32 1426881987),(12,.int .u32 1925078388),(13,.int .u32 2162078206),(14,.int .u32 2614888103),(15,.int .u32 3248222580),(16,.int .u32 3835390401),(17,.int .u32 4022224774),(18,.int .u32 264347078),(19,.int .u32 604807628),(20,.int .u32 770255983),(21,.int .u32 1249150122),(22,.int .u32 1555081692),(23,.int .u32 1996064986),(24,.int .u32 2554220882),(25,.int .u32 2821834349),(26,.int .u32 2952996808),(27,.int .u32 3210313671),(28,.int .u32 3336571891),(29,.int .u32 3584528711),(30,.int .u32 113926993),(31,.int .u32 338241895),(32,.int .u32 666307205),(33,.int .u32 773529912),(34,.int .u32 1294757372),(35,.int .u32 1396182291),(36,.int .u32 1695183700),(37,.int .u32 1986661051),(38,.int .u32 2177026350),(39,.int .u32 2456956037),(40,.int .u32 2730485921),(41,.int .u32 2820302411),(42,.int .u32 3259730800),(43,.int .u32 3345764771),(44,.int .u32 3516065817),(45,.int .u32 3600352804),(46,.int .u32 4094571909),(47,.int .u32 275423344),(48,.int .u32 430227734),(49,.int .u32 506948616),(50,.int .u32 659060556),(51,.int .u32 883997877),(52,.int .u32 958139571),(53,.int .u32 1322822218),(54,.int .u32 1537002063),(55,.int .u32 1747873779),(56,.int .u32 1955562222),(57,.int .u32 2024104815),(58,.int .u32 2227730452),(59,.int .u32 2361852424),(60,.int .u32 2428436474),(61,.int .u32 2756734187),(62,.int .u32 3204031479),(63,.int .u32 3329325298)]).run Tryz.prog w= .ok (.agg AP) w:=λ w=>run_build w _ _ _ akz;have Ys:=Yr;have uY:=akB;have aG:=aky;have g_:=akA i hi;generalize su.getD i 0=x at*;generalize AP=KT at*;have HI:=ae Ys;have HO:=ae uY;have HS:=ae aG;have HG:=ae g_;have eT:∀o,((w.alloc (.cells o 344)).setRow w.heap.size KT).cell? ⟨w.heap.size,i,none⟩=some (.int .u32 (x:Nat)):=λ o=>(akC w _ o KT i).trans g_;clear Ys uY aG g_;go_enter Tryz.func236,Tryz.ntmps236;go_wp2_with (first|(refine akx rfl 344 _ rfl _ (.agg KT) ?_ il ?_;go_must (simp only[zP,List.map_cons,List.map_nil];rfl))|(refine nG rfl 344 _ _ rfl w.heap.size KT rfl rfl 344 _ (l_ w _) HI.out (by rw[HS.out];rfl) HO.out ?_));go_ret;exact⟨rfl,0,_,akD _ _ _ _⟩
def gh (W:List Nat):Array Value:=((W++List.replicate (64-W.length) 0).map λ k=>Value.int .u32 (k:Nat)).toArray
theorem MB (W:List Nat)(h:W.length<=64):(gh W).size=64:=by unfold gh;simp;omega
theorem Iq (W:List Nat)(i:Nat)(h:i<W.length):(gh W)[i]? =some (.int .u32 (W.getD i 0:Nat)):=by
 unfold gh;rw[gW,eH,ux h,a_,aZ h];rfl
theorem Yt (W:List Nat)(x:Nat)(h:W.length<64):(gh W).setIfInBounds W.length (.int .u32 (x:Nat))=gh (W++[x]):=by
 unfold gh;rw[bP,<-zQ (f:=λ k:Nat=>Value.int .u32 (k:Nat))];congr 2;rw[qi _ _ (ai _),gy,aN];congr 1;rw[show 64-W.length=(64-(W++[x]).length)+1 by simp;omega,qg];rfl
theorem akF:gh []=#[.int .u32 0,.int .u32 0,.int .u32 0,.int .u32 0,.int .u32 0,.int .u32 0,.int .u32 0,.int .u32 0,.int .u32 0,.int .u32 0,.int .u32 0,.int .u32 0,.int .u32 0,.int .u32 0,.int .u32 0,.int .u32 0,.int .u32 0,.int .u32 0,.int .u32 0,.int .u32 0,.int .u32 0,.int .u32 0,.int .u32 0,.int .u32 0,.int .u32 0,.int .u32 0,.int .u32 0,.int .u32 0,.int .u32 0,.int .u32 0,.int .u32 0,.int .u32 0,.int .u32 0,.int .u32 0,.int .u32 0,.int .u32 0,.int .u32 0,.int .u32 0,.int .u32 0,.int .u32 0,.int .u32 0,.int .u32 0,.int .u32 0,.int .u32 0,.int .u32 0,.int .u32 0,.int .u32 0,.int .u32 0,.int .u32 0,.int .u32 0,.int .u32 0,.int .u32 0,.int .u32 0,.int .u32 0,.int .u32 0,.int .u32 0,.int .u32 0,.int .u32 0,.int .u32 0,.int .u32 0,.int .u32 0,.int .u32 0,.int .u32 0,.int .u32 0]:=ah
theorem akG (W:List Nat):(gh W).all (·.oneCell')=true:=by
 unfold gh;rw[Cy,nF];intro x hx;obtain⟨k,_,rfl⟩:=kJ.1 hx;rfl
theorem MC (l:List UInt8):∀x∈gC l,x<4294967296:=by
 fun_induction gC l with
 |case1 a b c d l ih=>
  intro x hx;rcases eW.1 hx with rfl|hx
  ·have h0:=gT a;have h1:=gT b;have h2:=gT c;have h3:=gT d;unfold Dh;omega
  ·exact ih x hx
 |case2=>intro x hx;cases hx
theorem akH (W:List Nat):tO W<4294967296:=by unfold tO;omega
theorem MD {W:List Nat}(hW:∀x∈W,x<4294967296)(kB:W.length=16)(n:Nat)(hn:n<=48):(∀x∈lu n W,x<4294967296)/\(lu n W).length=16+n:=by
 have:∀(n:Nat) (W:List Nat),(∀x∈W,x<4294967296)->(∀x∈lu n W,x<4294967296)/\(lu n W).length=W.length+n:=by
  intro n;induction n with
  |zero=>intro W h;exact⟨h,rfl⟩
  |succ n ih=>
   intro W h
   have h2:=ih (W++[tO W]) (by
    intro x hx
    rcases fE.1 hx with hx|hx
    ·exact h x hx
    ·simp at hx;subst hx;exact akH W)
   refine⟨h2.1,?_⟩;show(lu n (W++[tO W])).length=_;rw[h2.2,ag];simp;omega
 have h:=this n W hW;exact⟨h.1,by rw[h.2,kB]⟩
theorem akI (n:Nat):∀W:List Nat,lu (n+1) W=lu n W++[tO (lu n W)]:=by
 induction n with
 |zero=>intro W;rfl
 |succ n ih=>intro W;exact ih (W++[tO W])
theorem Ir {W:List Nat}{i:Nat}(hW:∀x∈W,x<4294967296)(h:i<W.length):W.getD i 0<4294967296:=by
 rw[a_,aZ h];exact hW _ (mN h)
theorem QQ {B:Nat}{w w':World}(h:Below B w w')(n:Nat):Below B w (w'.drewN n):=h.trans ⟨rfl,rfl,rfl,ai _,λ _ _=>rfl⟩
theorem akJ (b:List UInt8)(A:Option Addr)(n c:Nat)(hn:b.length=n)(uU:64<=n)(w:World)(hr:Rd w A (aJ b)):
 Calls Tryz.prog 234 #[.slice A n c] w λ e w'=>e= .returned (.agg (gh (lu 48 (gC (b.take 64)))))/\Below w.heap.size w w':=by
 have Hn:=ae hn;have mixed:Tryz.prog.follows Departure.mixedOrders=true:=ah;have HR:=ae hr;clear hn hr;go_enter Tryz.func234,Tryz.ntmps234;go_wp2_with fail;go_loopw [8] (λ vi wr=>∃i:Nat,vi= .int .i64 i/\i<=16/\Bk wr (w.heap.size+1) 344 (gh (gC (b.take (4*i))))/\(∃z,Bk wr w.heap.size 344 z/\z.size=64)/\Below w.heap.size w wr) (λ vi _=>16-(intOf vi).toNat)
 case atStart=>
  have h3:=((aB w.heap.size w).alloc (ai _) (.cells (gh []) 344)).alloc aj (.cells (gh []) 344);have h1:=(Bk.new w 344 (gh [])).alloc (.cells (gh []) 344);have h2:=Bk.new (w.alloc (.cells (gh []) 344)) 344 (gh []);rw[lY]at h2;have hs:=MB [] aj;have e:gh (gC (b.take (4*0)))=gh []:=by simp[gC]
  rw[<-akF];generalize gh []=Z at*;exact⟨0,rfl,aa,by rw[e];exact h2,⟨Z,h1,hs⟩,h3⟩
 case round=>
  obtain⟨i,rfl,hi,hB,hZ,hb⟩:=hrel;have hr:=HR.out.below hb;have fa:=ae (QO i b (by rw[Hn.out];omega));by_cases ao:(i:Int)<16
  ·obtain⟨b0,e0⟩:∃x,b[4*i]? =some x:=⟨_,aZ (by rw[Hn.out];omega)⟩;obtain⟨b1,e1⟩:∃x,b[4*i+1]? =some x:=⟨_,aZ (by rw[Hn.out];omega)⟩;obtain⟨b2,e2⟩:∃x,b[4*i+2]? =some x:=⟨_,aZ (by rw[Hn.out];omega)⟩;obtain⟨b3,e3⟩:∃x,b[4*i+3]? =some x:=⟨_,aZ (by rw[Hn.out];omega)⟩;obtain⟨g,o,rfl,hc⟩:=hr (by intro e;have:=je b;rw[e,Hn.out]at this;simp at this;omega);have Iu:∀(j:Nat) (x:UInt8),b[j]? =some x->(aJ b)[j]? =some (Value.int .u8 (x.toNat:Int)):=λ j x h=>by unfold aJ;rw[eH,h];rfl
   have q0:=hc _ _ (Iu _ _ e0);have q1:=hc _ _ (Iu _ _ e1);have q2:=hc _ _ (Iu _ _ e2);have q3:=hc _ _ (Iu _ _ e3);have cm:=ae (Yc i b b0 b1 b2 b3 e0 e1 e2 e3);have akK:=ae (aks b0 b1 b2 b3);obtain⟨old,ho⟩:∃old,(gh (gC (b.take (4*i))))[i]? =some old:=⟨_,wK (by rw[MB _ (by rw[fa.out];omega)];omega)⟩;have c0:=(hB.cell i).trans ho;clear ho;have f0:=hB.frozen i;have m0:IntKind.i64.wrap (4*(i:Int))=4*(i:Int):=by rw[aE];omega
   have m1:IntKind.i64.wrap (4*(i:Int)+1)=4*(i:Int)+1:=by rw[aE];omega
   have m2:IntKind.i64.wrap (4*(i:Int)+2)=4*(i:Int)+2:=by rw[aE];omega
   have m3:IntKind.i64.wrap (4*(i:Int)+3)=4*(i:Int)+3:=by rw[aE];omega
   have t0:(4*(i:Int)).toNat=4*i:=aa;have t1:(4*(i:Int)+1).toNat=4*i+1:=aa;have t2:(4*(i:Int)+2).toNat=4*i+2:=aa;have t3:(4*(i:Int)+3).toNat=4*i+3:=aa;have l0:(0:Int)<=4*(i:Int):=aa;have l1:(0:Int)<=4*(i:Int)+1:=aa;have l2:(0:Int)<=4*(i:Int)+2:=aa;have l3:(0:Int)<=4*(i:Int)+3:=aa;have n0:4*(i:Int)<(n:Int):=aa;have n1:4*(i:Int)+1<(n:Int):=aa;have n2:4*(i:Int)+2<(n:Int):=aa;have n3:4*(i:Int)+3<(n:Int):=aa;have g0:(o+(4*i+1):Nat)=o+4*i+1:=aa;have g2:(o+(4*i+2):Nat)=o+4*i+2:=aa;have g3:(o+(4*i+3):Nat)=o+4*i+3:=aa;rw[<-rQ]at q1 q2 q3;clear e0 e1 e2 e3 Iu hc;go_wp2_with fail;go_big_region_o;all_goals go_wp2_with fail
   have cC:=hB.aP i (.int .u32 (Dh b0.toNat b1.toNat b2.toNat b3.toNat:Nat))
   have bF:Bk (wr.setCell ⟨w.heap.size+1,i,none⟩ (.int .u32 (Dh b0.toNat b1.toNat b2.toNat b3.toNat:Nat))) (w.heap.size+1) 344 (gh (gC (b.take (4*(i+1))))):=by
    rw[cm.out,<-Yt _ _ (by rw[fa.out];omega),fa.out];exact cC
   rw[akK.out];go_round
   case rel=>exact⟨i+1,by first|rfl|go_num,aa,bF,by obtain⟨z,h1,h2⟩:=hZ;exact⟨z,h1.far aj _,h2⟩,(hb.setCell (p:=⟨w.heap.size+1,i,none⟩) aj _).drew⟩
   case measure=>simp[intOf];omega
  ·obtain rfl:i=16:=aa;have HB:=ae hB;have akL:=ae (MD (W:=gC (b.take (4*16))) (MC _) (by rw[fa.out]) 0 aa);rw[show lu 0 (gC (b.take (4*16)))=gC (b.take (4*16))from rfl]at akL;go_wp2_with fail;go_loopw [5] (λ vi bU=>∃k:Nat,vi= .int .i64 (k:Nat)/\16<=k/\k<=64/\Hid (Bk bU (w.heap.size+1) 344 (gh (lu (k-16) (gC (b.take 64)))))/\(∃z,Bk bU w.heap.size 344 z/\z.size=64)/\Below w.heap.size w bU) (λ vi _=>64-(intOf vi).toNat)
   case atStart=>exact⟨16,rfl,aa,aa,HB,hZ,hb⟩
   case round=>
    clear HB hB hZ hb hr;obtain⟨k,rfl,oP,bI,HB,hZ,hb⟩:=hrel;by_cases ao:(k:Int)<64
    ·obtain⟨Fj,Yu⟩:=MD (W:=gC (b.take 64)) (MC _) fa.out (k-16) aa;obtain⟨W,hW⟩:∃W,lu (k-16) (gC (b.take 64))=W:=⟨_,rfl⟩;have sx:=ae (show lu (k+1-16) (gC (b.take 64))=W++[tO W]by rw[show k+1-16=(k-16)+1 by omega,akI,hW]);rw[hW]at HB Fj Yu;have HK:W.length=k:=aa;obtain⟨AQ,kB⟩:∃a,k=a+16:=⟨k-16,aa⟩;obtain⟨Fk,Dj⟩:∃a,k=a+15:=⟨k-15,aa⟩;obtain⟨a7,h7⟩:∃a,k=a+7:=⟨k-7,aa⟩;obtain⟨a2,h2⟩:∃a,k=a+2:=⟨k-2,aa⟩;have m16:IntKind.i64.wrap ((k:Int)-16)=(AQ:Int):=by rw[aE];omega
     have m15:IntKind.i64.wrap ((k:Int)-15)=(Fk:Int):=by rw[aE];omega
     have m7:IntKind.i64.wrap ((k:Int)-7)=(a7:Int):=by rw[aE];omega
     have m2:IntKind.i64.wrap ((k:Int)-2)=(a2:Int):=by rw[aE];omega
     obtain⟨Dk,Iv⟩:∃x,W.getD AQ 0=x:=⟨_,rfl⟩;obtain⟨tP,Dl⟩:∃x,W.getD Fk 0=x:=⟨_,rfl⟩;obtain⟨x7,Fm⟩:∃x,W.getD a7 0=x:=⟨_,rfl⟩;obtain⟨x2,ff⟩:∃x,W.getD a2 0=x:=⟨_,rfl⟩;have Dm:=(HB.out.cell AQ).trans (Iq W AQ aa);have Yv:=(HB.out.cell Fk).trans (Iq W Fk aa);have c7:=(HB.out.cell a7).trans (Iq W a7 aa);have c2:=(HB.out.cell a2).trans (Iq W a2 aa);rw[Iv]at Dm;rw[Dl]at Yv;rw[Fm]at c7;rw[ff]at c2;obtain⟨old,ho⟩:∃old,(gh W)[k]? =some old:=⟨_,wK (by rw[MB _ aa];omega)⟩;have c0:=(HB.out.cell k).trans ho;have f0:=HB.out.frozen k;have akM:Dk<4294967296:=by rw[<-Iv];exact Ir Fj aa
     have Iw:tP<4294967296:=by rw[<-Dl];exact Ir Fj aa
     have y7:x7<4294967296:=by rw[<-Fm];exact Ir Fj aa
     have y2:x2<4294967296:=by rw[<-ff];exact Ir Fj aa
     have Yw:Hid (tO W=(Dk+Mm tP+x7+Mn x2)%4294967296):=ae (by
      unfold tO
      rw[show W.length-16=AQ by omega,show W.length-15=Fk by omega,show W.length-7=a7 by omega,show W.length-2=a2 by omega,Iv,Dl,Fm,ff])
     obtain⟨r1,gN⟩:∃r,gJ tP 7=r:=⟨_,rfl⟩;obtain⟨r2,cH⟩:∃r,gJ tP 18=r:=⟨_,rfl⟩;obtain⟨r3,dL⟩:∃r,gJ x2 17=r:=⟨_,rfl⟩;obtain⟨r4,fK⟩:∃r,gJ x2 19=r:=⟨_,rfl⟩;have T1:Hid (∀w',Calls Tryz.prog 235 #[.int .u32 tP,.int .i64 7] w' λ e bO=>e= .returned (.int .u32 (r1:Nat))/\∃m,bO=w'.drewN m):=ae λ w'=>by rw[<-gN];exact Im tP 7 w' Iw aa
     have T2:Hid (∀w',Calls Tryz.prog 235 #[.int .u32 tP,.int .i64 18] w' λ e bO=>e= .returned (.int .u32 (r2:Nat))/\∃m,bO=w'.drewN m):=ae λ w'=>by rw[<-cH];exact Im tP 18 w' Iw aa
     have T3:Hid (∀w',Calls Tryz.prog 235 #[.int .u32 x2,.int .i64 17] w' λ e bO=>e= .returned (.int .u32 (r3:Nat))/\∃m,bO=w'.drewN m):=ae λ w'=>by rw[<-dL];exact Im x2 17 w' y2 aa
     have T4:Hid (∀w',Calls Tryz.prog 235 #[.int .u32 x2,.int .i64 19] w' λ e bO=>e= .returned (.int .u32 (r4:Nat))/\∃m,bO=w'.drewN m):=ae λ w'=>by rw[<-fK];exact Im x2 19 w' y2 aa
     obtain⟨s0,Dn⟩:∃s,Mm tP=s:=⟨_,rfl⟩;obtain⟨s1,dH⟩:∃s,Mn x2=s:=⟨_,rfl⟩;have v1:r1<4294967296:=by rw[<-gN];exact qv _ _ Iw
     have v2:r2<4294967296:=by rw[<-cH];exact qv _ _ Iw
     have v3:r3<4294967296:=by rw[<-dL];exact qv _ _ y2
     have v4:r4<4294967296:=by rw[<-fK];exact qv _ _ y2
     have e0:bits .xor .u32 (bits .xor .u32 (r1:Int) (r2:Int)) ((tP:Int)/8)=(s0:Int):=by
      rw[oR _ _ v1 v2,show(tP:Int)/8=((tP/8:Nat):Int)by omega,oR _ _ (py (n:=32) v1 v2) aa,<-Dn];unfold Mm;rw[gN,cH]
     have e1:bits .xor .u32 (bits .xor .u32 (r3:Int) (r4:Int)) ((x2:Int)/1024)=(s1:Int):=by
      rw[oR _ _ v3 v4,show(x2:Int)/1024=((x2/1024:Nat):Int)by omega,oR _ _ (py (n:=32) v3 v4) aa,<-dH];unfold Mn;rw[dL,fK]
     rw[Dn,dH]at Yw;have HA:=ae (af HK (af kB (af Dj (af h7 h2))));clear gN cH dL fK Dn dH v1 v2 v3 v4 akM Iw y7 y2 Iv Dl Fm ff ho hW Fj Yu HK kB Dj h7 h2;have Yx:(AQ:Int)<64:=by have:=HA.out;omega
     have auE:(Fk:Int)<64:=by have:=HA.out;omega
     have l7:(a7:Int)<64:=by have:=HA.out;omega
     have l2:(a2:Int)<64:=by have:=HA.out;omega
     go_wp2_with fail;go_quiet (first|(go_at_call 235;with_reducible refine Calls.quiet_of (T1.out _))|(go_at_call 235;with_reducible refine Calls.quiet_of (T2.out _)));have bF:Bk (wr.drewN nq) (w.heap.size+1) 344 (gh W):=HB.out;have Iy:∃z,Bk (wr.drewN nq) w.heap.size 344 z/\z.size=64:=hZ;have aO:=QQ hb nq;have xx:=ae (af bF (af Iy aO));have akN:(wr.drewN nq).cell? ⟨w.heap.size+1,a2,none⟩=some (.int .u32 (x2:Nat)):=c2;have QR:(wr.drewN nq).cell? ⟨w.heap.size+1,AQ,none⟩=some (.int .u32 (Dk:Nat)):=Dm;have Yy:(wr.drewN nq).cell? ⟨w.heap.size+1,a7,none⟩=some (.int .u32 (x7:Nat)):=c7;have Iz:(wr.drewN nq).cell? ⟨w.heap.size+1,k,none⟩=some old:=c0;have Yz:(wr.drewN nq).frozen? ⟨w.heap.size+1,k,none⟩=false:=f0;clear bF Iy aO c2 Dm c7 c0 f0 Yv hZ hb HB;generalize wr.drewN nq=wa at*;go_wp2_with fail;go_quiet (first|(go_at_call 235;with_reducible refine Calls.quiet_of (T3.out _))|(go_at_call 235;with_reducible refine Calls.quiet_of (T4.out _)));have bF:Bk (wa.drewN nq) (w.heap.size+1) 344 (gh W):=xx.out.1;have Iy:∃z,Bk (wa.drewN nq) w.heap.size 344 z/\z.size=64:=xx.out.2.1;have aO:=QQ xx.out.2.2 nq;have QS:=ae (af bF (af Iy aO));have Dm:(wa.drewN nq).cell? ⟨w.heap.size+1,AQ,none⟩=some (.int .u32 (Dk:Nat)):=QR;have c7:(wa.drewN nq).cell? ⟨w.heap.size+1,a7,none⟩=some (.int .u32 (x7:Nat)):=Yy;have c0:(wa.drewN nq).cell? ⟨w.heap.size+1,k,none⟩=some old:=Iz;have f0:(wa.drewN nq).frozen? ⟨w.heap.size+1,k,none⟩=false:=Yz;clear bF Iy aO akN QR Yy Iz Yz xx;generalize wa.drewN nq=wb at*;go_wp2_with fail;go_big_region_o;all_goals go_wp2_with fail
     have dw:Bk (wb.setCell ⟨w.heap.size+1,k,none⟩ (.int .u32 (((Dk:Int)+s0+x7+s1)%4294967296))) (w.heap.size+1) 344 (gh (lu (k+1-16) (gC (b.take 64)))):=by
      have h:=QS.out.1.aP k (.int .u32 (tO W:Nat));rw[sx.out,<-Yt _ _ (by have:=HA.out;omega),HA.out.1];rw[show(((Dk:Int)+s0+x7+s1)%4294967296)=(tO W:Nat)by rw[Yw.out];omega];exact h
     have akO:∃z,Bk (wb.setCell ⟨w.heap.size+1,k,none⟩ (.int .u32 (((Dk:Int)+s0+x7+s1)%4294967296))) w.heap.size 344 z/\z.size=64:=by
      obtain⟨z,h1,h2⟩:=QS.out.2.1;exact⟨z,h1.far aj _,h2⟩
     go_round
     case rel=>exact⟨k+1,by first|rfl|go_num,aa,aa,ae dw,akO,(QS.out.2.2.setCell (p:=⟨w.heap.size+1,k,none⟩) aj _).drew⟩
     case measure=>simp[intOf];omega
    ·obtain rfl:k=64:=aa;obtain⟨z,dN,gX⟩:=hZ;have hB:=HB.out;have aG:=MB (lu (64-16) (gC (b.take 64))) (by rw[(MD (MC _) fa.out (64-16) aa).2];omega);have uN:=akG (lu (64-16) (gC (b.take 64)));rw[show 64-16=48 from rfl]at hB aG uN;obtain⟨C,hC⟩:∃C,gh (lu 48 (gC (b.take 64)))=C:=⟨_,rfl⟩;rw[hC]at hB aG uN;have QT:=ae hC;clear hC;have hi:(Tryz.prog.info? 344).map (·.size)=some C.size:=by rw[aG];exact Yr
     have HI:=ae hi;have yS:=ae (show z.size=C.size by rw[gX,aG]);have xy:=ae uN;have uZ:=ae dN;have cD:=ae hB;have QU:=ae (kd wr w.heap.size z C 344 (0,0) dN);clear hi gX aG uN dN hB HB;have im:wr.heap[w.heap.size+1]? =some (.cells C 344 (0,0)):=cD.out;have dU:wr.heap[w.heap.size]? =some (.cells z 344 (0,0)):=uZ.out;go_wp2_with (first|(refine qk rfl 344 _ rfl (w.heap.size+1) rfl 344 _ (0,0) _ im Tryz.underlying344 rfl HI.out ?_)|(refine nG rfl 344 _ _ rfl w.heap.size C rfl rfl 344 z dU HI.out yS.out xy.out ?_));rw[QT.out];refine eX (EF Tryz.results234 _ _ w.heap.size 344 C (0,0) _ rfl QU.out Tryz.underlying344 rfl HI.out) rfl ⟨rfl,?_⟩;refine hb.trans ⟨rfl,rfl,rfl,by simp[World.setRow],λ k hk=>?_⟩;simp only[World.setRow];rw[zG,if_neg aa]
def gO (V:List Nat):Array Value:=(V.map λ k=>Value.int .u32 (k:Nat)).toArray
def lP (V:List Nat):Prop:=V.length=8/\∀x∈V,x<4294967296
theorem eight {α:Type}{l:List α}(h:l.length=8):∃a b c d e f g i,l=[a,b,c,d,e,f,g,i]:=by
 match l,h with
 |[a,b,c,d,e,f,g,i],_=>exact⟨a,b,c,d,e,f,g,i,rfl⟩
theorem akP {V:List Nat}(h:lP V)(k w:Nat):lP (Fi V k w):=by
 obtain⟨a,b,c,d,e,f,g,i,rfl⟩:=eight h.1;refine⟨rfl,λ x hx=>?_⟩;have hh:=h.2;simp only[Fi,eW,List.not_mem_nil,or_false]at hx;rcases hx with rfl|rfl|rfl|rfl|rfl|rfl|rfl|rfl
 ·omega
 ·exact hh _ aj
 ·exact hh _ aj
 ·exact hh _ aj
 ·omega
 ·exact hh _ aj
 ·exact hh _ aj
 ·exact hh _ aj
theorem YA:∀(i:Nat) (V K W:List Nat),i<K.length->i<W.length->qQ V (K.take (i+1)) (W.take (i+1))=Fi (qQ V (K.take i) (W.take i)) (K.getD i 0) (W.getD i 0)
 |0,V,k::K,w::W,_,_=>by simp[qQ]
 |i+1,V,k::K,w::W,hk,hw=>by
  simp only[aU]at hk hw;have ih:=YA i (Fi V k w) K W aa aa;simp only[uu,qQ,List.getD_cons_succ];exact ih
 |_,_,[],_,hk,_=>by simp at hk
 |_,_,_::_,[],_,hw=>by simp at hw
theorem ME:∀(K W V:List Nat),lP V->lP (qQ V K W)
 |[],W,V,h=>by cases W<;>simpa[qQ]using h
 |k::K,[],V,h=>by simpa[qQ]using h
 |k::K,w::W,V,h=>ME K W (Fi V k w) (akP h k w)
theorem akQ (e f g h k w r1 r2 r3:Nat)(he:e<4294967296)(hf:f<4294967296)(hg:g<4294967296)(h1:gJ e 6=r1)(h2:gJ e 11=r2)(h3:gJ e 25=r3):
 ∃x1 x2 x3 x4 x5 x6 p1 p2 p3:Nat,bits .xor .u32 (r1:Int) (r2:Int)=(x1:Int)/\bits .xor .u32 (x1:Int) (r3:Int)=(x2:Int)/\bits .and .u32 (e:Int) (f:Int)=(x3:Int)/\
  bits .xor .u32 (if IntKind.u32.signed=true then-1 else IntKind.u32.max) (e:Int)=(x4:Int)/\bits .and .u32 (x4:Int) (g:Int)=(x5:Int)/\bits .xor .u32 (x3:Int) (x5:Int)=(x6:Int)/\
  IntKind.u32.wrap ((h:Int)+x2)=(p1:Int)/\IntKind.u32.wrap ((p1:Int)+x6)=(p2:Int)/\IntKind.u32.wrap ((p2:Int)+k)=(p3:Int)/\IntKind.u32.wrap ((p3:Int)+w)=(Io e f g h k w:Nat):=by
 have l1:r1<4294967296:=by rw[<-h1];exact qv _ _ he
 have l2:r2<4294967296:=by rw[<-h2];exact qv _ _ he
 have l3:r3<4294967296:=by rw[<-h3];exact qv _ _ he
 have QV:=py (n:=32) l1 l2;have l4:4294967295-e<4294967296:=aa
 have e4:bits .xor .u32 (if IntKind.u32.signed=true then-1 else IntKind.u32.max) (e:Int)=((4294967295-e:Nat):Int):=by
  rw[show(if IntKind.u32.signed=true then(-1:Int)else IntKind.u32.max)=((4294967295:Nat):Int)by decide,oR _ _ aa he];congr 1
  exact Nat.eq_of_testBit_eq λ i=>by
   rw[Nat.testBit_xor,show 4294967295=2^32-1 by decide,Nat.testBit_two_pow_sub_one,show 2^32-1-e=2^32-(e+1)by omega,Nat.testBit_two_pow_sub_succ aa];by_cases hi:i<32
   ·simp[hi]
   ·simp[hi,Nat.testBit_lt_two_pow (x:=e) (i:=i) (by have:=px (n:=2) aa (show 32<=i by omega);omega)]
 have l5:(4294967295-e)&&&g<4294967296:=Nat.and_lt_two_pow (n:=32) _ hg;have l6:e&&&f<4294967296:=Nat.and_lt_two_pow (n:=32) _ hf
 refine⟨r1^^^r2,r1^^^r2^^^r3,e&&&f,4294967295-e,(4294967295-e)&&&g,(e&&&f)^^^((4294967295-e)&&&g),(h+(r1^^^r2^^^r3))%4294967296,(h+(r1^^^r2^^^r3)+((e&&&f)^^^((4294967295-e)&&&g)))%4294967296,(h+(r1^^^r2^^^r3)+((e&&&f)^^^((4294967295-e)&&&g))+k)%4294967296,
  oR _ _ l1 l2,oR _ _ QV l3,GU _ _ he hf,e4,GU _ _ l4 hg,oR _ _ l6 l5,?_,?_,?_,?_⟩
 ·rw[Et];omega
 ·rw[Et];omega
 ·rw[Et];omega
 ·rw[Et];unfold Io;rw[h1,h2,h3];omega
theorem akR (a b c r1 r2 r3:Nat)(ha:a<4294967296)(hb:b<4294967296)(hc:c<4294967296)(h1:gJ a 2=r1)(h2:gJ a 13=r2)(h3:gJ a 22=r3):
 ∃x1 x2 x3 x4 x5 x6 x7:Nat,bits .xor .u32 (r1:Int) (r2:Int)=(x1:Int)/\bits .xor .u32 (x1:Int) (r3:Int)=(x2:Int)/\bits .and .u32 (a:Int) (b:Int)=(x3:Int)/\
  bits .and .u32 (a:Int) (c:Int)=(x4:Int)/\bits .xor .u32 (x3:Int) (x4:Int)=(x5:Int)/\bits .and .u32 (b:Int) (c:Int)=(x6:Int)/\bits .xor .u32 (x5:Int) (x6:Int)=(x7:Int)/\
  IntKind.u32.wrap ((x2:Int)+x7)=(Mo a b c:Nat):=by
 have l1:r1<4294967296:=by rw[<-h1];exact qv _ _ ha
 have l2:r2<4294967296:=by rw[<-h2];exact qv _ _ ha
 have l3:r3<4294967296:=by rw[<-h3];exact qv _ _ ha
 have QV:=py (n:=32) l1 l2;have m1:a&&&b<4294967296:=Nat.and_lt_two_pow (n:=32) _ hb;have m2:a&&&c<4294967296:=Nat.and_lt_two_pow (n:=32) _ hc;have m3:b&&&c<4294967296:=Nat.and_lt_two_pow (n:=32) _ hc;have m12:=py (n:=32) m1 m2;refine⟨r1^^^r2,r1^^^r2^^^r3,a&&&b,a&&&c,(a&&&b)^^^(a&&&c),b&&&c,(a&&&b)^^^(a&&&c)^^^(b&&&c),oR _ _ l1 l2,oR _ _ QV l3,GU _ _ ha hb,GU _ _ ha hc,oR _ _ m1 m2,GU _ _ hb hc,oR _ _ m12 m3,?_⟩;rw[Et];unfold Mo;rw[h1,h2,h3];omega
def m_ (H V:List Nat)(k:Nat):List Nat:=(List.zipWith (λ x y=>(x+y)%4294967296) H V).take k++H.drop k
theorem akS (H V:List Nat):m_ H V 0=H:=by simp[m_]
theorem akT (H V:List Nat)(n:Nat)(h1:H.length=n)(h2:V.length=n):m_ H V n=List.zipWith (λ x y=>(x+y)%4294967296) H V:=by
 unfold m_;rw[bQ (by simp;omega),rU aa,bV]
theorem YB (H V:List Nat)(k n:Nat)(h1:H.length=n)(h2:V.length=n):(m_ H V k).length=n:=by
 unfold m_;simp;omega
theorem YC:∀(H V:List Nat) (k:Nat),k<H.length->k<V.length->(m_ H V k).getD k 0=H.getD k 0/\(m_ H V k).set k ((H.getD k 0+V.getD k 0)%4294967296)=m_ H V (k+1)
 |h::H,v::V,0,_,_=>by simp[m_]
 |h::H,v::V,k+1,hk,hv=>by
  simp only[aU]at hk hv;have ih:=YC H V k aa aa;have e:∀j,m_ (h::H) (v::V) (j+1)=(h+v)%4294967296::m_ H V j:=λ j=>by simp[m_]
  rw[e,e];simpa using ih
 |[],_,_,hk,_=>by simp at hk
 |_::_,[],_,_,hv=>by simp at hv
theorem QW (V:List Nat)(k:Nat)(h:k<V.length):(gO V)[k]? =some (.int .u32 (V.getD k 0:Nat)):=by
 unfold gO;simp[h]
theorem akU (V:List Nat)(k x:Nat):(gO V).setIfInBounds k (.int .u32 (x:Nat))=gO (V.set k x):=by
 unfold gO;simp[zQ]
theorem akV (V:List Nat):(gO V).size=V.length:=by simp[gO]
theorem akW (W:List Nat):(gO W).all (·.oneCell')=true:=by
 unfold gO;rw[Cy,nF];intro x hx;obtain⟨k,_,rfl⟩:=kJ.1 hx;rfl
theorem akX {H V:List Nat}(h1:H.length=8)(h2:V.length=8):lP (List.zipWith (λ x y=>(x+y)%4294967296) H V):=by
 obtain⟨a,b,c,d,e,f,g,i,rfl⟩:=eight h1;obtain⟨a',b',c',d',e',f',g',i',rfl⟩:=eight h2;refine⟨rfl,λ x hx=>?_⟩;simp only[List.zipWith_cons_cons,List.zipWith_nil_left,eW,List.not_mem_nil,or_false]at hx;omega
