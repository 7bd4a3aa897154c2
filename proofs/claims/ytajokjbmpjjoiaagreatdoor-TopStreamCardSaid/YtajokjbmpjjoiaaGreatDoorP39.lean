import Derived.Test.YtajokjbmpjjoiaaGreatDoorP06
import Derived.Test.YtajokjbmpjjoiaaGreatDoorP14
import Derived.Test.YtajokjbmpjjoiaaGreatDoorP17
set_option maxRecDepth 20000
set_option maxHeartbeats 0
namespace Go.Proofs.YtajokjbmpjjoiaaGreatDoor
section
open Go.RowKit
def uv (l:List Nat):List Value:=l.map λ x=>Value.int .u32 (x:Nat)
def zy:List Nat:=[1634760805,857760878,2036477234,1797285236,0,0,0,0,0,0,0,0,0,0,0,0]
def Gn:Array Value:=(uv zy).toArray
theorem arj:Tryz.prog.built 235 [(0,.int .u32 1634760805),(1,.int .u32 857760878),(2,.int .u32 2036477234),(3,.int .u32 1797285236)]=some Gn:=ah
def po (f:Nat->Nat)(at_:Nat):Nat->List Nat->List Nat
 |0,l=>l
 |k+1,l=>(po f at_ k l).set (at_+k) (f k)
theorem Ke (f:Nat->Nat)(at_:Nat)(l:List Nat):∀k,(po f at_ k l).length=l.length
 |0=>rfl
 |k+1=>by rw[po,iP,Ke f at_ l k]
theorem ark (key bJ:List UInt8)(bD:Nat):po (jU bJ) 13 3 ((po (jU key) 4 8 zy).set 12 bD)=uL key bJ bD:=by
 unfold uL;generalize jU key=f;generalize jU bJ=g;rfl
theorem arl (l:List Nat)(i x:Nat):uv (l.set i x)=(uv l).set i (.int .u32 (x:Nat)):=by unfold uv;rw[zQ]
theorem Ug (l:List Nat):(uv l).length=l.length:=by unfold uv;rw[eG]
def jC (w:World)(g:Nat)(t:TypeId)(l:List Nat):Prop:=Bk w g t (uv l).toArray
theorem jC.aP {w:World}{g:Nat}{t:TypeId}{l:List Nat}(h:jC w g t l)(i x:Nat):jC (w.setCell ⟨g,i,none⟩ (.int .u32 (x:Nat))) g t (l.set i x):=by
 have h2:=Bk.aP h i (.int .u32 (x:Nat));unfold jC;rw[arl];simpa using h2
theorem jC.cell {w:World}{g:Nat}{t:TypeId}{l:List Nat}(h:jC w g t l)(i:Nat)(hi:i<l.length):w.cell? ⟨g,i,none⟩=some (.int .u32 (l.getD i 0:Nat)):=by
 refine Bk.cell_ h i _ ?_;unfold uv;rw[gW,eH,a_,aZ hi];rfl
theorem jC.below {w w':World}{g:Nat}{t:TypeId}{l:List Nat}(h:jC w g t l)(hb:Below w.heap.size w w'):jC w' g t l:=Bk.aL h hb
structure xY (w wr:World)(q6 q7:Nat)(t:TypeId)(Z:Array Value)(l:List Nat):Prop where
 u:jC wr q7 t l
 z:Bk wr q6 t Z
 b:Below q6 w wr
 le:q6<=wr.heap.size
 ne:q6<q7
theorem xY.below {w wr w':World}{q6 q7:Nat}{t:TypeId}{Z:Array Value}{l:List Nat}(h:xY w wr q6 q7 t Z l)(hb:Below wr.heap.size wr w'):xY w w' q6 q7 t Z l:=
 ⟨h.u.below hb,Bk.aL h.z hb,h.b.trans (hb.mono h.le),b_ h.le hb.size,h.ne⟩
theorem xY.put {w wr:World}{q6 q7:Nat}{t:TypeId}{Z:Array Value}{l:List Nat}(h:xY w wr q6 q7 t Z l)(i x:Nat):xY w (wr.setCell ⟨q7,i,none⟩ (.int .u32 (x:Nat))) q6 q7 t Z (l.set i x):=
 ⟨h.u.aP i x,by
   have:=h.ne;have hz:=h.z;unfold Bk at hz⊢;rw[<-hz];simp only[World.setCell];rw[zG,if_neg aa],h.b.setCell (p:=⟨q7,i,none⟩) (Nat.le_of_lt h.ne) _,by have:=h.le;simpa[World.setCell]using this,h.ne⟩
theorem arn (key bJ:ByteArray)(bD:Nat)(hk:key.size=32)(hn:bJ.size=12)(hc:bD<4294967296)(w:World):
 Calls Tryz.prog 144 #[.string key,.string bJ,.int .i64 bD] w λ e w'=>e= .returned (.agg (uv (uL key.toList bJ.toList bD)).toArray)/\Below w.heap.size w w':=by
 have il:∀w:World,(Instr.build 235 #[(0,.int .u32 1634760805),(1,.int .u32 857760878),(2,.int .u32 2036477234),(3,.int .u32 1797285236)]).run Tryz.prog w= .ok (.agg Gn) w:=λ w=>run_build w _ _ _ arj;have pT:=ae il;have HI:=ae (show(Tryz.prog.info? 235).map (·.size)=some Gn.size by kernel_rfl);have j3:=ae (show Gn.size=16 by kernel_rfl);have HO:=ae (show Gn.all (·.oneCell')=true by kernel_rfl);clear il;generalize Gn=C at*;go_enter Tryz.func144,Tryz.ntmps144;go_upto_region 1 with fail;generalize JZ:w.alloc (.cells #[.int .u32 0,.int .u32 0,.int .u32 0,.int .u32 0,.int .u32 0,.int .u32 0,.int .u32 0,.int .u32 0,.int .u32 0,.int .u32 0,.int .u32 0,.int .u32 0,.int .u32 0,.int .u32 0,.int .u32 0,.int .u32 0] 235)=w0 at*;go_wp2_with (refine nG rfl 235 _ _ rfl w0.heap.size C rfl rfl 235 _ (l_ w0 _) HI.out (by rw[j3.out];rfl) HO.out ?_);obtain⟨Z,hZ⟩:∃Z,(#[.int .u32 0,.int .u32 0,.int .u32 0,.int .u32 0,.int .u32 0,.int .u32 0,.int .u32 0,.int .u32 0,.int .u32 0,.int .u32 0,.int .u32 0,.int .u32 0,.int .u32 0,.int .u32 0,.int .u32 0,.int .u32 0]:Array Value)=Z:=⟨_,rfl⟩
 have HU:Hid (xY w (w0.alloc (.cells #[.int .u32 1634760805,.int .u32 857760878,.int .u32 2036477234,.int .u32 1797285236,.int .u32 0,.int .u32 0,.int .u32 0,.int .u32 0,.int .u32 0,.int .u32 0,.int .u32 0,.int .u32 0,.int .u32 0,.int .u32 0,.int .u32 0,.int .u32 0] 235)) w.heap.size w0.heap.size 235 Z zy):=ae (by
  subst JZ hZ
  exact⟨Bk.new _ _ _,(Bk.new w _ _).alloc _,((aB _ w).alloc (ai _) _).alloc aj _,by simp;omega,aj⟩)
 have Rf:=ae (show Z.size=16 by rw[<-hZ];rfl);clear JZ hZ pT HI j3 HO;generalize w0.alloc (.cells #[.int .u32 1634760805,.int .u32 857760878,.int .u32 2036477234,.int .u32 1797285236,.int .u32 0,.int .u32 0,.int .u32 0,.int .u32 0,.int .u32 0,.int .u32 0,.int .u32 0,.int .u32 0,.int .u32 0,.int .u32 0,.int .u32 0,.int .u32 0] 235)=w1 at*;generalize w0.heap.size=q7 at*;generalize wC:w.heap.size=q6 at*;have Uh:=ae wC;clear wC;go_loopw [11] (λ vi wr=>∃k:Nat,vi= .int .i64 (k:Nat)/\k<=8/\Hid (xY w wr q6 q7 235 Z (po (jU key.toList) 4 k zy))) (λ vi _=>8-vnat vi)
 case atStart=>exact⟨0,rfl,aa,HU⟩
 case round=>
  clear HU;obtain⟨ws,rfl⟩:∃ws,ws=wr:=⟨_,rfl⟩;obtain⟨k,rfl,ac9,HX⟩:=hrel;by_cases ao:(k:Int)<8
  ·obtain⟨j,hj⟩:∃j,4+k=j:=⟨_,rfl⟩;have kP:(4:Int)+(k:Int)=(j:Int):=aa;have aeE:(j:Int)<16:=aa;have HW:=ae (Yq key k aa aa ws);obtain⟨x,hx⟩:∃x,jU key.toList k=x:=⟨_,rfl⟩;rw[hx]at HW;have cm:=ae (show po (jU key.toList) 4 (k+1) zy=(po (jU key.toList) 4 k zy).set j x by rw[po,hx,hj]);have hlen:=Ke (jU key.toList) 4 zy k;obtain⟨L,hL⟩:∃L,po (jU key.toList) 4 k zy=L:=⟨_,rfl⟩;rw[hL]at HX cm hlen;have RN:L.length=16:=hlen;clear hx hL hj hlen;go_wp2_with fail;(with_reducible refine HW.out.mono ?_);rintro e w3 ⟨rfl,aO⟩;have fA:=ae (HX.out.below aO);have e0:=fA.out.u.cell j aa;have f0:=Bk.frozen fA.out.u j;clear aO HX HW;go_wp2_with fail;refine⟨⟨k+1,by first|rfl|go_num,aa,ae (by rw[cm.out];exact fA.out.put j x)⟩,by simp[vnat];omega⟩
  ·obtain rfl:k=8:=aa;obtain⟨L,hL⟩:∃L,po (jU key.toList) 4 8 zy=L:=⟨_,rfl⟩;have hlen:L.length=16:=by rw[<-hL,Ke];rfl
   have mI:=ae hL;rw[hL]at HX;clear hL;have e0:=HX.out.u.cell 12 aa;have f0:=Bk.frozen HX.out.u 12;have n9:(bD:Int)%4294967296=(bD:Int):=aa;go_wp2_with fail;have HY:Hid (xY w (ws.setCell ⟨q7,12,none⟩ (.int .u32 (bD:Nat))) q6 q7 235 Z (L.set 12 bD)):=ae (HX.out.put 12 bD);clear e0 f0 HX;generalize ws.setCell ⟨q7,12,none⟩ (.int .u32 (bD:Nat))=wy at*;go_loopw [24] (λ vi wr=>∃k:Nat,vi= .int .i64 (k:Nat)/\k<=3/\Hid (xY w wr q6 q7 235 Z (po (jU bJ.toList) 13 k (L.set 12 bD)))) (λ vi _=>3-vnat vi)
   case atStart=>exact⟨0,rfl,aa,HY⟩
   case round=>
    clear HY;obtain⟨wt,rfl⟩:∃wt,wt=wr:=⟨_,rfl⟩;obtain⟨m,rfl,rh,HX⟩:=hrel;by_cases OD:(m:Int)<3
    ·obtain⟨j,hj⟩:∃j,13+m=j:=⟨_,rfl⟩;have kP:(13:Int)+(m:Int)=(j:Int):=aa;have aeE:(j:Int)<16:=aa;have HW:=ae (Yq bJ m aa aa wt);obtain⟨x,hx⟩:∃x,jU bJ.toList m=x:=⟨_,rfl⟩;rw[hx]at HW;have cm:=ae (show po (jU bJ.toList) 13 (m+1) (L.set 12 bD)=(po (jU bJ.toList) 13 m (L.set 12 bD)).set j x by rw[po,hx,hj]);have aeF:=Ke (jU bJ.toList) 13 (L.set 12 bD) m;obtain⟨M,hM⟩:∃M,po (jU bJ.toList) 13 m (L.set 12 bD)=M:=⟨_,rfl⟩;rw[hM]at HX cm aeF;rw[iP,hlen]at aeF;clear hx hM hj;go_wp2_with fail;(with_reducible refine HW.out.mono ?_);rintro e w3 ⟨rfl,aO⟩;have fA:=ae (HX.out.below aO);have e0:=fA.out.u.cell j aa;have f0:=Bk.frozen fA.out.u j;clear aO HX HW;go_wp2_with fail;refine⟨⟨m+1,by first|rfl|go_num,aa,ae (by rw[cm.out];exact fA.out.put j x)⟩,by simp[vnat];omega⟩
    ·obtain rfl:m=3:=aa;have p_:=ae (ark key.toList bJ.toList bD);rw[mI.out]at p_;rw[p_.out]at HX;obtain⟨C2,Kf⟩:∃C,(uv (uL key.toList bJ.toList bD)).toArray=C:=⟨_,rfl⟩;have xZ:C2.size=16:=by rw[<-Kf,<-p_.out,pv,Ug,Ke,iP,hlen]
     have xW:=ae (show(Tryz.prog.info? 235).map (·.size)=some C2.size by rw[xZ];kernel_rfl)
     have mr:=ae (show C2.all (·.oneCell')=true by
      rw[<-Kf,Cy,nF];intro u hu;unfold uv at hu;obtain⟨x,_,rfl⟩:=kJ.1 hu;rfl)
     have aro:Hid (Bk wt q7 235 C2):=ae (Kf▸HX.out.u);have FX:=ae HX.out.z;have Ui:=ae HX.out.b;have dt:=ae (show C2.size=Z.size by rw[xZ,Rf.out]);have kR:=ae Kf;clear Kf HX p_ xZ;go_wp2_with (first|(refine qk rfl 235 _ rfl q7 rfl 235 C2 (0,0) _ aro.out Tryz.underlying235 rfl xW.out ?_)|(refine nG rfl 235 _ _ rfl q6 C2 rfl rfl 235 _ FX.out xW.out dt.out.symm mr.out ?_));refine eX (EF Tryz.results144 _ _ q6 235 C2 (0,0) _ rfl (kd wt q6 Z C2 235 (0,0) FX.out) Tryz.underlying235 rfl xW.out) rfl ⟨by rw[kR.out],?_⟩;rw[Uh.out];exact below_setRow Ui.out (ai _) _
theorem arp (key bJ:ByteArray)(bD:Nat)(hk:key.size=32)(hn:bJ.size=12)(hc:bD<4294967296)(w:World):
 Calls Tryz.prog 88 #[.string key,.string bJ,.int .i64 (bD:Nat)] w λ e w'=>e= .returned (.bool true)/\Below w.heap.size w w':=by
 have h1:(0:Int)<=(bD:Int):=aa;have h2:(bD:Int)<=4294967295:=aa;go_enter Tryz.func88,Tryz.ntmps88;go_wp2_with fail;go_ret;exact⟨rfl,aB _ _⟩
theorem jC.arq {w:World}{g:Nat}{t:TypeId}{L:List Nat}(h:jC w g t L){i j k l:Nat}(hl:i<L.length/\j<L.length/\k<L.length/\l<L.length):w.cell? ⟨g,i,none⟩=some (.int .u32 (L.getD i 0:Nat))/\w.cell? ⟨g,j,none⟩=some (.int .u32 (L.getD j 0:Nat))/\w.cell? ⟨g,k,none⟩=some (.int .u32 (L.getD k 0:Nat))/\w.cell? ⟨g,l,none⟩=some (.int .u32 (L.getD l 0:Nat)):=
 ⟨h.cell i hl.1,h.cell j hl.2.1,h.cell k hl.2.2.1,h.cell l hl.2.2.2⟩
theorem ars (L:List Nat)(g i j k l:Nat)(hL:L.length=16)(hi:i<4)(hj:4<=j/\j<8)(hk:8<=k/\k<12)(hl:12<=l/\l<16)(hb:∀x∈L,x<4294967296)(w:World)(hr:jC w g 235 L):
 Calls Tryz.prog 145 #[.pointer (some ⟨g,0,none⟩),.int .i64 (i:Nat),.int .i64 (j:Nat),.int .i64 (k:Nat),.int .i64 (l:Nat)] w λ e w'=>e= .returned (.tuple #[])/\jC w' g 235 (xg L (i,j,k,l))/\Below g w w':=by
 have c1:=hr.cell i aa;have c2:=hr.cell j aa;have c3:=hr.cell k aa;have c4:=hr.cell l aa;have f1:=Bk.frozen hr i;have f2:=Bk.frozen hr j;have f3:=Bk.frozen hr k;have f4:=Bk.frozen hr l
 have ao:∀m,L.getD m 0<4294967296:=λ m=>by
  rw[a_]
  cases e:L[m]? with
  |none=>simp
  |some x=>exact hb x (du e)
 obtain⟨a,ha⟩:∃x,L.getD i 0=x:=⟨_,rfl⟩;obtain⟨b,aC⟩:∃x,L.getD j 0=x:=⟨_,rfl⟩;obtain⟨c,hc⟩:∃x,L.getD k 0=x:=⟨_,rfl⟩;obtain⟨d,hd⟩:∃x,L.getD l 0=x:=⟨_,rfl⟩;rw[ha]at c1;rw[aC]at c2;rw[hc]at c3;rw[hd]at c4
 have HQ:Hid (∀w',Calls Tryz.prog 218 #[.int .u32 a,.int .u32 b,.int .u32 c,.int .u32 d] w' λ e bO=>e= .returned (.tuple #[.int .u32 (xc a b c d:Nat),.int .u32 (Au a b c d:Nat),.int .u32 (xf a b c d:Nat),.int .u32 (xe a b c d:Nat)])/\Below w'.heap.size w' bO):=ae λ w'=>
  akv a b c d w' (by rw[<-ha];exact ao i) (by rw[<-aC];exact ao j) (by rw[<-hc];exact ao k) (by rw[<-hd];exact ao l)
 have HM:Hid (xg L (i,j,k,l)=(((L.set i (xc a b c d)).set j (Au a b c d)).set k (xf a b c d)).set l (xe a b c d)):=ae (by unfold xg;simp only[ha,aC,hc,hd]);have HR:=ae hr;have awe:(i:Int)<16:=aa;have aeE:(j:Int)<16:=aa;have Oj:(k:Int)<16:=aa;have awf:(l:Int)<16:=aa;obtain⟨a',Ao⟩:∃x,xc a b c d=x:=⟨_,rfl⟩;obtain⟨b',oV⟩:∃x,Au a b c d=x:=⟨_,rfl⟩;obtain⟨c',yu⟩:∃x,xf a b c d=x:=⟨_,rfl⟩;obtain⟨d',aeG⟩:∃x,xe a b c d=x:=⟨_,rfl⟩;rw[Ao,oV,yu,aeG]at HQ HM;have n1:¬i=j:=aa;have n2:¬i=k:=aa;have n3:¬i=l:=aa;have n4:¬j=k:=aa;have n5:¬j=l:=aa;have n6:¬k=l:=aa;have iJ:=ae (af hi (af hj (af hk (af hl (af (show i<L.length by omega) (af (show j<L.length by omega) (af (show k<L.length by omega) (show l<L.length by omega))))))));have HV:=ae (af ha (af aC (af hc hd)));clear ha aC hc hd Ao oV yu aeG ao hr hL hb;go_enter Tryz.func145,Tryz.ntmps145;go_upto_region 0 with fail;have hT:w.drew.cell? ⟨g,i,none⟩=some (.int .u32 (a:Nat))/\w.drew.cell? ⟨g,j,none⟩=some (.int .u32 (b:Nat))/\w.drew.cell? ⟨g,k,none⟩=some (.int .u32 (c:Nat))/\w.drew.cell? ⟨g,l,none⟩=some (.int .u32 (d:Nat)):=⟨c1,c2,c3,c4⟩;clear c1 c2 c3 c4 f1 f2 f3 f4;refine Qh (T:=λ w'=>w'.cell? ⟨g,i,none⟩=some (.int .u32 (a:Nat))/\w'.cell? ⟨g,j,none⟩=some (.int .u32 (b:Nat))/\w'.cell? ⟨g,k,none⟩=some (.int .u32 (c:Nat))/\w'.cell? ⟨g,l,none⟩=some (.int .u32 (d:Nat))) (k:=36) ah ?_;refine cZ (i:=0) (v:=?_) rfl ah ah ah (λ _ _ _ h=>h) aA (by rfl) ?_ (λ _=>hT) ?_;rotate_left
 ·intro w';go_simp;(try with_reducible rfl)
 try simp only[Act.put,bP,bL,bN]
 refine cZ (i:=1) (v:=?_) rfl ah ah ah (λ _ _ _ h=>h) aA (by rfl) ?_ (λ _=>hT) ?_;rotate_left
 ·intro w';go_simp;(try with_reducible rfl)
 try simp only[Act.put,bP,bL,bN]
 refine cZ (i:=2) (v:=?_) rfl ah ah ah (λ _ _ _ h=>h) aA (by rfl) ?_ (λ _=>hT) ?_;rotate_left
 ·intro w';go_simp;(try with_reducible rfl)
 try simp only[Act.put,bP,bL,bN]
 refine cZ (i:=3) (v:=?_) rfl ah ah ah (λ _ _ _ h=>h) aA (by rfl) ?_ (λ _=>hT) ?_;rotate_left
 ·intro w';go_simp;(try with_reducible rfl)
 try simp only[Act.put,bP,bL,bN]
 refine cZ (i:=4) (v:=?_) rfl ah ah ah (λ _ _ _ h=>h) aA (by rfl) ?_ (λ _=>hT) ?_;rotate_left
 ·intro w';go_simp;(try with_reducible rfl)
 try simp only[Act.put,bP,bL,bN]
 refine cZ (i:=5) (v:=?_) rfl ah ah ah (λ _ _ _ h=>h) aA (by rfl) ?_ (λ _=>hT) ?_;rotate_left
 ·intro w';go_simp;(try with_reducible rfl)
 try simp only[Act.put,bP,bL,bN]
 refine cZ (i:=6) (v:=?_) rfl ah ah ah (λ _ _ _ h=>h) aA (by rfl) ?_ (λ _=>hT) ?_;rotate_left
 ·intro w';go_simp;(try with_reducible rfl)
 try simp only[Act.put,bP,bL,bN]
 refine cZ (i:=7) (v:=?_) rfl ah ah ah (λ _ _ _ h=>h) aA (by rfl) ?_ (λ _=>hT) ?_;rotate_left
 ·intro w';go_simp;(try with_reducible rfl)
 try simp only[Act.put,bP,bL,bN]
 refine cZ (i:=8) (v:=?_) rfl ah ah ah (λ _ _ _ h=>h) aA (by rfl) ?_ (λ _=>hT) ?_;rotate_left
 ·intro w';go_simp;(try with_reducible rfl)
 try simp only[Act.put,bP,bL,bN]
 refine cZ (i:=9) (v:=?_) rfl ah ah ah (λ _ _ _ h=>h) aA (by rfl) ?_ (λ _=>hT) ?_;rotate_left
 ·intro w';go_simp;(try with_reducible rfl)
 try simp only[Act.put,bP,bL,bN]
 refine cZ (i:=10) (v:=?_) rfl ah ah ah (λ _ _ _ h=>h) aA (by rfl) ?_ (λ _=>hT) ?_;rotate_left
 ·intro w';go_simp;(try with_reducible rfl)
 try simp only[Act.put,bP,bL,bN]
 refine cZ (i:=11) (v:=?_) rfl ah ah ah (λ _ _ _ h=>h) aA (by rfl) ?_ (λ _=>hT) ?_;rotate_left
 ·intro w';go_simp;(try with_reducible rfl)
 try simp only[Act.put,bP,bL,bN]
 refine AA (i:=12) (v:=?_) rfl ah ah ah (λ _ _ _ h=>h) aA (by rfl) ?_ hT (by rfl) ah ?_;rotate_left
 ·intro w' qe;(try dsimp only at qe);go_simp;(try with_reducible rfl)
 try simp only[Act.put,bP,bL,bN]
 refine cZ (i:=13) (v:=?_) rfl ah ah ah (λ _ _ _ h=>h) aA (by rfl) ?_ (λ _=>hT) ?_;rotate_left
 ·intro w';go_simp;(try with_reducible rfl)
 try simp only[Act.put,bP,bL,bN]
 refine cZ (i:=14) (v:=?_) rfl ah ah ah (λ _ _ _ h=>h) aA (by rfl) ?_ (λ _=>hT) ?_;rotate_left
 ·intro w';go_simp;(try with_reducible rfl)
 try simp only[Act.put,bP,bL,bN]
 refine cZ (i:=15) (v:=?_) rfl ah ah ah (λ _ _ _ h=>h) aA (by rfl) ?_ (λ _=>hT) ?_;rotate_left
 ·intro w';go_simp;(try with_reducible rfl)
 try simp only[Act.put,bP,bL,bN]
 refine cZ (i:=16) (v:=?_) rfl ah ah ah (λ _ _ _ h=>h) aA (by rfl) ?_ (λ _=>hT) ?_;rotate_left
 ·intro w';go_simp;(try with_reducible rfl)
 try simp only[Act.put,bP,bL,bN]
 refine AA (i:=17) (v:=?_) rfl ah ah ah (λ _ _ _ h=>h) aA (by rfl) ?_ hT (by rfl) ah ?_;rotate_left
 ·intro w' qe;(try dsimp only at qe);go_simp;(try with_reducible rfl)
 try simp only[Act.put,bP,bL,bN]
 refine cZ (i:=18) (v:=?_) rfl ah ah ah (λ _ _ _ h=>h) aA (by rfl) ?_ (λ _=>hT) ?_;rotate_left
 ·intro w';go_simp;(try with_reducible rfl)
 try simp only[Act.put,bP,bL,bN]
 refine cZ (i:=19) (v:=?_) rfl ah ah ah (λ _ _ _ h=>h) aA (by rfl) ?_ (λ _=>hT) ?_;rotate_left
 ·intro w';go_simp;(try with_reducible rfl)
 try simp only[Act.put,bP,bL,bN]
 refine cZ (i:=20) (v:=?_) rfl ah ah ah (λ _ _ _ h=>h) aA (by rfl) ?_ (λ _=>hT) ?_;rotate_left
 ·intro w';go_simp;(try with_reducible rfl)
 try simp only[Act.put,bP,bL,bN]
 refine cZ (i:=21) (v:=?_) rfl ah ah ah (λ _ _ _ h=>h) aA (by rfl) ?_ (λ _=>hT) ?_;rotate_left
 ·intro w';go_simp;(try with_reducible rfl)
 try simp only[Act.put,bP,bL,bN]
 refine AA (i:=22) (v:=?_) rfl ah ah ah (λ _ _ _ h=>h) aA (by rfl) ?_ hT (by rfl) ah ?_;rotate_left
 ·intro w' qe;(try dsimp only at qe);go_simp;(try with_reducible rfl)
 try simp only[Act.put,bP,bL,bN]
 refine cZ (i:=23) (v:=?_) rfl ah ah ah (λ _ _ _ h=>h) aA (by rfl) ?_ (λ _=>hT) ?_;rotate_left
 ·intro w';go_simp;(try with_reducible rfl)
 try simp only[Act.put,bP,bL,bN]
 refine cZ (i:=24) (v:=?_) rfl ah ah ah (λ _ _ _ h=>h) aA (by rfl) ?_ (λ _=>hT) ?_;rotate_left
 ·intro w';go_simp;(try with_reducible rfl)
 try simp only[Act.put,bP,bL,bN]
 refine cZ (i:=25) (v:=?_) rfl ah ah ah (λ _ _ _ h=>h) aA (by rfl) ?_ (λ _=>hT) ?_;rotate_left
 ·intro w';go_simp;(try with_reducible rfl)
 try simp only[Act.put,bP,bL,bN]
 refine cZ (i:=26) (v:=?_) rfl ah ah ah (λ _ _ _ h=>h) aA (by rfl) ?_ (λ _=>hT) ?_;rotate_left
 ·intro w';go_simp;(try with_reducible rfl)
 try simp only[Act.put,bP,bL,bN]
 refine AA (i:=27) (v:=?_) rfl ah ah ah (λ _ _ _ h=>h) aA (by rfl) ?_ hT (by rfl) ah ?_;rotate_left
 ·intro w' qe;(try dsimp only at qe);go_simp;(try with_reducible rfl)
 try simp only[Act.put,bP,bL,bN]
 refine cZ (i:=34) (v:=?_) rfl ah ah ah (λ _ _ _ h=>h) aA (by rfl) ?_ (λ _=>hT) ?_;rotate_left
 ·intro w';go_simp;(try with_reducible rfl)
 try simp only[Act.put,bP,bL,bN]
 refine cZ (i:=37) (v:=?_) rfl ah ah ah (λ _ _ _ h=>h) aA (by rfl) ?_ (λ _=>hT) ?_;rotate_left
 ·intro w';go_simp;(try with_reducible rfl)
 try simp only[Act.put,bP,bL,bN]
 refine cZ (i:=40) (v:=?_) rfl ah ah ah (λ _ _ _ h=>h) aA (by rfl) ?_ (λ _=>hT) ?_;rotate_left
 ·intro w';go_simp;(try with_reducible rfl)
 try simp only[Act.put,bP,bL,bN]
 refine cZ (i:=43) (v:=?_) rfl ah ah ah (λ _ _ _ h=>h) aA (by rfl) ?_ (λ _=>hT) ?_;rotate_left
 ·intro w';go_simp;(try with_reducible rfl)
 try simp only[Act.put,bP,bL,bN]
 refine uO (i:=28) rfl ah (by rfl) (λ K hK=>?_);go_simp;(refine(HQ.out _).mono ?_);rintro e w2 ⟨rfl,aC⟩;have iN:=ae (jC.below (show jC w.drew g 235 L from HR.out) aC);have bG:=ae aC;have xH:w2.cell? ⟨g,i,none⟩=some (.int .u32 (a:Nat))/\w2.cell? ⟨g,j,none⟩=some (.int .u32 (b:Nat))/\w2.cell? ⟨g,k,none⟩=some (.int .u32 (c:Nat))/\w2.cell? ⟨g,l,none⟩=some (.int .u32 (d:Nat)):=by have h:=jC.arq iN.out iJ.out.2.2.2.2;rw[HV.out.1,HV.out.2.1,HV.out.2.2.1,HV.out.2.2.2]at h;exact h
 refine hK.out _ _ (λ _=>xH) ?_;clear hT;have hT:=xH;clear xH aC;clear hK K;try simp only[Act.put,bP,bL,bN]
 refine cZ (i:=29) (v:=?_) rfl ah ah ah (λ _ _ _ h=>h) aA (by rfl) ?_ (λ _=>hT) ?_;rotate_left
 ·intro w';go_simp;(try with_reducible rfl)
 try simp only[Act.put,bP,bL,bN]
 refine cZ (i:=30) (v:=?_) rfl ah ah ah (λ _ _ _ h=>h) aA (by rfl) ?_ (λ _=>hT) ?_;rotate_left
 ·intro w';go_simp;(try with_reducible rfl)
 try simp only[Act.put,bP,bL,bN]
 refine cZ (i:=31) (v:=?_) rfl ah ah ah (λ _ _ _ h=>h) aA (by rfl) ?_ (λ _=>hT) ?_;rotate_left
 ·intro w';go_simp;(try with_reducible rfl)
 try simp only[Act.put,bP,bL,bN]
 refine cZ (i:=32) (v:=?_) rfl ah ah ah (λ _ _ _ h=>h) aA (by rfl) ?_ (λ _=>hT) ?_;rotate_left
 ·intro w';go_simp;(try with_reducible rfl)
 try simp only[Act.put,bP,bL,bN]
 refine cZ (i:=33) (v:=?_) rfl ah ah ah (λ _ _ _ h=>h) aA (by rfl) ?_ (λ _=>hT) ?_;rotate_left
 ·intro w';go_simp;(try with_reducible rfl)
 try simp only[Act.put,bP,bL,bN]
 refine cZ (i:=35) (v:=?_) rfl ah ah ah (λ _ _ _ h=>h) aA (by rfl) ?_ (λ _=>hT) ?_;rotate_left
 ·intro w';go_simp;(try with_reducible rfl)
 try simp only[Act.put,bP,bL,bN]
 refine uO (i:=36) rfl ah (by rfl) (λ K hK=>?_);have p0:=iN.out.cell i (by first|exact iJ.out.2.2.2.2.1|(simp only[iP];exact iJ.out.2.2.2.2.1));have q0:=Bk.frozen iN.out i;go_simp;have mA:=ae (jC.aP iN.out i a');refine hK.out _ _ (λ h=>by cases h) ?_;clear p0 q0;clear hK K;try simp only[Act.put,bP,bL,bN]
 refine cZ (i:=38) (v:=?_) rfl ah ah ah (λ _ _ _ h=>h) aA (by rfl) ?_ (λ h=>by cases h) ?_;rotate_left
 ·intro w';go_simp;(try with_reducible rfl)
 try simp only[Act.put,bP,bL,bN]
 refine uO (i:=39) rfl ah (by rfl) (λ K hK=>?_);have p0:=mA.out.cell j (by first|exact iJ.out.2.2.2.2.2.1|(simp only[iP];exact iJ.out.2.2.2.2.2.1));have q0:=Bk.frozen mA.out j;go_simp;have tS:=ae (jC.aP mA.out j b');refine hK.out _ _ (λ h=>by cases h) ?_;clear p0 q0;clear hK K;try simp only[Act.put,bP,bL,bN]
 refine cZ (i:=41) (v:=?_) rfl ah ah ah (λ _ _ _ h=>h) aA (by rfl) ?_ (λ h=>by cases h) ?_;rotate_left
 ·intro w';go_simp;(try with_reducible rfl)
 try simp only[Act.put,bP,bL,bN]
 refine uO (i:=42) rfl ah (by rfl) (λ K hK=>?_);have p0:=tS.out.cell k (by first|exact iJ.out.2.2.2.2.2.2.1|(simp only[iP];exact iJ.out.2.2.2.2.2.2.1));have q0:=Bk.frozen tS.out k;go_simp;have Cg:=ae (jC.aP tS.out k c');refine hK.out _ _ (λ h=>by cases h) ?_;clear p0 q0;clear hK K;try simp only[Act.put,bP,bL,bN]
 refine cZ (i:=44) (v:=?_) rfl ah ah ah (λ _ _ _ h=>h) aA (by rfl) ?_ (λ h=>by cases h) ?_;rotate_left
 ·intro w';go_simp;(try with_reducible rfl)
 try simp only[Act.put,bP,bL,bN]
 refine uO (i:=45) rfl ah (by rfl) (λ K hK=>?_);have p0:=Cg.out.cell l (by first|exact iJ.out.2.2.2.2.2.2.2|(simp only[iP];exact iJ.out.2.2.2.2.2.2.2));have q0:=Bk.frozen Cg.out l;go_simp;have OE:=ae (jC.aP Cg.out l d');refine hK.out _ _ (λ h=>by cases h) ?_;clear p0 q0;clear hK K;try simp only[Act.put,bP,bL,bN]
 refine Qg ah ?_ _;refine eY (eQ rfl _ _ _) rfl ⟨rfl,by rw[HM.out];exact OE.out,?_⟩;have ao:g<=w.heap.size:=Nat.le_of_lt (Bk.lt HR.out);exact(((((GB bG.out).mono ao).setCell (p:=⟨g,i,none⟩) (ai _) _).setCell (p:=⟨g,j,none⟩) (ai _) _).setCell (p:=⟨g,k,none⟩) (ai _) _).setCell (p:=⟨g,l,none⟩) (ai _) _
