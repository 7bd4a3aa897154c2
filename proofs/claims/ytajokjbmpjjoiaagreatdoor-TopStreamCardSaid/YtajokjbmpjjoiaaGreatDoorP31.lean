import Derived.Test.YtajokjbmpjjoiaaGreatDoorP26
import Derived.Test.YtajokjbmpjjoiaaGreatDoorP28
import Derived.Test.YtajokjbmpjjoiaaGreatDoorP30
set_option maxRecDepth 20000
set_option maxHeartbeats 0
set_option linter.unusedSimpArgs false
namespace Go.Proofs.YtajokjbmpjjoiaaGreatDoor
section
open Go.RowKit
def ny (l:List Fl):List UInt8:=l.flatMap λ x=>oF x.1.toList++oF x.2.toList
def uM (l:List Fl):List UInt8:=fQ (iE (l.length:Int))++ny (ck l)
def dp (l:List Fl):ByteArray:=if iW l=0 then av (uM l)else⟨#[]⟩
theorem apz (l:List Fl)(x:Fl):ny (l++[x])=ny l++(oF x.1.toList++oF x.2.toList):=by simp[ny]
theorem NX (s:ByteArray):(oF s.toList).length<=s.size+9:=by
 unfold oF;rw[ag,aD];have:=GR (iE (s.size:Int));omega
theorem ac0 (s t:ByteArray)(h:av (oF s.toList)=t)(w:World)(hs:s.size<=4611686018427387904):
 Calls Tryz.prog 106 #[.string s] w λ e w'=>e= .returned (.string t)/\Below w.heap.size w w':=by subst h;exact apw s w hs
theorem ac1 (l:List Fl)(A:Option Addr)(n c:Nat)(k:Int)(s:ByteArray)(hk:iW l=k)(hs:dp l=s)(hn:l.length=n)(hc:n<=c)(nS:n<=1000)(aG:∀x∈l,x.1.size<=100000000/\x.2.size<=100000000)(w:World)(hr:Rd w A (fl l)):
 Calls Tryz.prog 57 #[.slice A n c] w λ e w'=>e= .returned (.tuple #[.string s,.int .i64 k])/\Below w.heap.size w w':=by
 have Hn:=ae hn;have HZ:=ae aG;have HF:=ae (Xw l A n c k hk hn hc nS aG);by_cases h0:k=0
 ·have HS:=ae (show av (uM l)=s by rw[<-hs];unfold dp;rw[if_pos (by rw[hk];exact h0)]);subst h0;clear hs hk aG;obtain⟨N0,S0⟩:∃N0,fQ (iE (n:Int))=N0:=⟨_,rfl⟩;obtain⟨s0,Dn⟩:∃s0,av N0=s0:=⟨_,rfl⟩;have S1:s0.toList=N0:=by rw[<-Dn,cn]
  have Bz:N0.length<=9:=by rw[<-S0];exact GR _
  have avH:s0.size<=9:=by rw[<-aD,S1];exact Bz
  have JT:=ae S0;have xQ:=ae Dn;have apA:=ae S1;have Ge:=ae Bz;have fT:=λ w=>Go.Lib.run_convert_string_bytes (P:=Tryz.prog) w 9 54 5 s0 Tryz.underlying9 Tryz.underlying54 Tryz.underlying5;clear S0 Dn S1 Bz hn;go_enter Tryz.func57,Tryz.ntmps57;go_wp2_with fail;(with_reducible refine(HF.out _ hr).mono ?_);rintro e w1 ⟨rfl,au⟩;have gN:=hr.below au;clear hr;go_wp2_with fail;refine(acX (n:Int) _).mono ?_;rw[JT.out,xQ.out];rintro e w2 ⟨rfl,aC⟩;have cH:=gN.below aC;have Ft:=bl au aC;clear gN au aC;have hO:=OwnB.conv w2 5 s0 (by unfold maxLen;omega)
  have DK:=Go.Lib.bytesWorld_below w2 5 s0;have avI:=fT w2;have dL:=cH.below DK;have aO:=bl Ft DK;have gX:=Ft.size;rw[apA.out]at hO;have F9:(Value.slice (some ⟨w2.heap.size,0,none⟩) s0.size (grownCap w2 s0.size 0 5)).ownBlock=some w2.heap.size:=rfl;have apB:(Go.Lib.bytesWorld w2 5 s0).heap.size=w2.heap.size+1:=Go.Lib.bytesWorld_size w2 _ _;clear cH Ft DK fT;generalize Value.slice (some ⟨w2.heap.size,0,none⟩) s0.size (grownCap w2 s0.size 0 5)=v5 at*;generalize Go.Lib.bytesWorld w2 5 s0=w3 at*
  have ac2:OwnB w3 w.heap.size 5 v5 (N0++ny ((ck l).take 0)):=by
   obtain⟨g,cap,cur,fz,e1,e2,e3⟩:=hO;have e4:N0++ny ((ck l).take 0)=N0:=by simp[ny]
   rw[e4];exact⟨g,cap,cur,fz,e1,b_ gX e2,e3⟩
  clear hO gX;go_wp2_with fail;(with_reducible refine(apc l A n c Hn.out nS _ dL).mono ?_);rintro e w4 ⟨v,rfl,B,cB,rfl,q1,q2,Gf,FF,cu⟩
  have yX:Gc v5 B (fl (ck l)):=λ aS ad hA=>by
   obtain⟨g,e1,e2,_⟩:=FF (by intro e;rw[e]at aS;exact aS rfl);rw[hA]at e1
   cases e1
   rw[F9];simp;omega
  clear FF F9 apB;have ac3:=ac2.aL cu;have bE:=bl aO cu;rw[(qL l).2.2,Hn.out]at q1⊢;have kD:=ae (show(ck l).length=n by rw[(qL l).2.2];exact Hn.out);clear ac2 aO cu dL;go_wp2_with fail;go_loopw [5,21] (λ v5 vj wr=>∃(j:Nat) (v:Value) (L:List UInt8),vj= .int .i64 j/\v5=v/\j<=n/\OwnB wr w.heap.size 5 v L/\Hid (L=N0++ny ((ck l).take j))/\L.length<=9+j*300000000/\Rd wr B (fl (ck l))/\Gc v B (fl (ck l))/\Below w.heap.size w wr) (λ _ vj _=>n-(intOf vj).toNat)
  case atStart=>exact⟨0,_,_,rfl,rfl,aa,ac3,ae rfl,by have:=Ge.out;simp[ny];omega,Gf,yX,bE⟩
  case round=>
   clear ac3 Gf bE yX;obtain⟨j,v,L,rfl,rfl,hj,hO,hL,K_,Gf,yX,hb⟩:=hrel;by_cases ao:(j:Int)<(n:Int)
   ·have nT:j<(ck l).length:=by rw[kD.out];omega
    obtain⟨x,hx⟩:∃x,(ck l)[j]? =some x:=⟨_,getD_some nT⟩;obtain⟨b,o,rfl,q0,Ca⟩:=Gf.file hx;have eB:=HZ.out x (Xv.1 (du hx));obtain⟨xp,xd⟩:=x;rw[show(o+(j*2+1):Nat)=o+j*2+1 by omega]at Ca;have xr:xp.size<=100000000:=eB.1;have Ql:xd.size<=100000000:=eB.2;have HX:=ae hx;obtain⟨t1,qW⟩:∃t,av (oF xp.toList)=t:=⟨_,rfl⟩;obtain⟨t2,jI⟩:∃t,av (oF xd.toList)=t:=⟨_,rfl⟩;have S2:t1.toList=oF xp.toList:=by rw[<-qW,cn]
    have S3:t2.toList=oF xd.toList:=by rw[<-jI,cn]
    have dN:t1.size<=100000009:=by rw[<-aD,S2];have:=NX xp;omega
    have gX:t2.size<=100000009:=by rw[<-aD,S3];have:=NX xd;omega
    have xI:=ae qW;have jX:=ae jI;have MQ:=ae (af S2 S3);have gz:=hb.alloc hb.size (.cells #[.string xp,.string xd] 53);have hB:=Bk.new wr 53 #[.string xp,.string xd];have uY:=hO.ne;have wS:=(aB wr.heap.size wr).alloc (ai _) (.cells #[.string xp,.string xd] 53);have cH:=Gf.below wS;have Gg:=hO.aL wS;clear hx nT eB Gf hO hb wS qW jI S2 S3;go_wp2_with fail;(with_reducible refine(ac0 xp t1 xI.out _ aa).mono ?_);rintro e w5 ⟨rfl,bE⟩;have zl:=Gg.aL bE;have jo:=cH.below bE;have dw:=hB.aL bE;have S5:=bl gz bE;have NK:=S5.size;clear Gg cH hB gz bE q0 Ca;go_upto_region 9 with(at_builtin;go_must (refine abW rfl (.tmp 25) (.tmp 28) 54 9 rfl w.heap.size 5 Df Tryz.underlying9 ah _ _ rfl zl _ rfl aa NK ?_);intro v6 w6 ac4 b9 rl ac5);have nU:=jo.NP rl yX;have ac6:=yX.next jo ac5
    have fL:=dw.NP rl uY;have ac7:=S5.trans b9;have p1:=fL.cell 1;simp only[gW,eF,lZ]at p1;clear zl jo dw S5 b9 rl ac5 yX uY NK;go_wp2_with fail;(with_reducible refine(ac0 xd t2 jX.out _ aa).mono ?_);rintro e w7 ⟨rfl,uf⟩;have apC:=ac4.aL uf;have NY:=nU.below uf;have ac8:=bl ac7 uf;have apD:=ac8.size;have apE:(L++t1.toList).length+t2.size<=1000000000000:=by rw[ag,aD];omega
    clear ac4 nU fL ac7 uf p1;go_wp2_with (at_builtin;go_must (refine abW rfl (.tmp 30) (.tmp 33) 54 9 rfl w.heap.size 5 Df Tryz.underlying9 ah _ _ rfl apC _ rfl apE apD ?_);intro v8 w8 apF iO F5 ac9);have sQ:=NY.NP F5 ac6;have apG:=ac6.next NY ac9
    have xS:=ac8.trans iO
    have apH:=ae (show L++t1.toList++t2.toList=N0++ny ((ck l).take (j+1))by
     rw[hL.out,MQ.out.1,MQ.out.2,eu,HX.out,Option.toList_some,apz];simp only[aN])
    have apI:(L++t1.toList++t2.toList).length<=9+(j+1)*300000000:=by
     simp only[ag,aD];omega
    go_round
    case rel=>exact⟨j+1,v8,_,by first|rfl|go_num,rfl,aa,apF,apH,apI,sQ,apG,xS⟩
    case measure=>simp[intOf];omega
   ·have nP:L=uM l:=by
     rw[hL.out,bQ (by rw[kD.out];omega)];unfold uM;rw[<-JT.out,Hn.out]
    have hcs:=ao5 (P:=Tryz.prog) hO 54 9 5 Tryz.underlying54 Tryz.underlying5 Tryz.underlying9;rw[nP,HS.out]at hcs;clear nP hO hL;go_wp2_with fail;go_ret2;exact⟨rfl,hb⟩
 ·have HS:=ae (show s=⟨#[]⟩by rw[<-hs];unfold dp;rw[if_neg (by rw[hk];exact h0)]);have eR:(k==0)=false:=by simp[h0]
  clear hs hk aG;go_enter Tryz.func57,Tryz.ntmps57;go_wp2_with fail;(with_reducible refine(HF.out _ hr).mono ?_);rintro e w1 ⟨rfl,au⟩;go_wp2_with fail;go_ret2;exact⟨by rw[HS.out];rfl,au⟩
end
section
open Go.RowKit Go.Sort
theorem wh.slice {w:World}{l:List Fl}{n:Nat}{v:Value}(hn:l.length=n)(h:wh w l n v):∃B c,v= .slice B n c/\n<=c/\c<=maxLen/\Rd w B (fl (ck l)):=by
 rcases h with⟨h0,hv⟩|⟨g,c,_,hv,h1,h2,hF⟩
 ·have:l=[]:=dP aa;subst this;subst h0;exact⟨none,0,hv,ai _,by unfold maxLen;omega,Rd.nil _ _⟩
 ·rw[bQ aa]at hF;exact⟨_,c,hv,h1,h2,hF.rd⟩
end
section
open Go.RowKit
theorem b0:(⟨#[]⟩:ByteArray).toList=[]:=cn []
end
section
open Go.RowKit Go.Sort
theorem ada (a b:ByteArray):(a.toList==b.toList)=decide (a=b):=by
 by_cases h:a=b
 ·subst h;simp
 ·rw[ct h,jE];exact λ e=>h (ma e)
theorem apJ {l m:List Fl}{i:Nat}{x y:Fl}(h:l.take i=m.take i)(hx:l[i]? =some x)(hy:m[i]? =some y)(he:x=y):l.take (i+1)=m.take (i+1):=by
 rw[eu,eu,h,hx,hy,he]
theorem apK (l m:List Fl)(A B:Option Addr)(n k c d:Nat)(w:World)(hn:l.length=n)(hk:m.length=k)(nS:n<=1000)(hr:Rd w A (fl l))(hs:Rd w B (fl m)):
 Calls Tryz.prog 18 #[.slice A n c,.slice B k d] w λ e w'=>e= .returned (.bool (decide (l=m)))/\Below w.heap.size w w':=by
 have Hn:=ae hn;have Hk:=ae hk;have mixed:Tryz.prog.follows Departure.mixedOrders=true:=ah;obtain⟨t,ht⟩:∃t,decide (l=m)=t:=⟨_,rfl⟩;rw[ht];have HT:=ae ht;clear hn hk ht;by_cases EO:(n:Int)=(k:Int)
 ·have adb:((n:Int) !=(k:Int))=false:=by simp[EO]
  obtain rfl:n=k:=aa;clear adb EO;go_enter Tryz.func18,Tryz.ntmps18;go_wp2_with fail;go_loopw [5] (λ vi wr=>∃i:Nat,vi= .int .i64 i/\i<=n/\Hid (l.take i=m.take i)/\Rd wr A (fl l)/\Rd wr B (fl m)/\Below w.heap.size w wr) (λ vi _=>n-(intOf vi).toNat)
  case atStart=>exact⟨0,rfl,aa,ae aj,hr,hs,aB _ _⟩
  case round=>
   clear hr hs;obtain⟨i,rfl,hi,hE,hr,hs,hb⟩:=hrel;by_cases ao:(i:Int)<(n:Int)
   ·obtain⟨x,hx⟩:∃x,l[i]? =some x:=⟨_,getD_some (by rw[Hn.out];omega)⟩;obtain⟨y,hy⟩:∃y,m[i]? =some y:=⟨_,getD_some (by rw[Hk.out];omega)⟩;obtain⟨b,o,rfl,q0,q1⟩:=hr.file hx;obtain⟨b',o',rfl,y0,y1⟩:=hs.file hy;rw[show(o+(i*2+1):Nat)=o+i*2+1 by omega]at q1;rw[show(o'+(i*2+1):Nat)=o'+i*2+1 by omega]at y1;have ai8:∀n,(wr.drewN n).cell? ⟨b,o+i*2,none⟩=some (.string x.1):=λ _=>q0;have avJ:∀n,(wr.drewN n).cell? ⟨b,o+i*2+1,none⟩=some (.string x.2):=λ _=>q1;have ai9:∀n,(wr.drewN n).cell? ⟨b',o'+i*2,none⟩=some (.string y.1):=λ _=>y0;have avK:∀n,(wr.drewN n).cell? ⟨b',o'+i*2+1,none⟩=some (.string y.2):=λ _=>y1;have HX:=ae hx;have HY:=ae hy
    have F_:Hid (x≠y->t=false):=ae λ aS=>by
     rw[<-HT.out];refine ct λ e=>aS ?_;rw[e,hy]at hx
     cases hx
     rfl
    clear hx hy q0 q1 y0 y1;obtain⟨xp,xd⟩:=x;obtain⟨yp,yd⟩:=y;by_cases h1:xp=yp
    ·have e1:(xp.toList==yp.toList)=true:=by rw[h1];simp
     have H1:=ae h1;clear h1;by_cases h2:xd=yd
     ·have e2:(xd.toList==yd.toList)=true:=by rw[h2];simp
      have vd:=ae (apJ hE.out HX.out HY.out (by rw[H1.out,h2]));clear h2;go_wp2_with fail;go_quiet (fail);go_wp2_with fail;go_round
      case rel=>exact⟨i+1,by first|rfl|go_num,aa,vd,hr,hs,lM hb _⟩
      case measure=>simp[intOf];omega
     ·have e2:(xd.toList==yd.toList)=false:=by rw[ada];exact ct h2
      have H:=ae (F_.out (λ e=>h2 (by cases e;rfl)));clear h2;go_wp2_with fail;go_quiet (fail);go_wp2_with fail;go_ret;exact⟨by rw[H.out];rfl,lM hb _⟩
    ·have e1:(xp.toList==yp.toList)=false:=by rw[ada];exact ct h1
     have H:=ae (F_.out (λ e=>h1 (by cases e;rfl)));clear h1;go_wp2_with fail;go_quiet (fail);go_wp2_with fail;go_ret;exact⟨by rw[H.out];rfl,lM hb _⟩
   ·obtain rfl:i=n:=aa
    have H:=ae (show t=true by
     rw[<-HT.out];refine fF ?_;have h:=hE.out;rw[bQ (by rw[Hn.out];exact ai _),bQ (by rw[Hk.out];exact ai _)]at h;exact h)
    go_wp2_with fail;go_ret;exact⟨by rw[H.out];rfl,hb⟩
 ·have adb:((n:Int)==(k:Int))=false:=by simp;omega
  have H:=ae (show t=false by
   rw[<-HT.out];exact ct λ e=>EO (by rw[<-Hn.out,<-Hk.out,e]))
  go_enter Tryz.func18,Tryz.ntmps18;go_wp2_with fail;go_ret;exact⟨by rw[H.out];rfl,aB _ _⟩
end
section
open Go.RowKit
theorem apL (x y:Fl):two x y=two y x:=by unfold two;exact Bool.or_comm _ _
theorem apM (l:List Fl):jV l=false↔l.Pairwise λ x y=>two x y=false:=by
 induction l with
 |nil=>simp[jV]
 |cons x l ih=>
  rw[jV,Bool.or_eq_false_iff,lX,ih,List.any_eq_false];exact⟨λ h=>⟨λ y hy=>by simpa using h.1 y hy,h.2⟩,λ h=>⟨λ y hy=>by simpa using h.1 y hy,h.2⟩⟩
theorem apN (l:List Fl):ik l=0↔∀x∈l,fI x.1=0/\¬1048576<x.2.size:=by
 induction l with
 |nil=>simp[ik]
 |cons x l ih=>
  rw[ik];by_cases h1:fI x.1=0
  ·rw[if_pos h1];by_cases h2:1048576<x.2.size
   ·rw[if_pos h2];exact⟨λ h=>absurd h aA,λ h=>absurd h2 (h x aj).2⟩
   ·rw[if_neg h2,ih]
    exact⟨λ h y hy=>by
     rcases eW.1 hy with rfl|hy
     ·exact⟨h1,h2⟩
     ·exact h y hy,λ h y hy=>h y (by simp[hy])⟩
  ·rw[if_neg h1];exact⟨λ h=>absurd h aA,λ h=>absurd (h x aj).1 h1⟩
theorem JU (l:List Fl):iW l=0↔l.length<=64/\(∀x∈l,fI x.1=0/\¬1048576<x.2.size)/\l.Pairwise λ x y=>two x y=false:=by
 unfold iW;rw[<-apN,<-apM];by_cases h1:64<l.length
 ·rw[if_pos h1];exact⟨λ h=>absurd h aA,λ h=>by omega⟩
 ·rw[if_neg h1];by_cases h2:ik l=0
  ·rw[if_pos h2]
   cases h3:jV l with
   |true=>simp
   |false=>simp[h2];omega
  ·rw[if_neg h2];exact⟨λ h=>absurd h h2,λ h=>absurd h.2.1 h2⟩
theorem ade {l m:List Fl}(h:l.Perm m):iW l=0↔iW m=0:=by
 rw[JU,JU,h.length_eq,h.pairwise_iff (λ G8=>by rw[apL];exact G8)];exact⟨λ ⟨a,b,c⟩=>⟨a,λ x hx=>b x (h.mem_iff.2 hx),c⟩,λ ⟨a,b,c⟩=>⟨a,λ x hx=>b x (h.mem_iff.1 hx),c⟩⟩
theorem apO {x y:Fl}(h:two x y=false):x.1≠y.1:=by
 unfold two bad at h;simp only[Bool.or_eq_false_iff,decide_eq_false_iff_not]at h;exact h.2.1
theorem apP (l m:List Fl)(A B:Option Addr)(n k c d:Nat)(t:Bool)(h:decide (l=m)=t)(w:World)(hn:l.length=n)(hk:m.length=k)(nS:n<=1000)(hr:Rd w A (fl l))(hs:Rd w B (fl m)):
 Calls Tryz.prog 18 #[.slice A n c,.slice B k d] w λ e w'=>e= .returned (.bool t)/\Below w.heap.size w w':=by subst h;exact apK l m A B n k c d w hn hk nS hr hs
def sS:Nat->List UInt8->List Fl->Int×List Fl×List UInt8
 |0,s,acc=>(0,acc,s)
 |n+1,s,acc=>
  if(dG s 4096).2.2≠0 then((dG s 4096).2.2,[],[])else
  if(dG (dG s 4096).2.1 1048576).2.2≠0 then((dG (dG s 4096).2.1 1048576).2.2,[],[])else
  if fI (av (dG s 4096).1)≠0 then(5,[],[])else
  if∃y,acc.getLast? =some y/\¬aM y (av (dG s 4096).1,av (dG (dG s 4096).2.1 1048576).1)then(2,[],[])else
  sS n (dG (dG s 4096).2.1 1048576).2.1 (acc++[(av (dG s 4096).1,av (dG (dG s 4096).2.1 1048576).1)])
def fin (x:Int×List Fl×List UInt8):Int×List Fl:=if x.1≠0 then(x.1,[])else if x.2.2≠[]then(2,[])else if iW x.2.1≠0 then(iW x.2.1,[])else(0,x.2.1)
def Gh (s:List UInt8):Int×List Fl:=match takeN s with
 |none=>(2,[])
 |some (n,r)=>if 64<n then(3,[])else fin (sS n r [])
def adf (l:List Fl):Prop:=l.Pairwise λ x y=>aM x y
theorem adg:∀(l:List Fl) (acc:List Fl) (r:List UInt8),adf (acc++l)->(∀x∈l,fI x.1=0/\¬1048576<x.2.size)->sS l.length (ny l++r) acc=(0,acc++l,r)
 |[],acc,r,_,_=>by simp[sS,ny]
 |x::l,acc,r,h,hx=>by
  obtain⟨k1,k2⟩:=hx x aj
  have hp:x.1.toList.length<=4096:=by
   unfold fI at k1;split at k1
   ·rename_i h1;unfold qD at h1;exact(fZ h1).2.1
   ·cases k1
  have hd:x.2.toList.length<=1048576:=by rw[aD];omega
  have e1:ny (x::l)++r=oF x.1.toList++(oF x.2.toList++(ny l++r)):=by unfold ny;rw[wJ];simp only[aN]
  rw[aU,sS,e1,acZ _ _ 4096 aa aa];simp only;rw[acZ _ _ 1048576 aa aa];simp only[kf];rw[if_neg aj,if_neg aj,if_neg (by rw[k1];simp)]
  have h4:¬∃y,acc.getLast? =some y/\¬aM y (x.1,x.2):=by
   rintro⟨y,hy,ao⟩;have mY:y∈acc:=List.mem_of_getLast? hy;exact ao ((List.pairwise_append.1 h).2.2 y mY x aj)
  rw[if_neg h4,adg l _ r (by simpa using h) (λ z hz=>hx z (by simp[hz]))];simp
theorem apQ (x:Fl)(l:List Fl):(yM x l).Perm (x::l):=by
 obtain⟨A,B,rfl,e2,_⟩:=L5 x l;rw[e2];exact List.perm_middle
theorem S6 (l:List Fl):(ck l).Perm l:=by
 induction l using Xt with
 |h0=>exact List.Perm.refl _
 |h1 l x ih=>
  rw[Xs];exact(apQ _ _).trans ((List.Perm.cons x ih).trans (List.perm_append_singleton x l).symm)
theorem apR {l:List Fl}(h:iW l=0):adf (ck l):=by
 have h1:=(JU _).1 ((ade (S6 l)).2 h);refine List.Pairwise.imp₂ ?_ (qL l).1 h1.2.2;intro x y h2 h3;exact Classical.byContradiction λ h4=>apO h3 (Lu h4 h2)
theorem apS {l:List Fl}(h:iW l=0):Gh (uM l)=(0,ck l):=by
 have hs:=(ade (S6 l)).2 h;have h1:=(JU _).1 hs;have hl:=(JU _).1 h;unfold Gh uM;have e:iE (l.length:Int)=l.length:=by unfold iE;omega
 rw[VY _ _ (VX _),e];simp only;have e2:=adg (ck l) [] [] (by simpa using apR h) h1.2.1;rw[bV,(qL l).2.2,List.nil_append]at e2;rw[if_neg aa,e2];unfold fin;rw[if_neg aj,if_neg aj,if_neg (by simp only;rw[hs];simp)]
end
section
open Go.RowKit Go.Sort
def qc (X:Int×List Fl)(e:Int)(n:Nat)(s:ByteArray)(l:List Fl):Prop:=(e≠0->X=(e,[]))/\(e=0->X=fin (sS n s.toList l))
def rD (l:List Fl)(L:Nat):Prop:=l.length=L/\∀x∈l,x.1.size<=100000000/\x.2.size<=100000000
theorem rD.snoc {l:List Fl}{L:Nat}(h:rD l L){a d:ByteArray}(ha:a.size<=100000000)(hd:d.size<=100000000):rD (l++[(a,d)]) (L+1):=by
 refine⟨by rw[ag,h.1];rfl,λ x hx=>?_⟩;rcases fE.1 hx with hx|hx
 ·exact h.2 x hx
 ·simp at hx;subst hx;exact⟨ha,hd⟩
theorem rD.len {l:List Fl}{L:Nat}(h:rD l L):l.length=L:=h.1
theorem rD.sz {l:List Fl}{L:Nat}(h:rD l L):∀x∈l,x.1.size<=100000000/\x.2.size<=100000000:=h.2
theorem adh (s a b:ByteArray)(most k:Int)(h:dG s.toList most=(a.toList,b.toList,k))(w:World)(hs:s.size<=9223372036854775807):
 Calls Tryz.prog 52 #[.string s,.int .i64 most] w λ e w'=>e= .returned (.tuple #[.string a,.string b,.int .i64 k])/\Below w.heap.size w w':=
 (apx s most w hs).mono λ e w' ⟨he,hb⟩=>⟨by unfold zr at he;rw[he,h];simp only[kf],hb⟩
theorem adi (s:ByteArray)(most:Int):∃(a b:ByteArray) (k:Int),dG s.toList most=(a.toList,b.toList,k)/\a.size<=s.size/\b.size<=s.size:=
 ⟨av (dG s.toList most).1,av (dG s.toList most).2.1,(dG s.toList most).2.2,by rw[cn,cn],by rw[cV];have:=(acY s.toList most).1;rw[aD]at this;exact this,by rw[cV];have:=(acY s.toList most).2;rw[aD]at this;exact this⟩
section
variable {X:Int×List Fl} {m:Nat} {s a b d s2:ByteArray} {l:List Fl} {k k2:Int}
theorem apT (h:qc X 0 (m+1) s l)(h1:dG s.toList 4096=(a.toList,b.toList,k))(hk:k≠0):X=(k,[]):=by
 rw[h.2 rfl,sS,h1];simp only;rw[if_pos hk];unfold fin;rw[if_pos (by simpa using hk)]
theorem apU (h:qc X 0 (m+1) s l)(h1:dG s.toList 4096=(a.toList,b.toList,0))(h2:dG b.toList 1048576=(d.toList,s2.toList,k2))(hk:k2≠0):X=(k2,[]):=by
 rw[h.2 rfl,sS,h1];simp only;rw[if_neg aj,h2];simp only;rw[if_pos hk];unfold fin;rw[if_pos (by simpa using hk)]
theorem S7 (h:qc X 0 (m+1) s l)(h1:dG s.toList 4096=(a.toList,b.toList,0))(h2:dG b.toList 1048576=(d.toList,s2.toList,0)):
 X=fin (if fI a≠0 then(5,[],[])else if∃y,l.getLast? =some y/\¬aM y (a,d)then(2,[],[])else sS m s2.toList (l++[(a,d)])):=by
 rw[h.2 rfl,sS,h1];simp only;rw[if_neg aj,h2];simp only[kf];rw[if_neg aj]
theorem apV (h:qc X 0 (m+1) s l)(h1:dG s.toList 4096=(a.toList,b.toList,0))(h2:dG b.toList 1048576=(d.toList,s2.toList,0))(hp:fI a=5)(l2:List Fl):qc X 5 m s2 l2:=by
 refine⟨λ _=>?_,λ h=>absurd h aA⟩;rw[S7 h h1 h2,if_pos (by rw[hp];decide)];rfl
theorem apW (h:qc X 0 (m+1) s l)(h1:dG s.toList 4096=(a.toList,b.toList,0))(h2:dG b.toList 1048576=(d.toList,s2.toList,0))(hp:fI a=0){y:Fl}(hy:l.getLast? =some y)(ao:¬aM y (a,d))(l2:List Fl):qc X 2 m s2 l2:=by
 refine⟨λ _=>?_,λ h=>absurd h aA⟩;rw[S7 h h1 h2,if_neg (by rw[hp];simp),if_pos ⟨y,hy,ao⟩];rfl
theorem adj (h:qc X 0 (m+1) s l)(h1:dG s.toList 4096=(a.toList,b.toList,0))(h2:dG b.toList 1048576=(d.toList,s2.toList,0))(hp:fI a=0)(hy:∀y,l.getLast? =some y->aM y (a,d)):qc X 0 m s2 (l++[(a,d)]):=by
 refine⟨λ h=>absurd rfl h,λ _=>?_⟩;rw[S7 h h1 h2,if_neg (by rw[hp];simp),if_neg (λ ⟨y,e1,e2⟩=>e2 (hy y e1))]
end
def sT (X:Int×List Fl)(w:World)(e:Ending)(w':World):Prop:=
 ∃(B:Option Addr) (c:Nat),e= .returned (.tuple #[.slice B X.2.length c,.int .i64 X.1])/\X.2.length<=c/\c<=maxLen/\Rd w' B (fl X.2)/\Below w.heap.size w w'
theorem sT.nil {X:Int×List Fl}{k:Int}{w w':World}(h:X=(k,[]))(hb:Below w.heap.size w w'):sT X w (.returned (.tuple #[.slice none 0 0,.int .i64 k])) w':=by
 subst h;exact⟨none,0,rfl,ai _,by unfold maxLen;omega,Rd.nil _ _,hb⟩
theorem sT.good {X:Int×List Fl}{l:List Fl}{L c:Nat}{B:Option Addr}{w w':World}(h:X=(0,l))(hl:l.length=L)(hc:L<=c)(hm:c<=maxLen)(hr:Rd w' B (fl l))(hb:Below w.heap.size w w'):sT X w (.returned (.tuple #[.slice B L c,.int .i64 0])) w':=by
 subst h;subst hl;exact⟨B,c,rfl,hc,hm,hr,hb⟩
theorem apX (s0:ByteArray)(X:Int×List Fl)(hX:Gh s0.toList=X)(w:World)(hs:s0.size<=100000000):
 Calls Tryz.prog 17 #[.string s0] w (sT X w):=by
 rcases h:takeN s0.toList with _|⟨n,r⟩
 ·have HE:=ae (show X=(2,[])by rw[<-hX];unfold Gh;rw[h]);have H:=ae h;clear h hX;go_enter Tryz.func17,Tryz.ntmps17;go_wp2_with fail;(with_reducible refine(acW s0 _ aa H.out).mono ?_);rintro e w1 ⟨rfl,au⟩;go_wp2_with fail;go_loopw [0,4,5,6] (λ vs vn ve vl wr=>vs= .string ⟨#[]⟩/\vn= .int .i64 0/\ve= .int .i64 2/\vl= .slice none 0 0/\Below w.heap.size w wr) (λ _ _ _ _ _=>0)
  case atStart=>exact⟨rfl,rfl,rfl,rfl,au⟩
  case round=>
   clear au;obtain⟨rfl,rfl,rfl,rfl,hb⟩:=hrel;go_wp2_with fail;go_ret2;exact sT.nil HE.out hb
 ·obtain⟨s1,dH⟩:∃s1,av r=s1:=⟨_,rfl⟩;have NZ:s1.toList=r:=by rw[<-dH,cn]
  have adk:s1.size<=100000000:=by
   have h9:=congrArg List.length (Pr _ _ _ h).1;rw[ag,aD]at h9;rw[<-aD,NZ];omega
  have H:=ae h;have jP:=ae dH;have apY:=ae (Pr _ _ _ h).2;by_cases uU:(64:Int)<(n:Int)
  ·have HE:=ae (show X=(3,[])by rw[<-hX];unfold Gh;rw[h];simp only;rw[if_pos aa]);clear h hX dH NZ;go_enter Tryz.func17,Tryz.ntmps17;go_wp2_with fail;(with_reducible refine(JS s0 _ aa n r H.out).mono ?_);rw[jP.out];rintro e w1 ⟨rfl,au⟩;go_wp2_with fail;go_loopw [0,4,5,6] (λ vs vn ve vl wr=>vs= .string s1/\vn= .int .i64 n/\ve= .int .i64 3/\vl= .slice none 0 0/\Below w.heap.size w wr) (λ _ _ _ _ _=>0)
   case atStart=>exact⟨rfl,rfl,rfl,rfl,au⟩
   case round=>
    clear au;obtain⟨rfl,rfl,rfl,rfl,hb⟩:=hrel;go_wp2_with fail;go_ret2;exact sT.nil HE.out hb
  ·have I4:=ae (show qc X 0 n s1 []from⟨λ h=>absurd rfl h,λ _=>by rw[<-hX,NZ];unfold Gh;rw[h];simp only;rw[if_neg aa]⟩);clear h hX dH NZ;go_enter Tryz.func17,Tryz.ntmps17;go_wp2_with fail;(with_reducible refine(JS s0 _ aa n r H.out).mono ?_);rw[jP.out];rintro e w1 ⟨rfl,au⟩;go_wp2_with fail;go_loopw [0,4,5,6] (λ vs vn ve vl wr=>∃(n:Nat) (s:ByteArray) (e:Int) (l:List Fl) (v:Value) (L:Nat),vn= .int .i64 n/\vs= .string s/\ve= .int .i64 e/\vl=v/\L+n<=64/\s.size<=100000000/\wr.ownsRow w.heap.size 53 2 v L (fl l)/\Hid (rD l L)/\Hid (qc X e n s l)/\Below w.heap.size w wr) (λ _ vn _ _ _=>(intOf vn).toNat)
   case atStart=>exact⟨n,s1,0,[],_,0,rfl,rfl,rfl,rfl,aa,adk,jD _ _ _ _,ae ⟨rfl,aj⟩,I4,au⟩
   case round=>
    clear au H jP apY I4 uU adk;obtain⟨n,s,e,l,v,L,rfl,rfl,rfl,rfl,Sp,aG,aw,HL,HT,hb⟩:=hrel;have avL:=ae aw;obtain⟨_,A1,c1,hv,t_,tF,zo⟩:=Sl.own aw;subst hv;have HR:=ae zo;clear zo;by_cases he:e=0
    ·subst he;by_cases hn:0<n
     ·obtain⟨m,rfl⟩:∃m,n=m+1:=⟨n-1,aa⟩;clear hn;obtain⟨a,b,k,h1,ha,avM⟩:=adi s 4096;have H1:=ae h1;have adl:=(aB wr.heap.size wr).alloc (ai _) (.cells #[.string ⟨#[]⟩,.string ⟨#[]⟩] 53);have hB:=Bk.new wr 53 #[.string ⟨#[]⟩,.string ⟨#[]⟩];clear h1;go_wp2_with fail;(with_reducible refine(adh s a b 4096 k H1.out _ aa).mono ?_);rintro e w5 ⟨rfl,bE⟩;have N1:=adl.trans (bE.mono aj);have dw:=hB.aL bE;have p0:=dw.cell 0;have p1:=dw.cell 1;simp only[gW,eF,lZ]at p0 p1;have f0:=dw.frozen 0;have f1:=dw.frozen 1;clear adl hB bE;by_cases hk:k=0
      ·subst hk;obtain⟨d,s2,k2,h2,avN,avO⟩:=adi b 1048576;have H2:=ae h2;have fL:=dw.aP 0 (.string a);have adm:=N1.setCell (p:=⟨wr.heap.size,0,none⟩) (ai _) (.string a);clear h2;go_wp2_with fail;(with_reducible refine(adh b d s2 1048576 k2 H2.out _ aa).mono ?_);rintro e w7 ⟨rfl,uf⟩;have S8:=adm.trans (uf.mono (by rw[World.size_setCell];exact N1.size));have D0:=fL.aL uf;simp only[bP,bL,bN]at D0;clear p0 p1 f0 f1 fL adm N1 dw uf;have p0:=D0.cell 0;have p1:=D0.cell 1;simp only[gW,eF,lZ]at p0 p1;have f0:=D0.frozen 0;have f1:=D0.frozen 1;by_cases bI:k2=0
       ·subst bI;have eU:=D0.aP 1 (.string d);simp only[bP,bL,bN]at eU;have rE:=S8.setCell (p:=⟨wr.heap.size,1,none⟩) (ai _) (.string d);have q0:=eU.cell 0;have q1:=eU.cell 1;simp only[gW,eF,lZ]at q0 q1;have D1:=ae (HL.out.snoc (a:=a) (d:=d) aa aa);obtain⟨kp,S9⟩:∃kp,fI a=kp:=⟨_,rfl⟩;have JV:=ae S9;have apZ:kp=0∨kp=5:=by rw[<-S9];exact Qj a
        clear S9;go_upto_region 12 with(fail);generalize w7.setCell ⟨wr.heap.size,1,none⟩ (.string d)=avP at*;clear p0 p1 f0 f1 S8 D0;go_wp2_with fail;(with_reducible refine(Qk a kp JV.out _ aa).mono ?_);rintro e w8 ⟨rfl,iO⟩;have Ce:=rE.trans (iO.mono rE.size);have FU:=eU.aL iO;clear q0 q1 eU rE iO;have rE:=Ce;have eU:=FU;clear Ce FU;have xS:=bl hb rE;have p0:=eU.cell 0;have p1:=eU.cell 1;simp only[gW,eF,lZ]at p0 p1;rcases apZ with rfl|rfl
        ·rcases wG L with rfl|E6
         ·have jX:Hid (qc X 0 m s2 (l++[(a,d)])):=ae (adj HT.out H1.out H2.out JV.out (by rw[dP (rD.len HL.out)];simp));go_wp2_with fail;go_quiet (fail);have D2:=kL (kL aw rE) (lM (aB _ _) nq);have wj:=lM xS nq;have p0:=(eU.cell 0);have p1:=(eU.cell 1);simp only[gW,eF,lZ]at p0 p1;have S_:(w8.drewN nq).cell? ⟨wr.heap.size,0,none⟩=some (.string a):=p0;have Il:(w8.drewN nq).cell? ⟨wr.heap.size,1,none⟩=some (.string d):=p1;clear p0 p1 eU rE aw xS;try clear y0
          generalize w8.drewN nq=w9 at*;have D3:=wj.size;go_wp2_with (at_builtin;go_must (refine lg w9 rfl (.tmp 69) (.tmp 71) 22 rfl w.heap.size 53 2 32 pj _ _ _ D2 rfl _ rfl rfl (by intro u hu;simp at hu;rcases hu with rfl|rfl<;>rfl) (by unfold maxLen;omega) aa D3 ?_);intro v10 qd D4 sU);have D5:qd.ownsRow w.heap.size 53 2 v10 (0+1) (fl (l++[(a,d)])):=by rw[tJ];exact D4
          have xT:=wj.trans sU;go_round
          case rel=>exact⟨m,s2,0,l++[(a,d)],v10,0+1,by first|rfl|go_num,rfl,rfl,rfl,aa,aa,D5,D1,jX,xT⟩
          case measure=>simp[intOf]
         ·obtain⟨g,cg,ev,_,_,hg,hF⟩:=ay.own aw E6;simp only[Value.slice.injEq]at ev;obtain⟨rfl, -,rfl⟩:=ev;obtain⟨q,rfl⟩:∃q,L=q+1:=⟨L-1,aa⟩;obtain⟨y,hy⟩:∃y,l[q]? =some y:=⟨_,getD_some (by rw[rD.len HL.out];omega)⟩;obtain⟨yp,yd⟩:=y;have adn:=hF.aL rE;obtain⟨y0,y1⟩:=adn.cell hy;have ado:=ae (show l.getLast? =some (yp,yd)by rw[List.getLast?_eq_getElem?,rD.len HL.out];exact hy);have XL:IntKind.i64.wrap (q:Int)=(q:Int):=by rw[aE];omega
          have lI:(0:Int)<=(q:Int):=aa;have avQ:(q:Int)<((q:Int)+1):=aa;obtain⟨c,hc⟩:∃c,fw yp a=c:=⟨_,rfl⟩;have HC:=ae hc;have aV:=mi (yp,yd) (a,d);rw[show fw (yp,yd).1 (a,d).1=c from hc]at aV;have gD:=ae aV;clear hc aV hF hy E6 y1 adn hg;by_cases lN:c<0
          ·have jX:Hid (qc X 0 m s2 (l++[(a,d)])):=ae (adj HT.out H1.out H2.out JV.out (by rw[ado.out];intro y hy;cases hy;exact gD.out.1 lN));go_wp2_with fail;go_quiet (first|(go_at_call 54;refine Calls.quiet_of_same (Xo yp a c HC.out _)));have D2:=kL (kL aw rE) (lM (aB _ _) nq);have wj:=lM xS nq;have p0:=(eU.cell 0);have p1:=(eU.cell 1);simp only[gW,eF,lZ]at p0 p1;have S_:(w8.drewN nq).cell? ⟨wr.heap.size,0,none⟩=some (.string a):=p0;have Il:(w8.drewN nq).cell? ⟨wr.heap.size,1,none⟩=some (.string d):=p1;clear p0 p1 eU rE aw xS;try clear y0
           generalize w8.drewN nq=w9 at*;have D3:=wj.size;go_wp2_with (at_builtin;go_must (refine lg w9 rfl (.tmp 69) (.tmp 71) 22 rfl w.heap.size 53 2 32 pj _ _ _ D2 rfl _ rfl rfl (by intro u hu;simp at hu;rcases hu with rfl|rfl<;>rfl) (by unfold maxLen;omega) aa D3 ?_);intro v10 qd D4 sU);have D5:qd.ownsRow w.heap.size 53 2 v10 (q+1+1) (fl (l++[(a,d)])):=by rw[tJ];exact D4
           have xT:=wj.trans sU;go_round
           case rel=>exact⟨m,s2,0,l++[(a,d)],v10,q+1+1,by first|rfl|go_num,rfl,rfl,rfl,aa,aa,D5,D1,jX,xT⟩
           case measure=>simp[intOf]
          ·have jX:Hid (qc X 2 m s2 (l++[(a,d)])):=ae (apW HT.out H1.out H2.out JV.out ado.out (λ h=>lN (gD.out.2 h)) _);go_wp2_with fail;go_quiet (first|(go_at_call 54;refine Calls.quiet_of_same (Xo yp a c HC.out _)));have D2:=kL (kL aw rE) (lM (aB _ _) nq);have wj:=lM xS nq;have p0:=(eU.cell 0);have p1:=(eU.cell 1);simp only[gW,eF,lZ]at p0 p1;have S_:(w8.drewN nq).cell? ⟨wr.heap.size,0,none⟩=some (.string a):=p0;have Il:(w8.drewN nq).cell? ⟨wr.heap.size,1,none⟩=some (.string d):=p1;clear p0 p1 eU rE aw xS;try clear y0
           generalize w8.drewN nq=w9 at*;have D3:=wj.size;go_wp2_with (at_builtin;go_must (refine lg w9 rfl (.tmp 69) (.tmp 71) 22 rfl w.heap.size 53 2 32 pj _ _ _ D2 rfl _ rfl rfl (by intro u hu;simp at hu;rcases hu with rfl|rfl<;>rfl) (by unfold maxLen;omega) aa D3 ?_);intro v10 qd D4 sU);have D5:qd.ownsRow w.heap.size 53 2 v10 (q+1+1) (fl (l++[(a,d)])):=by rw[tJ];exact D4
           have xT:=wj.trans sU;go_round
           case rel=>exact⟨m,s2,2,l++[(a,d)],v10,q+1+1,by first|rfl|go_num,rfl,rfl,rfl,aa,aa,D5,D1,jX,xT⟩
           case measure=>simp[intOf]
        ·have jX:Hid (qc X 5 m s2 (l++[(a,d)])):=ae (apV HT.out H1.out H2.out JV.out _);go_wp2_with fail;go_quiet (fail);have D2:=kL (kL aw rE) (lM (aB _ _) nq);have wj:=lM xS nq;have p0:=(eU.cell 0);have p1:=(eU.cell 1);simp only[gW,eF,lZ]at p0 p1;have S_:(w8.drewN nq).cell? ⟨wr.heap.size,0,none⟩=some (.string a):=p0;have Il:(w8.drewN nq).cell? ⟨wr.heap.size,1,none⟩=some (.string d):=p1;clear p0 p1 eU rE aw xS;try clear y0
         generalize w8.drewN nq=w9 at*;have D3:=wj.size;go_wp2_with (at_builtin;go_must (refine lg w9 rfl (.tmp 69) (.tmp 71) 22 rfl w.heap.size 53 2 32 pj _ _ _ D2 rfl _ rfl rfl (by intro u hu;simp at hu;rcases hu with rfl|rfl<;>rfl) (by unfold maxLen;omega) aa D3 ?_);intro v10 qd D4 sU);have D5:qd.ownsRow w.heap.size 53 2 v10 (L+1) (fl (l++[(a,d)])):=by rw[tJ];exact D4
         have xT:=wj.trans sU;go_round
         case rel=>exact⟨m,s2,5,l++[(a,d)],v10,L+1,by first|rfl|go_num,rfl,rfl,rfl,aa,aa,D5,D1,jX,xT⟩
         case measure=>simp[intOf]
       ·have HE:=ae (apU HT.out H1.out H2.out bI);have eR:(k2==0)=false:=by simp[bI]
        have Gi:=bl hb (S8.setCell (p:=⟨wr.heap.size,1,none⟩) (ai _) (.string d));clear bI;go_wp2_with fail;go_ret2;exact sT.nil HE.out Gi
      ·have HE:=ae (apT HT.out H1.out hk);have eR:(k==0)=false:=by simp[hk]
       have Gi:=bl hb (N1.setCell (p:=⟨wr.heap.size,0,none⟩) (ai _) (.string a));clear hk;go_wp2_with fail;go_ret2;exact sT.nil HE.out Gi
     ·obtain rfl:n=0:=aa;have HX:=ae (HT.out.2 rfl);by_cases xU:s.toList=[]
      ·have ap0:s.toList.isEmpty=true:=by rw[xU];rfl
       obtain⟨k,hk⟩:∃k,iW l=k:=⟨_,rfl⟩;have HK:=ae hk;have D6:=ae xU;clear hk xU;go_wp2_with fail;(with_reducible refine(Xw l A1 L c1 k HK.out (rD.len HL.out) t_ aa (rD.sz HL.out) _ HR.out).mono ?_);rintro e w5 ⟨rfl,bE⟩;have Gi:=bl hb bE;have jo:=ae (HR.out.below bE);by_cases hk:k=0
       ·subst hk;have HE:=ae (show X=(0,l)by rw[HX.out,sS];unfold fin;simp only;rw[if_neg aj,if_neg (by rw[D6.out];simp),if_neg (by rw[HK.out];simp)]);go_wp2_with fail;go_ret2;exact sT.good HE.out (rD.len HL.out) t_ tF jo.out Gi
       ·have HE:=ae (show X=(k,[])by rw[HX.out,sS];unfold fin;simp only;rw[if_neg aj,if_neg (by rw[D6.out];simp),if_pos (by rw[HK.out];exact hk),HK.out]);have eR:(k==0)=false:=by simp[hk]
        clear hk;go_wp2_with fail;go_ret2;exact sT.nil HE.out Gi
      ·have ap0:s.toList.isEmpty=false:=by cases h9:s.toList with|nil=>exact absurd h9 xU|cons=>rfl
       have HE:=ae (show X=(2,[])by rw[HX.out,sS];unfold fin;simp only;rw[if_neg aj,if_pos xU]);clear xU;go_wp2_with fail;go_ret2;exact sT.nil HE.out hb
    ·have HE:=ae (HT.out.1 he);have Qf:(e==0)=false:=by simp[he]
     clear he;go_wp2_with fail;all_goals go_ret2
     all_goals exact sT.nil HE.out hb
