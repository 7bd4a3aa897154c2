import Derived.Test.YtajokjbmpjjoiaaGreatDoorP20
import Derived.Test.YtajokjbmpjjoiaaGreatDoorP24
set_option maxRecDepth 20000
set_option maxHeartbeats 0
set_option linter.unusedSimpArgs false
set_option linter.unusedVariables false
namespace Go.Proofs.YtajokjbmpjjoiaaGreatDoor
section
open Go.RowKit
theorem abQ (c:Nat)(x:Int)(hx:x=c)(z:ByteArray)(hz:av (List.replicate c 0)=z)(hc:c<=1000)(w:World):
 Calls Tryz.prog 59 #[.string ⟨#[0]⟩,.int .i64 x] w λ e w'=>e= .returned (.string z)/\Below w.heap.size w w':=by
 subst hx;subst hz;have h:=Tryz.strings_Repeat ⟨#[0]⟩ c w aa (by show 1*c<=_;omega)
 have e:(⟨(Lib.repeatL (⟨#[0]⟩:ByteArray).data.toList c).toArray⟩:ByteArray)=av (List.replicate c 0):=by
  show(⟨(Lib.repeatL [0] c).toArray⟩:ByteArray)=av (List.replicate c 0);have h1:=Lib.repeatL_replicate 0 1 c;rw[yh]at h1;rw[show([0]:List UInt8)=List.replicate 1 0 from rfl,h1];rfl
 rw[e]at h;exact h
def BD (k:Int):Nat:=(min (max k 1) 32).toNat
theorem abR (k:Int):1<=BD k/\BD k<=32:=by unfold BD;omega
theorem aoS (k:Int):((BD k:Nat):Int)=min (max k 1) 32:=by unfold BD;omega
theorem aoT (k:Int)(w:World):Calls Tryz.prog 174 #[.int .i64 k] w λ e w'=>e= .returned (.int .i64 (BD k:Nat))/\Below w.heap.size w w':=by
 have HE:=ae (aoS k);go_enter Tryz.func174,Tryz.ntmps174;go_wp2_with fail;go_ret;exact⟨by rw[HE.out];rfl,aB _ _⟩
def vN (k:Int)(l:List UInt8):List UInt8:=(ky l).take (BD k)
theorem SH (k:Int)(ss:List ByteArray)(A:Option Addr)(n c:Nat)(hn:ss.length=n)(fk:n<=1000)(hl:(dO ss).length<=1000000000)(w:World)(hr:Rd w A (cO ss)):
 Calls Tryz.prog 118 #[.int .i64 k,.slice A n c] w λ e w'=>e= .returned (.string (av (vN k (dO ss))))/\Below w.heap.size w w':=by
 have HS:=ae (Np ss A n c hn fk hl w hr);have HW:=ae λ w'=>aoT k w';obtain⟨s,hs⟩:∃s,av (ky (dO ss))=s:=⟨_,rfl⟩;obtain⟨d,hd⟩:∃d,BD k=d:=⟨_,rfl⟩;have aG:s.size=32:=by rw[<-hs,cV,Bt]
 have fj:=abR k;rw[hd]at HW fj;rw[hs]at HS
 have HF:=ae (show av (vN k (dO ss))=s.extract 0 d by
  rw[<-kf (s.extract 0 d),rW,<-hs,cn,vN,hd])
 clear hs hd hn hl hr;go_enter Tryz.func118,Tryz.ntmps118;go_wp2_with fail;(with_reducible refine HS.out.mono ?_);rintro e w1 ⟨rfl,au⟩;go_wp2_with fail;(with_reducible refine(HW.out _).mono ?_);rintro e w2 ⟨rfl,aC⟩;have avx:(d:Int)<=(s.size:Int):=aa;have CX:d<=s.size:=aa;go_wp2_with fail;go_ret
 exact⟨by rw[HF.out];rfl,bl au aC⟩
def BF (k:Int)(s:List UInt8):List UInt8:=vN k (0::s)
def Jf (k:Int)(a b:List UInt8):List UInt8:=vN k (1::(a++b))
theorem abS (k:Int)(s:ByteArray)(hs:s.size<=100000000)(w:World):
 Calls Tryz.prog 62 #[.int .i64 k,.string s] w λ e w'=>e= .returned (.string (av (BF k s.toList)))/\Below w.heap.size w w':=by
 have gF:=(aB w.heap.size w).alloc (ai _) (.cells #[.string ⟨#[0]⟩,.string s] 9);have hc:dO [⟨#[0]⟩,s]=0::s.toList:=by rw[FW,kY ⟨#[0]⟩];rfl
 have HS:=ae (SH k [⟨#[0]⟩,s] (some ⟨w.heap.size,0,none⟩) 2 2 rfl aa (by rw[hc,aU,aD];omega) (w.alloc (.cells #[.string ⟨#[0]⟩,.string s] 9)) (ud (Bk.new w 9 #[.string ⟨#[0]⟩,.string s])));rw[hc]at HS;have dX:=ae gF;clear gF hc hs;go_enter Tryz.func62,Tryz.ntmps62;go_wp2_with fail;(with_reducible refine HS.out.mono ?_);rintro e w1 ⟨rfl,au⟩;have cD:=ae (dX.out.trans (au.mono dX.out.size));clear au HS;go_wp2_with fail;go_ret;exact⟨rfl,cD.out⟩
theorem aoU (a b c:ByteArray):dO [a,b,c]=a.toList++(b.toList++c.toList):=by unfold dO;simp
theorem aoV (k:Int)(a b:ByteArray)(ha:a.size<=100000000)(hb:b.size<=100000000)(w:World):
 Calls Tryz.prog 120 #[.int .i64 k,.string a,.string b] w λ e w'=>e= .returned (.string (av (Jf k a.toList b.toList)))/\Below w.heap.size w w':=by
 have gF:=(aB w.heap.size w).alloc (ai _) (.cells #[.string ⟨#[1]⟩,.string a,.string b] 9);have hc:dO [⟨#[1]⟩,a,b]=1::(a.toList++b.toList):=by rw[aoU,kY ⟨#[1]⟩];rfl
 have HS:=ae (SH k [⟨#[1]⟩,a,b] (some ⟨w.heap.size,0,none⟩) 3 3 rfl aa (by rw[hc,aU,ag,aD,aD];omega) (w.alloc (.cells #[.string ⟨#[1]⟩,.string a,.string b] 9)) (ud (Bk.new w 9 #[.string ⟨#[1]⟩,.string a,.string b])));rw[hc]at HS;have dX:=ae gF;clear gF hc ha hb;go_enter Tryz.func120,Tryz.ntmps120;go_wp2_with fail;(with_reducible refine HS.out.mono ?_);rintro e w1 ⟨rfl,au⟩;have cD:=ae (dX.out.trans (au.mono dX.out.size));clear au HS;go_wp2_with fail;go_ret;exact⟨rfl,cD.out⟩
def eP:ByteArray:=av ((ky (dO [⟨#[115,108,101,100,103,101,32,115,97,108,116]⟩,⟨#[0,1]⟩])).take 16)
theorem BG:eP.size=16:=by unfold eP;rw[cV,ba,Bt];rfl
theorem aoW (w:World):
 Calls Tryz.prog 125 #[.int .i64 1] w λ e w'=>e= .returned (.string eP)/\Below w.heap.size w w':=by
 have au:=(aB w.heap.size w).alloc (ai _) (.cells #[.int .u8 0,.int .u8 1] 5)
 have fT:(convert 54 9 (.slice (some ⟨w.heap.size,0,none⟩) 2 2)).run Tryz.prog (w.alloc (.cells #[.int .u8 0,.int .u8 1] 5))= .ok (.string (av [0,1])) (w.alloc (.cells #[.int .u8 0,.int .u8 1] 5)):=
  yn _ _ _ 5 _ 2 [0,1] 2 rfl Tryz.underlying54 Tryz.underlying5 Tryz.underlying9 λ j u hj=>by
   rw[lD,jd,(Bk.new w 5 #[.int .u8 0,.int .u8 1]).cell];simpa using hj
 generalize hw:w.alloc (.cells #[.int .u8 0,.int .u8 1] 5)=w1 at*;have HS:=ae (Np [⟨#[115,108,101,100,103,101,32,115,97,108,116]⟩,av [0,1]] (some ⟨w1.heap.size,0,none⟩) 2 2 rfl aa (by rw[FW,ag,aD,aD,cV];decide) (w1.alloc (.cells #[.string ⟨#[115,108,101,100,103,101,32,115,97,108,116]⟩,.string (av [0,1])] 9)) (ud (Bk.new w1 9 #[.string ⟨#[115,108,101,100,103,101,32,115,97,108,116]⟩,.string (av [0,1])])));have HB:=ae (au.alloc (by exact au.size) (.cells #[.string ⟨#[115,108,101,100,103,101,32,115,97,108,116]⟩,.string (av [0,1])] 9));obtain⟨y,hy⟩:∃y,av (ky (dO [⟨#[115,108,101,100,103,101,32,115,97,108,116]⟩,av [0,1]]))=y:=⟨_,rfl⟩
 have HY:=ae (show y.size=32/\y.extract 0 16=eP by
  refine⟨by rw[<-hy,cV,Bt],?_⟩;rw[<-kf (y.extract 0 16),rW,<-hy,cn];rfl)
 rw[hy]at HS;have HW:=ae hw;clear au hy;go_enter Tryz.func125,Tryz.ntmps125;go_wp2_with fail;(with_reducible refine HS.out.mono ?_);rintro e w2 ⟨rfl,aC⟩;have bG:=ae (HB.out.trans (aC.mono HB.out.size));have vO:(16:Int)<=(y.size:Int):=by have:=HY.out.1;omega
 have mY:16<=y.size:=aa;clear aC HS;go_wp2_with fail;go_ret;exact⟨by rw[<-HY.out.2];rfl,bG.out⟩
def oa (n k:Nat):Nat:=if h:0<k/\2*k<n then oa n (2*k)else k
 termination_by n-k
 decreasing_by omega
theorem SI (n k:Nat)(h1:0<k)(h2:k<n):0<oa n k/\oa n k<n:=by
 rw[oa];split
 ·exact SI n (2*k) aa aa
 ·exact⟨h1,h2⟩
 termination_by n-k
 decreasing_by omega
theorem aoX (n:Nat)(h2:2<=n)(hn:n<=1000000)(w:World):Calls Tryz.prog 119 #[.int .i64 (n:Nat)] w λ e w'=>e= .returned (.int .i64 (oa n 1:Nat))/\Below w.heap.size w w':=by
 go_enter Tryz.func119,Tryz.ntmps119;go_wp2_with fail;go_loop [3] (λ v3=>∃k:Nat,v3= .int .i64 (k:Nat)/\1<=k/\k<n/\Hid (oa n k=oa n 1)) (λ v3=>n-vnat v3)
 case atStart=>exact⟨1,rfl,aa,aa,ae rfl⟩
 case round=>
  obtain⟨k,rfl,oP,bI,HE⟩:=hrel;by_cases ao:(k:Int)<(n:Int)-(k:Int)
  ·have vd:=ae (show oa n (2*k)=oa n 1 by rw[<-HE.out,oa.eq_1 n k,dif_pos ⟨aa,aa⟩]);go_wp2_with fail;go_round
   case rel=>exact⟨2*k,by first|rfl|go_num|(congr 1;push_cast;omega),aa,aa,vd⟩
   case measure=>simp[vnat];omega
  ·have vd:=ae (show oa n 1=k by rw[<-HE.out,oa.eq_1 n k,dif_neg aa]);go_wp2_with fail;go_ret;exact⟨by rw[vd.out];rfl,aB _ _⟩
def jx (k:Int)(ss:List ByteArray):List UInt8:=match h:ss with
 |[]=>vN k []
 |[s]=>s.toList
 |a::b::l=>Jf k (jx k ((a::b::l).take (oa (l.length+2) 1))) (jx k ((a::b::l).drop (oa (l.length+2) 1)))
 termination_by ss.length
 decreasing_by
  all_goals
   have:=SI (l.length+2) 1 aa aa
   simp only[ba,cw,aU]
   omega
theorem SJ (k:Int)(l:List UInt8):(vN k l).length<=32:=by unfold vN;rw[ba];have:=abR k;omega
theorem abT (k:Int)(ss:List ByteArray)(h:∀s∈ss,s.size<=1000):(jx k ss).length<=1000:=by
 match ss,h with
 |[],_=>rw[jx];have:=SJ k [];omega
 |[s],h=>rw[jx,aD];exact h s aj
 |a::b::l,_=>rw[jx];unfold Jf;have:=SJ k;exact b_ (this _) aa
theorem aoY {w:World}{b o:Nat}{xs:List Value}(h:Rd w (some ⟨b,o,none⟩) xs)(k:Nat):Rd w (some ⟨b,o+k,none⟩) (xs.drop k):=λ hn=>by
 obtain⟨b2,o2,e,hc⟩:=h (λ e=>hn (by rw[e];simp))
 cases e
 refine⟨b,o+k,rfl,λ j u hj=>?_⟩;rw[rO]at hj;rw[rQ];exact hc (k+j) u hj
theorem aoZ (k:Int):∀(m:Nat) (ss:List ByteArray) (A:Option Addr) (n c:Nat) (_:ss.length=n) (_:n<=m) (_:n<=1000) (_:n<=c) (_:c<=9223372036854775807) (_:∀s∈ss,s.size<=1000) (w:World) (_:Rd w A (cO ss)),
 Calls Tryz.prog 63 #[.int .i64 k,.slice A n c] w λ e w'=>e= .returned (.string (av (jx k ss)))/\Below w.heap.size w w':=by
 intro m;induction m with
 |zero=>
  intro ss A n c hn hm fk hc fG hs w hr;obtain rfl:n=0:=aa;obtain rfl:ss=[]:=dP hn;have HS:=ae (SH k [] none 0 0 rfl aa (by simp[dO]) w (Rd.nil _ _));have HF:=ae (show jx k []=vN k (dO [])by rw[jx];rfl);clear hn hm fk hs hr;go_enter Tryz.func63,Tryz.ntmps63;go_wp2_with fail;(with_reducible refine HS.out.mono ?_);rintro e w1 ⟨rfl,au⟩;go_wp2_with fail;exact eX (results_tmp rfl _ _ _) rfl ⟨by rw[HF.out];rfl,au⟩
 |succ m ih=>
  intro ss A n c hn hm fk hc fG hs w hr;by_cases h0:n=0
  ·exact ih ss A n c hn aa fk hc fG hs w hr
  by_cases h1:n=1
  ·subst h1;match ss,hn with
   |[s],_=>
    clear hn;obtain⟨b,o,rfl,eT⟩:=hr (by simp[cO]);have h:w.cell? ⟨b,o,none⟩=some (.string s):=eT 0 (.string s) rfl;have HF:=ae (show av (jx k [s])=s by rw[jx,kf]);clear hs hr eT ih;go_enter Tryz.func63,Tryz.ntmps63;go_wp2_with fail;go_ret;exact⟨by rw[HF.out];rfl,aB _ _⟩
  ·have hq:=SI n 1 aa aa;have SL:=ae (aoX n aa aa w);obtain⟨b,o,rfl,_⟩:=hr (by intro e;rw[show ss=[]from List.map_eq_nil_iff.1 e]at hn;simp at hn;omega)
   have HF:Hid (jx k ss=Jf k (jx k (ss.take (oa n 1))) (jx k (ss.drop (oa n 1)))):=ae (by
    match ss,hn with
    |[],hn=>simp at hn;omega
    |[s],hn=>simp at hn;omega
    |a::b::l,hn=>
     rw[jx];rw[show l.length+2=n from by rw[<-hn];rfl])
   obtain⟨q,abU⟩:∃q,oa n 1=q:=⟨_,rfl⟩;rw[abU]at hq SL HF
   have HL:Hid (∀w',Below w.heap.size w w'->Calls Tryz.prog 63 #[.int .i64 k,.slice (some ⟨b,o,none⟩) q c] w' λ e w2=>e= .returned (.string (av (jx k (ss.take q))))/\Below w'.heap.size w' w2):=ae λ w' hb=>
    ih (ss.take q) _ q c (by rw[ba];omega) aa aa aa fG (λ s h=>hs s (s6 h)) w' (by
     have:=(hr.below hb).take q
     unfold cO at this⊢
     rwa [<-List.map_take]at this)
   have HR:Hid (∀w',Below w.heap.size w w'->Calls Tryz.prog 63 #[.int .i64 k,.slice (some ⟨b,o+q,none⟩) (n-q) (c-q)] w' λ e w2=>e= .returned (.string (av (jx k (ss.drop q))))/\Below w'.heap.size w' w2):=ae λ w' hb=>
    ih (ss.drop q) _ (n-q) (c-q) (by rw[cw];omega) aa aa aa aa (λ s h=>hs s (Cu h)) w' (by
     have:=aoY (hr.below hb) q
     unfold cO at this⊢
     rwa [<-List.map_drop]at this)
   have j3:=ae (af (abT k (ss.take q) λ s h=>hs s (s6 h)) (abT k (ss.drop q) λ s h=>hs s (Cu h)));obtain⟨x,hx⟩:∃x,jx k (ss.take q)=x:=⟨_,rfl⟩;obtain⟨y,hy⟩:∃y,jx k (ss.drop q)=y:=⟨_,rfl⟩;rw[hx,hy]at j3 HF;rw[hx]at HL;rw[hy]at HR
   have HN:Hid (∀w',Calls Tryz.prog 120 #[.int .i64 k,.string (av x),.string (av y)] w' λ e w2=>e= .returned (.string (av (jx k ss)))/\Below w'.heap.size w' w2):=ae λ w'=>by
    have h:=aoV k (av x) (av y) (by rw[cV];have:=j3.out;omega) (by rw[cV];have:=j3.out;omega) w';rw[cn,cn,<-HF.out]at h;exact h
   have K7:(n==0)=false:=by simp[h0]
   have xq:((n:Int)==0)=false:=by simp;omega
   have aaz:((n:Int)==1)=false:=by simp;omega
   have aan:q<c:=aa;have Rj:q<=n:=aa;have tW:(q:Int)<=(n:Int):=aa;have avy:(q:Int)<=(c:Int):=aa;have avz:¬q=c:=aa;have lI:0<q:=hq.1;clear hn hm hs hr ih abU hx hy;go_enter Tryz.func63,Tryz.ntmps63;go_wp2_with fail;(with_reducible refine SL.out.mono ?_);rintro e w1 ⟨rfl,au⟩;have cD:=ae au;clear au SL;go_upto_region 7 with fail;go_region_with (first|(go_at_call 63;(with_reducible refine(HL.out _ cD.out.drew).mono ?_);rintro e w2 ⟨rfl,aC⟩;have bG:=ae (cD.out.drew.trans (aC.mono cD.out.drew.size));clear aC)|(go_at_call 63;(with_reducible refine(HR.out _ bG.out).mono ?_);rintro e w3 ⟨rfl,aO⟩;have dm:=ae (bG.out.trans (aO.mono bG.out.size));clear aO)|(go_at_call 120;(with_reducible refine(HN.out _).mono ?_);rintro e w4 ⟨rfl,cu⟩;have cU:=ae (dm.out.trans (cu.mono dm.out.size));clear cu))
   all_goals
    go_wp2_with fail
    go_ret
    exact⟨rfl,cU.out⟩
