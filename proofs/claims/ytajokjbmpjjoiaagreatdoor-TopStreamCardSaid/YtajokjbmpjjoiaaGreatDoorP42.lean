import Derived.Test.YtajokjbmpjjoiaaGreatDoorP22
import Derived.Test.YtajokjbmpjjoiaaGreatDoorP41
set_option maxRecDepth 20000
set_option maxHeartbeats 0
set_option linter.unusedSimpArgs false
set_option linter.unusedVariables false
namespace Go.Proofs.YtajokjbmpjjoiaaGreatDoor
section
open Go.RowKit Go.Lib
def nA (en mc:List UInt8)(i:Nat)(c:List UInt8):List UInt8:=pI en (n_ i) 1 c++DM mc i (pI en (n_ i) 1 c)
theorem aeX (en mc:List UInt8)(i:Nat)(c:List UInt8):(nA en mc i c).length=c.length+32:=by unfold nA;rw[ag,He,Si]
theorem Ch {wr w w1:World}(hb:Below w.heap.size w w1){a0 a1 a2:Addr}{v0 v1 v2:Value}(h:Below wr.heap.size wr w/\w.cell? a0=some v0/\w.cell? a1=some v1/\w.cell? a2=some v2):Below wr.heap.size wr w1/\w1.cell? a0=some v0/\w1.cell? a1=some v1/\w1.cell? a2=some v2:=by
 have k:∀{a:Addr} {v:Value},w.cell? a=some v->w1.cell? a=some v:=λ h=>(hb.cell (cQ w _ h)).trans h;exact⟨bl h.1 hb,k h.2.1,k h.2.2.1,k h.2.2.2⟩
theorem OH {w:World}{g:Nat}{en mc hd:ByteArray}(h:Bk w g 40 #[.string en,.string mc,.string hd]):w.cell? ⟨g,0,none⟩=some (.string en)/\w.cell? ⟨g,1,none⟩=some (.string mc)/\w.cell? ⟨g,2,none⟩=some (.string hd):=⟨h.cell 0,h.cell 1,h.cell 2⟩
theorem arY (en mc hd c:ByteArray)(i:Nat)(he:en.size=32)(hm:mc.size<=1000000)(hi:i<256)(hc:c.size=192)(w:World):
 Calls Tryz.prog 23 #[.agg #[.string en,.string mc,.string hd],.int .i64 (i:Nat),.string c] w λ e w'=>e= .returned (.tuple #[.string (av (nA en.toList mc.toList i c.toList)),.int .i64 0])/\Below w.heap.size w w':=by
 have uk:=ae (λ w'=>aa7 en mc hd i he hi w');have Ci:=ae (λ w'=>aa6 i w');have zB:=ae (λ w'=>aeP en (av (n_ i)) c 1 he (by rw[cV,aa5]) aa aa aa w');obtain⟨N,hN⟩:∃N,av (n_ i)=N:=⟨_,rfl⟩;have Kn:N.toList=n_ i:=by rw[<-hN,cn]
 simp only[hN]at Ci zB;rw[Kn]at zB;obtain⟨X,hX⟩:∃X,av (pI en.toList (n_ i) 1 c.toList)=X:=⟨_,rfl⟩;have Un:X.size=192:=by rw[<-hX,cV,He,aD,hc]
 have Eg:X.toList=pI en.toList (n_ i) 1 c.toList:=by rw[<-hX,cn]
 have sI:=ae (λ w'=>aa8 en mc hd X i hm aa w');obtain⟨T,hT⟩:∃T,av (DM mc.toList i X.toList)=T:=⟨_,rfl⟩;have By:T.size=32:=by rw[<-hT,cV,Si]
 have j5:Hid (X++T=av (nA en.toList mc.toList i c.toList)/\True):=ae ⟨by unfold nA;rw[<-Eg,<-hT,<-KC,kf],trivial⟩;simp only[hT]at sI;have OI:Hid (∀w',Calls Tryz.prog 44 #[.string en,.string N,.int .i64 1,.string c] w' λ e w2=>e= .returned (.tuple #[.string X,.int .i64 0])/\Below w'.heap.size w' w2):=ae λ w'=>by have h:=zB.out w';rw[hX]at h;exact h
 obtain⟨R,hR⟩:∃R,X++T=R:=⟨_,rfl⟩;have HR:=ae (show av (nA en.toList mc.toList i c.toList)=R/\True by rw[<-j5.out.1,hR];exact⟨rfl,trivial⟩);have m1:¬(9223372036854775807<X.size+T.size):=aa;have arZ:((c.size:Int) !=192)=false:=by rw[hc];rfl
 have hb:=xP w (.cells #[.string en,.string mc,.string hd] 40);have hK:=Bk.new w 40 #[.string en,.string mc,.string hd];have HB:=ae hb;have HK:=ae hK;rw[HR.out.1];clear hN Kn hX Un Eg hT By j5 zB HR he hm hi hc hb hK;go_enter Tryz.func23,Tryz.ntmps23;go_upto_region 1 with(fail);generalize w.alloc (.cells #[.string en,.string mc,.string hd] 40)=w1 at*;generalize hg:w.heap.size=g at*;obtain⟨c0,c1,c2⟩:=OH HK.out;go_wp2_with fail;(refine(uk.out w1).mono ?_);rintro e w2 ⟨rfl,aC⟩;have bT:=Ch aC ⟨aB _ _,c0,c1,c2⟩;have bG:=ae (HB.out.trans (aC.mono (by rw[<-hg];exact HB.out.size)));clear c0 c1 c2 aC HK HB uk;go_upto_region 3 with fail;have n9:Below w2.heap.size w2 w2.drew/\w2.drew.cell? ⟨g,0,none⟩=some (.string en)/\w2.drew.cell? ⟨g,1,none⟩=some (.string mc)/\w2.drew.cell? ⟨g,2,none⟩=some (.string hd):=⟨(aB _ _).drew,bT.2⟩;clear bT
 go_region_held3 (λ w'=>Below w2.heap.size w2 w'/\w'.cell? ⟨g,0,none⟩=some (.string en)/\w'.cell? ⟨g,1,none⟩=some (.string mc)/\w'.cell? ⟨g,2,none⟩=some (.string hd)) (first|exact n9|assumption)
  (first
   |(go_at_call 45;with_reducible refine(Ci.out _).mono ?_;rintro e w3 ⟨rfl,aO⟩;have hX:=Ch aO (by assumption))
   |(go_at_call 44;with_reducible refine(OI.out _).mono ?_;rintro e w4 ⟨rfl,cu⟩;have hY:=Ch cu (by assumption)))
 have cU:=ae (bG.out.trans (hY.1.mono (by rw[<-hg];exact bG.out.size)));obtain⟨_,c0,c1,c2⟩:=hY;clear hX n9;go_wp2_with fail;(refine(sI.out _).mono ?_);rintro e w5 ⟨rfl,bE⟩;have mq:=ae (cU.out.trans (bE.mono (by rw[<-hg];exact cU.out.size)));clear bE c0 c1 c2;go_wp2_with fail;go_ret2;exact⟨rfl,by rw[hg];exact mq.out⟩
theorem ar0 (en mc hd s:ByteArray)(i:Nat)(c:List UInt8)(he:en.size=32)(hm:mc.size<=1000000)(hi:i<256)(hc:c.length=192)(hs:s.toList=nA en.toList mc.toList i c)(w:World):
 Calls Tryz.prog 15 #[.agg #[.string en,.string mc,.string hd],.int .i64 (i:Nat),.string s] w λ e w'=>e= .returned (.tuple #[.string (av c),.int .i64 0])/\Below w.heap.size w w':=by
 have aG:s.size=224:=by rw[<-aD,hs,aeX,hc]
 obtain⟨X,hX⟩:∃X,s.extract 0 192=X:=⟨_,rfl⟩;obtain⟨T,hT⟩:∃T,s.extract 192 s.size=T:=⟨_,rfl⟩
 have Eg:X.toList=pI en.toList (n_ i) 1 c:=by
  rw[<-hX,rW,hs];unfold nA;exact te (by rw[He,hc])
 have uE:T.toList=DM mc.toList i X.toList:=by
  rw[<-hT,tg,hs,Eg];unfold nA;exact List.drop_left' (by rw[He,hc])
 have Un:X.size=192:=by rw[<-aD,Eg,He,hc]
 have By:T.size=32:=by rw[<-aD,uE,Si]
 have uk:=ae (λ w'=>aa7 en mc hd i he hi w');have Ci:=ae (λ w'=>aa6 i w');have zB:=ae (λ w'=>aeP en (av (n_ i)) X 1 he (by rw[cV,aa5]) aa aa aa w');obtain⟨N,hN⟩:∃N,av (n_ i)=N:=⟨_,rfl⟩;have Kn:N.toList=n_ i:=by rw[<-hN,cn]
 simp only[hN]at Ci zB;rw[Kn]at zB
 have OI:Hid (∀w',Calls Tryz.prog 44 #[.string en,.string N,.int .i64 1,.string X] w' λ e w2=>e= .returned (.tuple #[.string (av c),.int .i64 0])/\Below w'.heap.size w' w2):=ae λ w'=>by
  have h:=zB.out w';rw[Eg,ahO]at h;exact h
 have sI:Hid (∀w',Calls Tryz.prog 43 #[.agg #[.string en,.string mc,.string hd],.int .i64 (i:Nat),.string X] w' λ e w2=>e= .returned (.string T)/\Below w'.heap.size w' w2):=ae λ w'=>by
  have h:=aa8 en mc hd X i hm aa w';rw[<-uE,kf]at h;exact h
 have p_:Hid (∀w',Calls Tryz.prog 42 #[.string T,.string T] w' λ e w2=>e= .returned (.tuple #[.bool true,.int .i64 32])/\Below w'.heap.size w' w2):=ae λ w'=>by
  have h:=aaW T aa w';rw[By]at h;exact h
 obtain⟨C,hC⟩:∃C,av c=C:=⟨_,rfl⟩;simp only[hC]at OI⊢;have ap7:((s.size:Int) !=224)=false:=by rw[aG];rfl
 have arZ:(192:Int)<=(s.size:Int):=aa;have hb:=xP w (.cells #[.string en,.string mc,.string hd] 40);have hK:=Bk.new w 40 #[.string en,.string mc,.string hd];have HB:=ae hb;have HK:=ae hK;clear aG Eg uE Un By hN Kn hC zB he hm hi hc hs hb hK;go_enter Tryz.func15,Tryz.ntmps15;go_upto_region 1 with(fail);generalize w.alloc (.cells #[.string en,.string mc,.string hd] 40)=w1 at*;generalize hg:w.heap.size=g at*;obtain⟨c0,c1,c2⟩:=OH HK.out;go_wp2_with fail;(refine(uk.out w1).mono ?_);rintro e w2 ⟨rfl,aC⟩;have bT:=Ch aC ⟨aB _ _,c0,c1,c2⟩;have bG:=ae (HB.out.trans (aC.mono (by rw[<-hg];exact HB.out.size)));clear c0 c1 c2 aC HK HB uk;go_upto_region 6 with fail;have n9:Below w2.heap.size w2 w2.drew/\w2.drew.cell? ⟨g,0,none⟩=some (.string en)/\w2.drew.cell? ⟨g,1,none⟩=some (.string mc)/\w2.drew.cell? ⟨g,2,none⟩=some (.string hd):=⟨(aB _ _).drew,bT.2⟩;clear bT
 go_region_held3 (λ w'=>Below w2.heap.size w2 w'/\w'.cell? ⟨g,0,none⟩=some (.string en)/\w'.cell? ⟨g,1,none⟩=some (.string mc)/\w'.cell? ⟨g,2,none⟩=some (.string hd)) (first|exact n9|assumption)
  (first
   |(go_at_call 43;with_reducible refine(sI.out _).mono ?_;rintro e w3 ⟨rfl,aO⟩;have ar1:=Ch aO (by assumption))
   |(go_at_call 42;with_reducible refine(p_.out _).mono ?_;rintro e w4 ⟨rfl,cu⟩;have hY:=Ch cu (by assumption)))
 have cU:=ae (bG.out.trans (hY.1.mono (by rw[<-hg];exact bG.out.size)));obtain⟨_,c0,c1,c2⟩:=hY;clear ar1 n9;go_upto_region 9 with fail;have ar2:Below w4.heap.size w4 w4.drew/\w4.drew.cell? ⟨g,0,none⟩=some (.string en)/\w4.drew.cell? ⟨g,1,none⟩=some (.string mc)/\w4.drew.cell? ⟨g,2,none⟩=some (.string hd):=⟨(aB _ _).drew,c0,c1,c2⟩;clear c0 c1 c2
 go_region_held3 (λ w'=>Below w4.heap.size w4 w'/\w'.cell? ⟨g,0,none⟩=some (.string en)/\w'.cell? ⟨g,1,none⟩=some (.string mc)/\w'.cell? ⟨g,2,none⟩=some (.string hd)) (first|exact ar2|assumption)
  (first
   |(go_at_call 45;with_reducible refine(Ci.out _).mono ?_;rintro e w5 ⟨rfl,bE⟩;have awl:=Ch bE (by assumption))
   |(go_at_call 44;with_reducible refine(OI.out _).mono ?_;rintro e w6 ⟨rfl,b9⟩;have ar3:=Ch b9 (by assumption)))
 go_wp2_with fail;go_ret2;exact⟨rfl,by rw[hg];exact cU.out.trans (ar3.1.mono (by rw[<-hg];exact cU.out.size))⟩
