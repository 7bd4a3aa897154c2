import Derived.Test.YtajokjbmpjjoiaaGreatDoorP20
import Derived.Test.YtajokjbmpjjoiaaGreatDoorP21
import Derived.Laws.BytesArg
set_option maxRecDepth 20000
set_option maxHeartbeats 0
namespace Go.Proofs.YtajokjbmpjjoiaaGreatDoor
section
open Go.RowKit Go.Lib
theorem Nt (a:ByteArray):dO [a]=a.toList:=by unfold dO;simp
theorem aaZ (a b c:ByteArray):dO [a,b,c]=a.toList++(b.toList++c.toList):=by unfold dO;simp
theorem aa0 (bS secret:ByteArray)(h1:bS.size<=1000000)(h2:secret.size<=1000000)(w:World):Calls Tryz.prog 39 #[.string bS,.string secret] w λ e w'=>e= .returned (.string (av (mF bS.toList secret.toList)))/\Below w.heap.size w w':=by
 have HT:Hid (Calls Tryz.prog 60 #[.string bS,.slice (some ⟨w.heap.size,0,none⟩) 1 1] (w.alloc (.cells #[.string secret] 9)) λ e w'=>e= .returned (.string (av (mF bS.toList secret.toList)))/\Below w.heap.size w w'):=ae (by
  have h:=Nq bS aa [secret] (some ⟨w.heap.size,0,none⟩) 1 1 rfl aa (by rw[Nt,aD];omega) (w.alloc (.cells #[.string secret] 9)) (Rd.new w 9 #[.string secret])
  rw[Nt]at h
  exact h.mono λ e w' ⟨a,b⟩=>⟨a,((aB w.heap.size w).alloc (ai _) _).trans (b.mono aj)⟩)
 clear h1 h2;go_enter Tryz.func39,Tryz.ntmps39;go_wp2_with fail;(with_reducible refine HT.out.mono ?_);rintro e w1 ⟨rfl,hb⟩;have HB:=ae hb;clear hb;go_wp2_with fail;go_ret;exact⟨rfl,HB.out⟩
def F3 (key info:List UInt8):List UInt8:=mF key (info++[1])
theorem anM {P:Program}{w:World}{A:Option Addr}{n c:Nat}{l:List UInt8}(hn:n=l.length)(hr:Rd w A (aJ l))(src dst e:TypeId)(hs:P.underlying src=some (.slice e))(he:P.underlying e=some (.int .u8))(hd:P.underlying dst=some .string):
 (convert src dst (.slice A n c)).run P w= .ok (.string (av l)) w:=by
 cases A with
 |none=>
  have:l=[]:=by
   cases l with
   |nil=>rfl
   |cons x l=>obtain⟨b,o,e,_⟩:=hr (by simp[aJ]);cases e
  subst this;subst hn;exact run_convert_bytes_nil w src e hs he _ _ dst hd
 |some a=>
  refine yn w src dst e a c l n hn hs he hd λ j u hj=>?_;obtain⟨b,o,e2,hc⟩:=hr (by intro h;unfold aJ at h;rw[h]at hj;simp at hj)
  cases e2
  rw[lD];exact hc j u hj
theorem anN (key info:ByteArray)(h1:key.size<=1000000)(h2:info.size<=1000000)(w:World):Calls Tryz.prog 85 #[.string key,.string info,.int .i64 32] w λ e w'=>e= .returned (.tuple #[.string (av (F3 key.toList info.toList)),.int .i64 0])/\Below w.heap.size w w':=by
 obtain⟨X,hX⟩:∃X,F3 key.toList info.toList=X:=⟨_,rfl⟩;have HX:=ae (af hX (show X.length=32 by rw[<-hX];exact Bv _ _));have aG:(av X).size=32:=by rw[<-aD,cn];exact HX.out.2
 have sI:Hid (∀w',Calls Tryz.prog 60 #[.string key,.slice (some ⟨w'.heap.size,0,none⟩) 3 3] (w'.alloc (.cells #[.string ⟨#[]⟩,.string info,.string (av (be 1 1))] 9)) λ e w2=>e= .returned (.string (av X))/\Below w'.heap.size w' w2):=ae λ w'=>by
  have h:=Nq key aa [⟨#[]⟩,info,av (be 1 1)] (some ⟨w'.heap.size,0,none⟩) 3 3 rfl aa (by rw[aaZ,cn,ag,ag,aD,aD];have e1:(be 1 1).length=1:=rfl;have e2:(⟨#[]⟩:ByteArray).size=0:=rfl;omega) (w'.alloc (.cells #[.string ⟨#[]⟩,.string info,.string (av (be 1 1))] 9)) (Rd.new w' 9 #[.string ⟨#[]⟩,.string info,.string (av (be 1 1))]);have e:mF key.toList (dO [⟨#[]⟩,info,av (be 1 1)])=X:=by rw[<-hX,aaZ,cn,toList_nil,List.nil_append];rfl
  rw[e]at h;exact h.mono λ e w2 ⟨a,b⟩=>⟨a,((aB w'.heap.size w').alloc (ai _) _).trans (b.mono aj)⟩
 have anO:Hid (∀w',Calls Tryz.prog 87 #[.int .i64 1,.int .i64 1] w' λ e w2=>e= .returned (.string (av (be 1 1)))/\Below w'.heap.size w' w2):=ae λ w'=>Fg 1 1 w';have fj:decide ((8160:Int)<32)=false:=rfl;clear hX h1 h2;go_enter Tryz.func85,Tryz.ntmps85;go_wp2_with fail;go_loopw [8,9,10] (λ v8 v9 v10 wr=>(v8= .slice none 0 0/\v9= .string ⟨#[]⟩/\v10= .int .i64 1/\Hid (Below w.heap.size w wr))∨(∃A c,v8= .slice A 32 c/\32<=c/\v10= .int .i64 2/\Hid (Rd wr A (aJ X)/\Below w.heap.size w wr))) (λ v8 _ _ _=>32-jK v8)
 case atStart=>exact .inl ⟨rfl,rfl,rfl,ae (aB _ _)⟩
 case round=>
  rcases hrel with⟨rfl,rfl,rfl,HB⟩|⟨A,c,rfl,hc,rfl,HR⟩
  ·go_wp2_with fail;(with_reducible refine(anO.out wr).mono ?_);rintro e w1 ⟨rfl,au⟩;have cD:=ae (HB.out.trans (au.mono HB.out.size));clear au HB;go_wp2_with fail;(with_reducible refine(sI.out w1).mono ?_);rintro e w2 ⟨rfl,aC⟩;have bG:=ae (cD.out.trans (aC.mono cD.out.size));clear aC cD;go_wp2_with (at_builtin;go_must (refine ak3 rfl (.tmp 30) (.tmp 31) 54 9 rfl 5 Tryz.underlying54 Tryz.underlying9 YL rfl (av X) rfl aa ?_);intro A c w3 cR bT dL _ aO;rw[aG];rw[cn]at dL;have H3:=ae (af dL (bG.out.trans (aO.mono bG.out.size)));clear dL aO);go_roundw
   case rel=>exact .inr ⟨A,c,rfl,by rw[<-aG];exact cR,rfl,H3⟩
   case measure=>simp[jK]
  ·have fT:=anM (P:=Tryz.prog) (w:=wr) (c:=c) (n:=32) (HX.out.2).symm HR.out.1 54 9 5 Tryz.underlying54 Tryz.underlying5 Tryz.underlying9;have avo:(32:Int)<=(c:Int):=aa;have HB:=ae HR.out.2;clear HR;go_wp2_with fail;go_ret2;refine⟨?_,HB.out⟩;rw[HX.out.1];rfl
theorem Sc (key info:ByteArray)(h1:key.size<=1000000)(h2:info.size<=1000000)(w:World):Calls Tryz.prog 40 #[.string info,.string key] w λ e w'=>e= .returned (.string (av (F3 key.toList info.toList)))/\Below w.heap.size w w':=by
 have HE:=ae (anN key info h1 h2 w);clear h1 h2;go_enter Tryz.func40,Tryz.ntmps40;go_wp2_with fail;(with_reducible refine HE.out.mono ?_);rintro e w1 ⟨rfl,hb⟩;have HB:=ae hb;clear hb;go_wp2_with fail;go_ret;exact⟨rfl,HB.out⟩
def Nu:ByteArray:=⟨#[115,108,101,100,103,101,32,98,121,116,101,115]⟩
def Nv:ByteArray:=⟨#[115,108,101,100,103,101,32,116,97,103,115]⟩
def Nw:ByteArray:=⟨#[115,108,101,100,103,101,32,104,101,97,100,115]⟩
def iY (secret bS:ByteArray):ByteArray:=av (F3 (mF bS.toList secret.toList) Nu.toList)
def iZ (secret bS:ByteArray):ByteArray:=av (F3 (mF bS.toList secret.toList) Nv.toList)
def ph (secret:ByteArray):ByteArray:=av (F3 (mF [] secret.toList) Nw.toList)
theorem Sd (secret bS:ByteArray):(iY secret bS).size=32:=by unfold iY;rw[<-aD,cn];exact Bv _ _
theorem Se (secret bS:ByteArray):(iZ secret bS).size=32:=by unfold iZ;rw[<-aD,cn];exact Bv _ _
theorem Nx (secret:ByteArray):(ph secret).size=32:=by unfold ph;rw[<-aD,cn];exact Bv _ _
def Ny (secret bS:ByteArray):Value:=.agg #[.string (iY secret bS),.string (iZ secret bS),.string (ph secret)]
theorem Sf (secret bS:ByteArray)(h1:secret.size<=1000000)(h2:bS.size<=1000000)(w:World):Calls Tryz.prog 12 #[.string secret,.string bS] w λ e w'=>e= .returned (Ny secret bS)/\Below w.heap.size w w':=by
 obtain⟨T,hT⟩:∃T,av (mF bS.toList secret.toList)=T:=⟨_,rfl⟩;obtain⟨T2,xH⟩:∃T,av (mF [] secret.toList)=T:=⟨_,rfl⟩;have uE:T.toList=mF bS.toList secret.toList:=by rw[<-hT,cn]
 have Sg:T2.toList=mF [] secret.toList:=by rw[<-xH,cn]
 have By:T.size<=1000000:=by rw[<-aD,uE,Bv];omega
 have aa1:T2.size<=1000000:=by rw[<-aD,Sg,Bv];omega
 have I7:Hid (∀w',Calls Tryz.prog 39 #[.string bS,.string secret] w' λ e w2=>e= .returned (.string T)/\Below w'.heap.size w' w2):=ae λ w'=>by rw[<-hT];exact aa0 bS secret h2 h1 w'
 have gm:Hid (∀w',Calls Tryz.prog 39 #[.string ⟨#[]⟩,.string secret] w' λ e w2=>e= .returned (.string T2)/\Below w'.heap.size w' w2):=ae λ w'=>by
  have:=aa0 ⟨#[]⟩ secret aA h1 w';rw[toList_nil,xH]at this;exact this
 have zg:Hid (∀w',Calls Tryz.prog 40 #[.string Nu,.string T] w' λ e w2=>e= .returned (.string (iY secret bS))/\Below w'.heap.size w' w2):=ae λ w'=>by
  have:=Sc T Nu By aA w';rw[uE]at this;exact this
 have mr:Hid (∀w',Calls Tryz.prog 40 #[.string Nv,.string T] w' λ e w2=>e= .returned (.string (iZ secret bS))/\Below w'.heap.size w' w2):=ae λ w'=>by
  have:=Sc T Nv By aA w';rw[uE]at this;exact this
 have aa2:Hid (∀w',Calls Tryz.prog 40 #[.string Nw,.string T2] w' λ e w2=>e= .returned (.string (ph secret))/\Below w'.heap.size w' w2):=ae λ w'=>by
  have:=Sc T2 Nw aa1 aA w';rw[Sg]at this;exact this
 unfold Ny;generalize iY secret bS=k1 at*;generalize iZ secret bS=k2 at*;generalize ph secret=k3 at*;have dH:(⟨#[115,108,101,100,103,101,32,98,121,116,101,115]⟩:ByteArray)=Nu:=rfl;have eI:(⟨#[115,108,101,100,103,101,32,116,97,103,115]⟩:ByteArray)=Nv:=rfl;have E4:(⟨#[115,108,101,100,103,101,32,104,101,97,100,115]⟩:ByteArray)=Nw:=rfl;clear hT xH uE Sg By aa1 h1 h2 dH eI E4;have H0:=ae (af (Bk.new w 40 #[.string ⟨#[]⟩,.string ⟨#[]⟩,.string ⟨#[]⟩]) ((aB w.heap.size w).alloc (ai _) (.cells #[.string ⟨#[]⟩,.string ⟨#[]⟩,.string ⟨#[]⟩] 40)));go_enter Tryz.func12,Tryz.ntmps12;go_upto_region 1 with fail;generalize w.alloc (.cells #[.string ⟨#[]⟩,.string ⟨#[]⟩,.string ⟨#[]⟩] 40)=w0 at*;generalize hg:w.heap.size=g at*;go_wp2_with fail;(with_reducible refine(I7.out w0).mono ?_);rintro e w1 ⟨rfl,au⟩;have H1:=ae (af (H0.out.1.aL au) (H0.out.2.trans (au.mono (by rw[<-hg];exact H0.out.2.size))));clear au H0 I7;go_wp2_with fail;(refine(zg.out w1).mono ?_);rintro e w2 ⟨rfl,aC⟩;have H2:=ae (af (H1.out.1.aL aC) (H1.out.2.trans (aC.mono (by rw[<-hg];exact H1.out.2.size))));clear aC H1 zg;go_wp2_with fail;(refine(mr.out w2).mono ?_);rintro e w3 ⟨rfl,aO⟩;have H3:=ae (af (H2.out.1.aL aO) (H2.out.2.trans (aO.mono (by rw[<-hg];exact H2.out.2.size))));clear aO H2 mr;go_wp2_with fail;(refine(gm.out w3).mono ?_);rintro e w4 ⟨rfl,cu⟩;have H4:=ae (af (H3.out.1.aL cu) (H3.out.2.trans (cu.mono (by rw[<-hg];exact H3.out.2.size))));clear cu H3 gm;go_wp2_with fail;(refine(aa2.out w4).mono ?_);rintro e w5 ⟨rfl,bE⟩;have dw:=H4.out.1.aL bE;have mq:=ae (af dw (H4.out.2.trans (bE.mono (by rw[<-hg];exact H4.out.2.size))));have z0:=dw.cell_ 0 (.string ⟨#[]⟩) rfl;have z1:=dw.cell_ 1 (.string ⟨#[]⟩) rfl;have z2:=dw.cell_ 2 (.string ⟨#[]⟩) rfl;have f0:=dw.frozen 0;have f1:=dw.frozen 1;have f2:=dw.frozen 2;clear dw bE H4 aa2;go_wp2_with fail;have fL:=((mq.out.1.aP 0 (.string k1)).aP 1 (.string k2)).aP 2 (.string k3);have y0:=fL.cell_ 0 (.string k1) rfl;have y1:=fL.cell_ 1 (.string k2) rfl;have y2:=fL.cell_ 2 (.string k3) rfl;have FX:=ae (((mq.out.2.setCell (p:=⟨g,0,none⟩) (ai _) (.string k1)).setCell (p:=⟨g,1,none⟩) (ai _) (.string k2)).setCell (p:=⟨g,2,none⟩) (ai _) (.string k3));generalize((w5.setCell ⟨g,0,none⟩ (.string k1)).setCell ⟨g,1,none⟩ (.string k2)).setCell ⟨g,2,none⟩ (.string k3)=w6 at*;exact eX (v:=.agg #[.string k1,.string k2,.string k3]) (by simp[results,Tryz.results12,go_sem,y0,y1,y2]) rfl ⟨rfl,by rw[hg];exact FX.out⟩
def rf (key:ByteArray)(id:Int)(sa:ByteArray)(n bs raw:Int)(ro:ByteArray):ByteArray:=av (mF key.toList (nZ id sa n bs raw ro).toList)
theorem aa3 (key:ByteArray)(id:Int)(sa:ByteArray)(n bs raw:Int)(ro:ByteArray):(rf key id sa n bs raw ro).size=32:=by unfold rf;rw[cV,Bv]
theorem I8 {wr w w1:World}(hb:Below w.heap.size w w1){a0 a1 a2 a3 a4 a5 a6:Addr}{v0 v1 v2 v3 v4 v5 v6:Value}
 (h:Below wr.heap.size wr w/\w.cell? a0=some v0/\w.cell? a1=some v1/\w.cell? a2=some v2/\w.cell? a3=some v3/\w.cell? a4=some v4/\w.cell? a5=some v5/\w.cell? a6=some v6):
 Below wr.heap.size wr w1/\w1.cell? a0=some v0/\w1.cell? a1=some v1/\w1.cell? a2=some v2/\w1.cell? a3=some v3/\w1.cell? a4=some v4/\w1.cell? a5=some v5/\w1.cell? a6=some v6:=Ns hb h
theorem sP (w:World)(o:Obj):Below w.heap.size w (w.alloc o):=(aB _ _).alloc (ai _) _
theorem aa4 (key t ta:ByteArray)(hk:key.size<=1000000)(ht:t.size<=1000000)(qP:av (mF key.toList t.toList)=ta)(w:World):Calls Tryz.prog 60 #[.string key,.slice (some ⟨w.heap.size,0,none⟩) 1 1] (w.alloc (.cells #[.string t] 9)) λ e w2=>e= .returned (.string ta)/\Below w.heap.size w w2:=by
 have h:=Nq key aa [t] (some ⟨w.heap.size,0,none⟩) 1 1 rfl aa (by rw[Nt,aD];omega) (w.alloc (.cells #[.string t] 9)) (Rd.new w 9 #[.string t]);rw[Nt,qP]at h;exact h.mono λ e w2 ⟨a,b⟩=>⟨a,O1 b⟩
theorem anP (key:ByteArray)(id:Int)(sa:ByteArray)(n bs raw:Int)(ro ta:ByteArray)(hk:key.size<=1000000)(dH:sa.size<=500)(eI:ro.size<=500)(w:World):
 Calls Tryz.prog 24 #[.string key,uX id sa n bs raw ro ta] w λ e w'=>e= .returned (uX id sa n bs raw ro (rf key id sa n bs raw ro))/\Below w.heap.size w w':=by
 have Nz:Hid (∀w',Calls Tryz.prog 61 #[.agg #[.int .i64 id,.string sa,.int .i64 n,.int .i64 bs,.int .i64 raw,.string ro,.string ta]] w' λ e w2=>e= .returned (.string (nZ id sa n bs raw ro))/\Below w'.heap.size w' w2):=ae λ w'=>Sa id sa n bs raw ro ta w' dH eI;have sI:Hid (∀w',Calls Tryz.prog 60 #[.string key,.slice (some ⟨w'.heap.size,0,none⟩) 1 1] (w'.alloc (.cells #[.string (nZ id sa n bs raw ro)] 9)) λ e w2=>e= .returned (.string (rf key id sa n bs raw ro))/\Below w'.heap.size w' w2):=ae λ w'=>aa4 key _ _ hk (by rw[F0];omega) rfl w';unfold uX;generalize rf key id sa n bs raw ro=T at*;generalize nZ id sa n bs raw ro=F at*;clear hk dH eI;have HB:=ae (show(Bk ((w.alloc (.cells #[.int .i64 id,.string sa,.int .i64 n,.int .i64 bs,.int .i64 raw,.string ro,.string ta] 26)).alloc (.cells #[.int .i64 0,.string ⟨#[]⟩,.int .i64 0,.int .i64 0,.int .i64 0,.string ⟨#[]⟩,.string ⟨#[]⟩] 26)) w.heap.size 26 #[.int .i64 id,.string sa,.int .i64 n,.int .i64 bs,.int .i64 raw,.string ro,.string ta]/\Bk ((w.alloc (.cells #[.int .i64 id,.string sa,.int .i64 n,.int .i64 bs,.int .i64 raw,.string ro,.string ta] 26)).alloc (.cells #[.int .i64 0,.string ⟨#[]⟩,.int .i64 0,.int .i64 0,.int .i64 0,.string ⟨#[]⟩,.string ⟨#[]⟩] 26)) (w.heap.size+1) 26 #[.int .i64 0,.string ⟨#[]⟩,.int .i64 0,.int .i64 0,.int .i64 0,.string ⟨#[]⟩,.string ⟨#[]⟩])/\Below w.heap.size w ((w.alloc (.cells #[.int .i64 id,.string sa,.int .i64 n,.int .i64 bs,.int .i64 raw,.string ro,.string ta] 26)).alloc (.cells #[.int .i64 0,.string ⟨#[]⟩,.int .i64 0,.int .i64 0,.int .i64 0,.string ⟨#[]⟩,.string ⟨#[]⟩] 26))from⟨⟨(Bk.new w _ _).alloc _,by have:=Bk.new (w.alloc (.cells #[.int .i64 id,.string sa,.int .i64 n,.int .i64 bs,.int .i64 raw,.string ro,.string ta] 26)) 26 #[.int .i64 0,.string ⟨#[]⟩,.int .i64 0,.int .i64 0,.int .i64 0,.string ⟨#[]⟩,.string ⟨#[]⟩];simpa using this⟩,((aB _ _).alloc (ai _) _).alloc aj _⟩);go_enter Tryz.func24,Tryz.ntmps24;go_upto_region 1 with(fail);generalize(w.alloc (.cells #[.int .i64 id,.string sa,.int .i64 n,.int .i64 bs,.int .i64 raw,.string ro,.string ta] 26)).alloc (.cells #[.int .i64 0,.string ⟨#[]⟩,.int .i64 0,.int .i64 0,.int .i64 0,.string ⟨#[]⟩,.string ⟨#[]⟩] 26)=w0 at*;generalize hg:w.heap.size=g at*;have c0:=HB.out.1.1.cell_ 0 _ rfl;have c1:=HB.out.1.1.cell_ 1 _ rfl;have c2:=HB.out.1.1.cell_ 2 _ rfl;have c3:=HB.out.1.1.cell_ 3 _ rfl;have c4:=HB.out.1.1.cell_ 4 _ rfl;have c5:=HB.out.1.1.cell_ 5 _ rfl;have c6:=HB.out.1.1.cell_ 6 _ rfl;go_wp2_with fail;(refine(Nz.out w0).mono ?_);rintro e w1 ⟨rfl,au⟩;have cD:=ae (af (af (Bk.aL HB.out.1.1 au) (Bk.aL HB.out.1.2 au)) (HB.out.2.trans (au.mono (by rw[<-hg];exact HB.out.2.size))));clear au c0 c1 c2 c3 c4 c5 c6 HB Nz;go_wp2_with fail;(refine(sI.out w1).mono ?_);rintro e w2 ⟨rfl,aC⟩;have bG:=ae (af (af (Bk.aL cD.out.1.1 aC) (Bk.aL cD.out.1.2 aC)) (cD.out.2.trans (aC.mono (by rw[<-hg];exact cD.out.2.size))));clear aC cD sI;have d6:=bG.out.1.1.cell_ 6 _ rfl;have f6:=bG.out.1.1.frozen 6;have dm:=ae (af (af (bG.out.1.1.aP 6 (.string T)) (Bk.far bG.out.1.2 (p:=⟨g,6,none⟩) (show g+1≠g by omega) (.string T))) (bG.out.2.setCell (p:=⟨g,6,none⟩) (ai _) (.string T)));go_upto_region 2 with(fail);clear d6 f6 bG;generalize w2.setCell ⟨g,6,none⟩ (.string T)=w3 at*;have c0:=dm.out.1.1.cell_ 0 (.int .i64 id) rfl;have c1:=dm.out.1.1.cell_ 1 (.string sa) rfl;have c2:=dm.out.1.1.cell_ 2 (.int .i64 n) rfl;have c3:=dm.out.1.1.cell_ 3 (.int .i64 bs) rfl;have c4:=dm.out.1.1.cell_ 4 (.int .i64 raw) rfl;have c5:=dm.out.1.1.cell_ 5 (.string ro) rfl;have c6:=dm.out.1.1.cell_ 6 (.string T) rfl;have d0:=dm.out.1.2.cell_ 0 (.int .i64 0) rfl;have d1:=dm.out.1.2.cell_ 1 (.string ⟨#[]⟩) rfl;have d2:=dm.out.1.2.cell_ 2 (.int .i64 0) rfl;have d3:=dm.out.1.2.cell_ 3 (.int .i64 0) rfl;have d4:=dm.out.1.2.cell_ 4 (.int .i64 0) rfl;have d5:=dm.out.1.2.cell_ 5 (.string ⟨#[]⟩) rfl;have d6:=dm.out.1.2.cell_ 6 (.string ⟨#[]⟩) rfl;have f0:=dm.out.1.2.frozen 0;have f1:=dm.out.1.2.frozen 1;have f2:=dm.out.1.2.frozen 2;have f3:=dm.out.1.2.frozen 3;have f4:=dm.out.1.2.frozen 4;have f5:=dm.out.1.2.frozen 5;have f6:=dm.out.1.2.frozen 6;go_wp2_with fail;have fL:=((((((dm.out.1.2.aP 0 (.int .i64 id)).aP 1 (.string sa)).aP 2 (.int .i64 n)).aP 3 (.int .i64 bs)).aP 4 (.int .i64 raw)).aP 5 (.string ro)).aP 6 (.string T);have y0:=fL.cell_ 0 (.int .i64 id) rfl;have y1:=fL.cell_ 1 (.string sa) rfl;have y2:=fL.cell_ 2 (.int .i64 n) rfl;have y3:=fL.cell_ 3 (.int .i64 bs) rfl;have y4:=fL.cell_ 4 (.int .i64 raw) rfl;have y5:=fL.cell_ 5 (.string ro) rfl;have y6:=fL.cell_ 6 (.string T) rfl;have HY:=ae (((((((dm.out.2.setCell (p:=⟨g+1,0,none⟩) (yk g) (.int .i64 id)).setCell (p:=⟨g+1,1,none⟩) (yk g) (.string sa)).setCell (p:=⟨g+1,2,none⟩) (yk g) (.int .i64 n)).setCell (p:=⟨g+1,3,none⟩) (yk g) (.int .i64 bs)).setCell (p:=⟨g+1,4,none⟩) (yk g) (.int .i64 raw)).setCell (p:=⟨g+1,5,none⟩) (yk g) (.string ro)).setCell (p:=⟨g+1,6,none⟩) (yk g) (.string T));clear fL c0 c1 c2 c3 c4 c5 c6 d0 d1 d2 d3 d4 d5 d6 f0 f1 f2 f3 f4 f5 f6 dm;generalize(((((((w3.setCell ⟨g+1,0,none⟩ (.int .i64 id)).setCell ⟨g+1,1,none⟩ (.string sa)).setCell ⟨g+1,2,none⟩ (.int .i64 n)).setCell ⟨g+1,3,none⟩ (.int .i64 bs)).setCell ⟨g+1,4,none⟩ (.int .i64 raw)).setCell ⟨g+1,5,none⟩ (.string ro)).setCell ⟨g+1,6,none⟩ (.string T))=w6 at*;exact eX (v:=.agg #[.int .i64 id,.string sa,.int .i64 n,.int .i64 bs,.int .i64 raw,.string ro,.string T]) (by simp[results,Tryz.results24,go_sem,y0,y1,y2,y3,y4,y5,y6]) rfl ⟨rfl,by rw[hg];exact HY.out⟩
theorem anQ (key:ByteArray)(id:Int)(sa:ByteArray)(n bs raw:Int)(ro ta:ByteArray)(hk:key.size<=1000000)(bq:fU id sa n bs raw ro ta=true)(qP:rf key id sa n bs raw ro=ta)(w:World):
 Calls Tryz.prog 243 #[.string key,uX id sa n bs raw ro ta] w λ e w'=>e= .returned (.int .i64 0)/\Below w.heap.size w w':=by
 have aG:=fZ bq
 have F4:Hid (∀w',Calls Tryz.prog 78 #[.agg #[.int .i64 id,.string sa,.int .i64 n,.int .i64 bs,.int .i64 raw,.string ro,.string ta]] w' λ e w2=>e= .returned (.int .i64 0)/\Below w'.heap.size w' w2):=ae λ w'=>by
  have h:=Mf id sa n bs raw ro ta w';rw[bq]at h;exact h
 have Nz:Hid (∀w',Calls Tryz.prog 61 #[.agg #[.int .i64 id,.string sa,.int .i64 n,.int .i64 bs,.int .i64 raw,.string ro,.string ta]] w' λ e w2=>e= .returned (.string (nZ id sa n bs raw ro))/\Below w'.heap.size w' w2):=ae λ w'=>Sa id sa n bs raw ro ta w' aa aa;have sI:Hid (∀w',Calls Tryz.prog 60 #[.string key,.slice (some ⟨w'.heap.size,0,none⟩) 1 1] (w'.alloc (.cells #[.string (nZ id sa n bs raw ro)] 9)) λ e w2=>e= .returned (.string ta)/\Below w'.heap.size w' w2):=ae λ w'=>aa4 key _ _ hk (by rw[F0];omega) qP w'
 have p_:Hid (∀w',Calls Tryz.prog 42 #[.string ta,.string ta] w' λ e w2=>e= .returned (.tuple #[.bool true,.int .i64 32])/\Below w'.heap.size w' w2):=ae λ w'=>by
  have h:=aaW ta aa w';rw[show ta.size=32 from by omega]at h;exact h
 have hb:=sP w (.cells #[.int .i64 id,.string sa,.int .i64 n,.int .i64 bs,.int .i64 raw,.string ro,.string ta] 26);have hH:Bx (w.alloc (.cells #[.int .i64 id,.string sa,.int .i64 n,.int .i64 bs,.int .i64 raw,.string ro,.string ta] 26)) w.heap.size 26 id sa n bs raw ro ta:=Bk.new _ _ _;unfold uX;generalize nZ id sa n bs raw ro=F at*;have HB:=ae hb;have DL:=ae hH;clear hk aG bq qP hb hH;go_enter Tryz.func243,Tryz.ntmps243;go_upto_region 1 with(fail);generalize w.alloc (.cells #[.int .i64 id,.string sa,.int .i64 n,.int .i64 bs,.int .i64 raw,.string ro,.string ta] 26)=w1 at*;generalize hg:w.heap.size=g at*;obtain⟨c0,c1,c2,c3,c4,c5,c6⟩:=DL.out.cells;go_wp2_with fail;(refine(F4.out w1).mono ?_);rintro e w2 ⟨rfl,aC⟩;have bT:=I8 aC ⟨aB _ _,c0,c1,c2,c3,c4,c5,c6⟩;have bG:=ae (HB.out.trans (aC.mono (by rw[<-hg];exact HB.out.size)));clear c0 c1 c2 c3 c4 c5 c6 aC DL HB F4;go_upto_region 4 with fail;have n9:Below w2.heap.size w2 w2.drew/\w2.drew.cell? ⟨g,0,none⟩=some (.int .i64 id)/\w2.drew.cell? ⟨g,1,none⟩=some (.string sa)/\w2.drew.cell? ⟨g,2,none⟩=some (.int .i64 n)/\w2.drew.cell? ⟨g,3,none⟩=some (.int .i64 bs)/\w2.drew.cell? ⟨g,4,none⟩=some (.int .i64 raw)/\w2.drew.cell? ⟨g,5,none⟩=some (.string ro)/\w2.drew.cell? ⟨g,6,none⟩=some (.string ta):=⟨(aB _ _).drew,bT.2⟩;clear bT
 go_region_held3 (λ w'=>Below w2.heap.size w2 w'/\w'.cell? ⟨g,0,none⟩=some (.int .i64 id)/\w'.cell? ⟨g,1,none⟩=some (.string sa)/\w'.cell? ⟨g,2,none⟩=some (.int .i64 n)/\w'.cell? ⟨g,3,none⟩=some (.int .i64 bs)/\w'.cell? ⟨g,4,none⟩=some (.int .i64 raw)/\w'.cell? ⟨g,5,none⟩=some (.string ro)/\w'.cell? ⟨g,6,none⟩=some (.string ta)) (first|exact n9|assumption|(with_reducible exact I8 (sP _ _) (by assumption)))
  (first
   |(go_at_call 61;with_reducible refine(Nz.out _).mono ?_;rintro e w3 ⟨rfl,aO⟩;have hX:=I8 aO (by assumption))
   |(go_at_call 60;with_reducible refine(sI.out _).mono ?_;rintro e w4 ⟨rfl,cu⟩;have hY:=I8 cu (by assumption))
   |(go_at_call 42;with_reducible refine(p_.out _).mono ?_;rintro e w5 ⟨rfl,bE⟩;have hZ:=I8 bE (by assumption)))
 go_wp2_with fail;go_ret;exact⟨rfl,by rw[hg];exact bG.out.trans (hZ.1.mono (by rw[<-hg];exact bG.out.size))⟩
def n_ (i:Nat):List UInt8:=[83,76,68,71]++be (i:Int) 8
theorem aa5 (i:Nat):(n_ i).length=12:=by unfold n_;rw[ag,jH];rfl
def DM (Sh:List UInt8)(i:Nat)(x:List UInt8):List UInt8:=mF Sh (be (i:Int) 4++x)
theorem Si (Sh:List UInt8)(i:Nat)(x:List UInt8):(DM Sh i x).length=32:=Bv _ _
theorem aa6 (i:Nat)(w:World):Calls Tryz.prog 45 #[.int .i64 (i:Nat)] w λ e w'=>e= .returned (.string (av (n_ i)))/\Below w.heap.size w w':=by
 have HF:Hid (∀w',Calls Tryz.prog 87 #[.int .i64 (i:Nat),.int .i64 8] w' λ e w2=>e= .returned (.string (av (be (i:Int) 8)))/\Below w'.heap.size w' w2):=ae λ w'=>Fg (i:Int) 8 w';have aG:(av (be (i:Int) 8)).size=8:=by rw[cV,jH]
 have Ah:(⟨#[83,76,68,71]⟩:ByteArray)++av (be (i:Int) 8)=av (n_ i):=by
  unfold n_;exact KC [83,76,68,71] (be (i:Int) 8)
 obtain⟨s,hs⟩:∃s,av (be (i:Int) 8)=s:=⟨_,rfl⟩;obtain⟨t,ht⟩:∃t,av (n_ i)=t:=⟨_,rfl⟩;rw[hs]at HF aG Ah;rw[ht]at Ah⊢;have m1:¬(9223372036854775807<(⟨#[83,76,68,71]⟩:ByteArray).size+s.size):=by rw[aG];decide
 have m2:¬(9223372036854775807<4+s.size):=by rw[aG];decide
 clear hs ht aG;go_enter Tryz.func45,Tryz.ntmps45;go_wp2_with fail;(with_reducible refine(HF.out w).mono ?_);rintro e w1 ⟨rfl,au⟩;have HB:=ae au;clear au HF;go_wp2_with fail;go_ret;exact⟨rfl,HB.out⟩
theorem aa7 (en mc hd:ByteArray)(i:Nat)(he:en.size=32)(hi:i<256)(w:World):
 Calls Tryz.prog 41 #[.agg #[.string en,.string mc,.string hd],.int .i64 (i:Nat)] w λ e w'=>e= .returned (.bool true)/\Below w.heap.size w w':=by
 have h1:((en.size:Int)==32)=true:=by rw[he];rfl
 have h2:(0:Int)<=(i:Int):=aa;have h3:(i:Int)<256:=aa;have hb:=(aB w.heap.size w).alloc (ai _) (.cells #[.string en,.string mc,.string hd] 40);have HB:=ae hb;clear he hi hb;go_enter Tryz.func41,Tryz.ntmps41;go_wp2_with fail;go_ret;exact⟨rfl,HB.out⟩
theorem Sj {wr w w1:World}(hb:Below w.heap.size w w1){a0:Addr}{v0:Value}(h:Below wr.heap.size wr w/\w.cell? a0=some v0):Below wr.heap.size wr w1/\w1.cell? a0=some v0:=
 ⟨bl h.1 hb,(hb.cell (cQ w _ h.2)).trans h.2⟩
theorem xP (w:World)(o:Obj):Below w.heap.size w (w.alloc o):=(aB _ _).alloc (ai _) _
theorem aa8 (en mc hd x:ByteArray)(i:Nat)(hm:mc.size<=1000000)(hx:x.size<=1000000)(w:World):
 Calls Tryz.prog 43 #[.agg #[.string en,.string mc,.string hd],.int .i64 (i:Nat),.string x] w λ e w'=>e= .returned (.string (av (DM mc.toList i x.toList)))/\Below w.heap.size w w':=by
 have HF:Hid (∀w',Calls Tryz.prog 87 #[.int .i64 (i:Nat),.int .i64 4] w' λ e w2=>e= .returned (.string (av (be (i:Int) 4)))/\Below w'.heap.size w' w2):=ae λ w'=>Fg (i:Int) 4 w'
 have HT:Hid (∀w',Calls Tryz.prog 60 #[.string mc,.slice (some ⟨w'.heap.size,0,none⟩) 2 2] (w'.alloc (.cells #[.string (av (be (i:Int) 4)),.string x] 9)) λ e w2=>e= .returned (.string (av (DM mc.toList i x.toList)))/\Below w'.heap.size w' w2):=ae λ w'=>by
  have h:=Nq mc aa [av (be (i:Int) 4),x] (some ⟨w'.heap.size,0,none⟩) 2 2 rfl aa (by rw[FW,cn,ag,jH,aD];omega) (w'.alloc (.cells #[.string (av (be (i:Int) 4)),.string x] 9)) (Rd.new w' 9 #[.string (av (be (i:Int) 4)),.string x]);rw[FW,cn]at h;exact h.mono λ e w2 ⟨a,b⟩=>⟨a,O1 b⟩
 obtain⟨s,hs⟩:∃s,av (be (i:Int) 4)=s:=⟨_,rfl⟩;obtain⟨t,ht⟩:∃t,av (DM mc.toList i x.toList)=t:=⟨_,rfl⟩;simp only[hs]at HF HT;simp only[ht]at HT⊢;have hb:=xP w (.cells #[.string en,.string mc,.string hd] 40);have cR:(w.alloc (.cells #[.string en,.string mc,.string hd] 40)).cell? ⟨w.heap.size,1,none⟩=some (.string mc):=(Bk.new w 40 _).cell 1;have HB:=ae hb;clear hs ht hm hx hb;go_enter Tryz.func43,Tryz.ntmps43;go_upto_region 1 with(fail);generalize w.alloc (.cells #[.string en,.string mc,.string hd] 40)=w1 at*;have n9:Below w1.heap.size w1 w1.drew/\w1.drew.cell? ⟨w.heap.size,1,none⟩=some (.string mc):=⟨(aB _ _).drew,cR⟩;clear cR
 go_region_held3 (λ w'=>Below w1.heap.size w1 w'/\w'.cell? ⟨w.heap.size,1,none⟩=some (.string mc)) (first|exact n9|assumption|(with_reducible exact Sj (xP _ _) (by assumption)))
  (first
   |(go_at_call 87;with_reducible refine(HF.out _).mono ?_;rintro e w3 ⟨rfl,aO⟩;have hX:=Sj aO (by assumption))
   |(go_at_call 60;with_reducible refine(HT.out _).mono ?_;rintro e w4 ⟨rfl,cu⟩;have hY:=Sj cu hX))
 go_wp2_with fail;go_ret;exact⟨rfl,bl HB.out hY.1⟩
