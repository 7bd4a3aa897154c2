import Derived.Test.YtajokjbmpjjoiaaGreatDoorP43
import Derived.Test.YtajokjbmpjjoiaaGreatDoorP44
import Derived.Test.YtajokjbmpjjoiaaGreatDoorP45
set_option maxRecDepth 20000
set_option maxHeartbeats 0
set_option linter.unusedSimpArgs false
set_option linter.unusedVariables false
namespace Go.Proofs.YtajokjbmpjjoiaaGreatDoor
section
open Go.RowKit Go.Lib
def totF:List Fl->Nat
 |[]=>0
 |x::l=>x.1.size+x.2.size+totF l
theorem totF_app (l m:List Fl):totF (l++m)=totF l+totF m:=by
 induction l with
 |nil=>simp[totF]
 |cons x l ih=>simp only[gU,totF,ih];omega
theorem totF_step {l:List Fl}{i:Nat}{x:Fl}(h:l[i]? =some x):totF (l.take (i+1))=totF (l.take i)+x.1.size+x.2.size:=by
 rw[eu,h,totF_app];show totF (l.take i)+totF [x]=_;simp only[totF];omega
theorem totF_mem {l:List Fl}{x:Fl}(h:x∈l):x.1.size+x.2.size<=totF l:=by
 induction l with
 |nil=>cases h
 |cons y l ih=>
  rcases eW.1 h with rfl|h
  ·simp only[totF];omega
  ·have:=ih h;simp only[totF];omega
theorem files19_any (l:List Fl)(A:Option Addr)(n c:Nat)(hn:l.length=n)(hc:n<=c)(w:World)(hr:Rd w A (fl l)):
 Calls Tryz.prog 4 #[.slice A n c] w λ e w'=>∃k,k<=n/\k<=70/\totF (l.take k)<=2500/\e= .returned (.slice A k c)/\Below w.heap.size w w':=by
 have HF:=ae (ai3 l A n c hn hc w hr);have Hn:=ae hn;have HR:=ae hr;clear hn hr;go_enter Tryz.func4,Tryz.ntmps4;go_wp2_with fail;(with_reducible refine HF.out.mono ?_);rintro e w1 ⟨k,hk,jW,rfl,au⟩;have j5:=ae jW;have iu:=ae (HR.out.below au);have cD:=ae au;have asZ:k<=70:=by have:=jW.1;rw[ba,Hn.out]at this;omega
 clear au HR HF jW;go_wp2_with fail;go_loopw [3,4] (λ vs vi wr=>∃(s i:Nat),vs= .int .i64 s/\vi= .int .i64 i/\s<=2500/\i<=k/\Hid (totF (l.take i)=s/\Rd wr A (fl l)/\Below w.heap.size w wr)) (λ _ vi _=>k-vnat vi)
 case atStart=>exact⟨0,0,rfl,rfl,aa,aa,ae ⟨rfl,iu.out,cD.out⟩⟩
 case round=>
  clear iu cD;obtain⟨s,i,rfl,rfl,hs,hi,HX⟩:=hrel;by_cases ao:(i:Int)<(k:Int)
  ·have cP:i<l.length:=by rw[Hn.out];omega
   obtain⟨x,hx⟩:∃x,l[i]? =some x:=⟨_,aZ cP⟩;obtain⟨b,o,rfl,q0,q1⟩:=HX.out.2.1.file hx;obtain⟨xp,xd⟩:=x;have eB:=j5.out.2 (xp,xd) (du (show(l.take k)[i]? =some (xp,xd)by rw[mL,if_pos aa];exact hx));have xr:xp.size<=3000000:=eB.1;have Ql:xd.size<=3000000:=eB.2;have cm:=ae (show totF (l.take (i+1))=s+xp.size+xd.size by rw[totF_step hx,HX.out.1]);have Ed:=ae HX.out.2;have as0:=ae HX.out.1;have w1:IntKind.i64.wrap ((s:Int)+(xp.size:Int))=(s:Int)+(xp.size:Int):=by rw[aE];omega
   have w2:IntKind.i64.wrap ((s:Int)+(xp.size:Int)+(xd.size:Int))=(s:Int)+(xp.size:Int)+(xd.size:Int):=by rw[aE];omega
   clear hx cP eB HX;have k0:(o+(i*2+1):Nat)=o+i*2+1:=aa;rw[k0]at q1;clear k0;by_cases hbig:(2500:Int)<(s:Int)+(xp.size:Int)+(xd.size:Int)
   ·go_wp2_with fail;go_quiet (fail);go_wp2_with fail;go_ret;exact⟨i,aa,aa,by rw[as0.out];omega,rfl,lM Ed.out.2 _⟩
   ·go_wp2_with fail;go_quiet (fail);go_wp2_with fail;go_roundw
    case rel=>exact⟨s+xp.size+xd.size,i+1,by first|rfl|go_num|(congr 1;omega),by first|rfl|go_num,aa,aa,ae ⟨cm.out,Ed.out.1,lM Ed.out.2 _⟩⟩
    case measure=>simp[vnat];omega
  ·obtain rfl:i=k:=aa;have Ed:=ae HX.out;clear HX;go_wp2_with fail;go_ret;exact⟨i,aa,aa,by rw[Ed.out.1];omega,rfl,Ed.out.2.2⟩
theorem el_byteL:El Tryz.prog 54 5 1 1:=El.kg (z:=.int .u8 0) Tryz.underlying54 ah aA (by rfl)
theorem info_byteL:(Tryz.prog.info? 5).map (λ i=>(i.zero,i.size,i.bytes))=some (some (.int .u8 0),1,1):=ah
theorem OwnB.shapeL {w:World}{base:Nat}{e:TypeId}{v:Value}{l:List UInt8}(h:OwnB w base e v l){n:Nat}(hn:l.length=n):∃g cap,v= .slice (some ⟨g,0,none⟩) n cap/\n<=cap/\cap<=maxLen:=by
 obtain⟨g,cap,_,_,h1,_,_,_,h5,h6,_⟩:=h;rw[hn]at h1 h5;exact⟨g,cap,h1,h5,h6⟩
def lenSl:Value->Nat
 | .slice _ n _=>n
 |_=>0
theorem lenSl_slice (p:Option Addr)(n c:Nat):lenSl (.slice p n c)=n:=rfl
def SaltEnd (w:World)(e:Ending)(w':World):Prop:=∃t:ByteArray,t.size=16/\e= .returned (.string t)/\Below w.heap.size w w'
theorem salt_any (s:ByteArray)(hs:s.size<=9223372036854775807)(w:World):Calls Tryz.prog 5 #[.string s] w (SaltEnd w):=by
 have fT:=Go.Lib.run_convert_string_bytes (P:=Tryz.prog) w 9 54 5 s Tryz.underlying9 Tryz.underlying54 Tryz.underlying5;have hO:=OwnB.conv w 5 s (by unfold maxLen;omega)
 have gZ:=Go.Lib.bytesWorld_below w 5 s;obtain⟨cp,xO⟩:∃cp,grownCap w s.size 0 5=cp:=⟨_,rfl⟩;rw[xO]at fT hO;generalize Go.Lib.bytesWorld w 5 s=w1 at*;obtain⟨g0,awz,vB,cR,bT⟩:=hO.shapeL (aD s);have HC:=ae (af (show s.size<=cp by cases vB;exact cR) (show cp<=maxLen by cases vB;exact bT));have HO:=ae hO;have HB:=ae gZ;clear hO gZ xO vB cR bT;go_enter Tryz.func5,Tryz.ntmps5;go_wp2_with fail;go_loopw [3] (λ v wr=>∃(n g cap:Nat),v= .slice (some ⟨g,0,none⟩) n cap/\n<=cap/\n<=9223372036854775807/\Hid (∃l:List UInt8,l.length=n/\OwnB wr w.heap.size 5 v l)/\Hid (Below w.heap.size w wr)) (λ v _=>16-lenSl v)
 case atStart=>exact⟨s.size,w.heap.size,cp,rfl,HC.out.1,hs,ae ⟨s.toList,aD s,HO.out⟩,HB⟩
 case round=>
  obtain⟨n,g,cap,rfl,hnc,fk,HW,bG⟩:=hrel;clear fT;by_cases ao:(n:Int)<16
  ·have aG:=bG.out.size;have j3:=ae aG;have arR:(n:Int)%256=(n:Int):=aa;obtain⟨l,hl,hW⟩:=HW.out;have HL:=ae hl;have as1:=ae hW;clear aG hl hW HW;go_wp2_with (at_builtin;go_loud (refine ao4 (w:=wr) rfl (.tmp 9) (.tmp 13) 54 rfl w.heap.size 5 el_byteL info_byteL (.slice (some ⟨g,0,none⟩) n cap) l rfl as1.out (UInt8.ofNat n) (n:Int) (by rw[yb];omega) rfl (by rw[HL.out];omega) j3.out ?_);intro v2 w2 Gg aC;obtain⟨g2,as2,fN,q1,q2⟩:=Gg.shapeL (n:=n+1) (by rw[ag,HL.out];rfl);subst fN;have HQ:=ae q1;have mr:=ae Gg;have dm:=ae (bG.out.trans aC);clear Gg aC q1 q2);go_roundw
   case rel=>exact⟨n+1,g2,as2,rfl,HQ.out,aa,ae ⟨l++[UInt8.ofNat n],by rw[ag,HL.out];rfl,mr.out⟩,dm⟩
   case measure=>rw[lenSl_slice,lenSl_slice];omega
  ·obtain⟨l,hl,hW⟩:=HW.out;subst hl;obtain⟨g',Ia,as3,_,_,_,_,eT⟩:=hW.cells
   cases as3
   have wT:(convert 54 9 (.slice (some ⟨g,0,none⟩) 16 cap)).run Tryz.prog wr= .ok (.string (av (l.take 16))) wr:=by
    refine yn wr _ _ 5 _ cap (l.take 16) 16 (by rw[ba];omega) Tryz.underlying54 Tryz.underlying5 Tryz.underlying9 λ j u hj=>eT j u ?_;unfold aJ;rw[eH]at hj⊢;rw[mL]at hj;split at hj
    ·exact hj
    ·cases hj
   obtain⟨t,ht⟩:∃t,av (l.take 16)=t:=⟨_,rfl⟩;have HT:=ae (show t.size=16 by rw[<-ht,cV,ba];omega);rw[ht]at wT;have kB:(16:Int)<=(cap:Int):=aa;have awA:(16:Int)<=(l.length:Int):=aa;clear hW eT ht;go_wp2_with fail;go_ret;exact⟨t,HT.out,rfl,bG.out⟩
theorem U0:∀l:List Fl,(ny l).length<=totF l+18*l.length
 |[]=>by simp[ny]
 |x::l=>by
  have h2:=U0 l;have h3:=NX x.1;have h4:=NX x.2;unfold ny at h2⊢;simp only[wJ,ag,totF,aU];omega
theorem as4 {l m:List Fl}(h:l.Perm m):totF l=totF m:=by
 induction h with
 |nil=>rfl
 |cons x _ ih=>simp only[totF,ih]
 |swap x y l=>simp only[totF];omega
 |trans _ _ h1 h2=>exact h1.trans h2
theorem afv {m:List Fl}(h:iW m=0):1<=(dp m).size:=by
 unfold dp;rw[if_pos h,cV];unfold uM;rw[ag];have:=agM (iE (m.length:Int));omega
theorem afw {d:Int}{t:ByteArray}{S:List UInt8}{raw:Nat}{RT TG:ByteArray}(h1:1<=d)(h2:d<=256)(h3:t.size=16)(h4:RT.size=32)(h5:TG.size=32)(h6:1<=S.length)(h7:S.length<=49152)(h8:1<=raw)(h9:raw<=40000):
 fU d t (cM S:Nat) (S.length:Nat) (raw:Nat) RT TG=true:=fF (by unfold cM;omega)
theorem OQ {l:List Fl}(h:totF l<=2500):∀x∈l,x.1.size<=100000000/\x.2.size<=100000000:=λ x hx=>by
 have:=totF_mem hx;omega
structure rK (us:List (List Bool))(F:List UInt8)(most:Nat)(C:Nat->Cs)(G b i j:Nat)(r:Option Nat)(w9 wr:World):Prop where
 st:Stood us i j
 rd:x8 us F most C j (192*i) (C j).out.length wr b r
 fr:Below G w9 wr
 lt:G<=b/\G<=w9.heap.size
 row:∀k,r=some k->G<=k
theorem rK.below {us:List (List Bool)}{F:List UInt8}{most:Nat}{C:Nat->Cs}{G b i j:Nat}{r:Option Nat}{w9 wr w':World}(h:rK us F most C G b i j r w9 wr)(hb:Below wr.heap.size wr w'):rK us F most C G b i j r w9 w':=
 ⟨h.st,RQ.below h.rd hb,h.fr.trans (hb.mono (b_ h.lt.2 h.fr.size)),h.lt,h.row⟩
theorem rK.as5 {us:List (List Bool)}{F:List UInt8}{most:Nat}{C:Nat->Cs}{G b i j:Nat}{r:Option Nat}{w9 wr w':World}(h:rK us F most C G b i j r w9 wr){e:Ending}(hE:UH us F most C j (192*i+192) (C j).out.length wr b r e w'):
 ∃(j':Nat) (r':Option Nat),j<=j'/\j'<=us.length/\e= .returned (.tuple #[.string (av (((C j').out.drop (C j).out.length).map UInt8.ofNat)),.int .i64 0])/\rK us F most C G b (i+1) j' r' w9 w':=by
 obtain⟨j',r',h1,h2,h3,h4,h5,h6,h7,h8⟩:=hE;refine⟨j',r',h1,h2,h3,⟨⟨h2,aa,?_⟩,by rw[show 192*(i+1)=192*i+192 by omega];exact h4,h.fr.trans (h7.below (b_ h.lt.2 h.fr.size) λ k hk=>?_),h.lt,λ k hk=>?_⟩⟩
 ·rcases h6 with h6|h6
  ·exact .inl h6
  ·exact .inr (.inl aa)
 ·rcases hk with rfl|hk
  ·exact h.lt.1
  ·exact h.row k hk.symm
 ·rcases h8 with h8|⟨k',h8,h9⟩
  ·exact h.row k (by rw[<-h8];exact hk)
  ·rw[h8]at hk
   cases hk
   exact b_ h.lt.2 (b_ h.fr.size h9)
theorem rK.start {us:List (List Bool)}{F:List UInt8}{most:Nat}{C:Nat->Cs}{G b:Nat}{w9 wr:World}(h0:C 0=s3)(hn:1<=us.length)(hG:w9.heap.size=G)(hb:G<=b)(hr:RQ wr b none (SG most))(hf:Below w9.heap.size w9 wr):rK us F most C G b 0 0 none w9 wr:=by
 refine⟨⟨gV _,gV _,.inr (.inr ⟨rfl,rfl⟩)⟩,?_,hG▸hf,⟨hb,Nat.le_of_eq hG.symm⟩,λ k h=>by cases h⟩;unfold x8;have hp:bX us 0=0:=rfl;have N9:kX us F 0 (192*0)=⟨#[]⟩:=by unfold kX;rw[hp];rfl
 rw[h0,ct aa,hp,N9];exact hr
theorem rK.cells {us:List (List Bool)}{F:List UInt8}{most:Nat}{C:Nat->Cs}{G b i j:Nat}{r:Option Nat}{w9 wr:World}(h:rK us F most C G b i j r w9 wr){a:Addr}{v:Value}(hc:w9.cell? a=some v)(ha:a.block<G):wr.cell? a=some v:=(h.fr.cell ha).trans hc
theorem afx {wr w w1:World}(hb:Below w.heap.size w w1){a0 a1 a2 a3 a4:Addr}{v0 v1 v2 v3 v4:Value}(h:Below wr.heap.size wr w/\w.cell? a0=some v0/\w.cell? a1=some v1/\w.cell? a2=some v2/\w.cell? a3=some v3/\w.cell? a4=some v4):Below wr.heap.size wr w1/\w1.cell? a0=some v0/\w1.cell? a1=some v1/\w1.cell? a2=some v2/\w1.cell? a3=some v3/\w1.cell? a4=some v4:=by
 have k:∀{a:Addr} {v:Value},w.cell? a=some v->w1.cell? a=some v:=λ h=>(hb.cell (cQ w _ h)).trans h;exact⟨bl h.1 hb,k h.2.1,k h.2.2.1,k h.2.2.2.1,k h.2.2.2.2.1,k h.2.2.2.2.2⟩
def OT (w:World)(e:Ending)(w':World):Prop:=e= .returned (.bool true)/\Below w.heap.size w w'
set_option maxRecDepth 100000 in
theorem as6 (afy:∀w',Calls Tryz.prog 8 #[] w' (OT w')) (secret bS:ByteArray) (id:Int) (A:Option Addr) (n c:Nat) (l:List Fl) (w:World) (xU:secret.size<=9223372036854775807) (pg:bS.size<=9223372036854775807) (hn:l.length=n) (hc:n<=c) (hr:Rd w A (fl l)):
 Calls Tryz.prog 3 #[.string secret,.string bS,.int .i64 id,.slice A n c] w (OT w):=by
 have afz:=ae afy;have zt:=ae (files19_any l A n c hn hc w hr);have Ut:=ae (λ w'=>salt_any bS pg w');have HR:=ae hr;have HN:=ae hn;have hand:bits .and .i64 id 255=id%256:=af4 id;clear afy pg hr hn;go_enter Tryz.func3,Tryz.ntmps3;go_wp2_with fail;(with_reducible refine zt.out.mono ?_);rintro e w1 ⟨k,hk,asZ,afA,rfl,au⟩;have iu:=ae ((HR.out.ij k).below au);have cD:=ae au;have HM:=ae (show(l.take k).length=k by rw[ba,HN.out];omega);have sD:k<=c:=aa;generalize l.take k=m at*;have Kx:=ae afA;clear au zt HR HN afA hk
 obtain⟨x,afB,Bw⟩:∃x:ByteArray,x.size<=100/\((100<(secret.size:Int)/\(100:Int)<=(secret.size:Int)/\secret.extract 0 100=x)∨(¬100<(secret.size:Int)/\x=secret)):=by
  by_cases h:100<secret.size
  ·exact⟨secret.extract 0 100,by rw[<-aD,rW,ba];omega,.inl ⟨aa,aa,rfl⟩⟩
  ·exact⟨secret,aa,.inr ⟨aa,rfl⟩⟩
 have HX:=ae afB;clear afB xU;rcases Bw with⟨h1,awB,h2⟩|⟨h1,rfl⟩
 all_goals
  go_wp2_with fail
  (with_reducible refine(Ut.out w1).mono ?_)
  rintro e w2 ⟨t,ht,rfl,aC⟩
  have iN:=ae (iu.out.below aC)
  have bG:=ae (bl cD.out aC)
  have HT:=ae ht
  obtain⟨d,hd,jT,fj⟩:∃d:Int,id%256+1=d/\1<=d/\d<=256:=⟨_,rfl,aa,aa⟩
  have awC:1+id%256=d:=aa
  clear ht aC iu cD
  by_cases eR:iW m=0
  ·have U5:=ae eR
   have tA:(dp m).size<=40000:=by
    unfold dp;rw[if_pos eR,cV];unfold uM;rw[ag];have h3:=GR (iE (m.length:Int));have h4:=U0 (ck m);have h5:=(qL m).2.2;have h6:=HM.out;have h7:=Kx.out;have h8:totF (ck m)=totF m:=as4 (S6 m);omega
   have rH:=ae (ae4 m A k c x t d (by have:=HX.out;omega) HT.out jT aa eR tA HM.out sD aa (OQ Kx.out) w2 iN.out);have Bd:=ae tA;clear eR tA;go_wp2_with fail;(with_reducible refine rH.out.mono ?_);rintro e w3 ⟨us,lJ,cq,A3,c3,rfl,mR,as7,dL,aO,_⟩;have tA:=Bd.out;obtain⟨CC,vL,OU,OV,OW⟩:=afs lJ (dp m).size (ai _) aa (oU (aX us.flatten)) (by rw[PR];unfold cM;omega) (aft us);have kv:1<=(aX us.flatten).length:=by have:=OP vL.pos vL.ne;rw[Du];omega
   have bq:fU d t (cM (aX us.flatten):Nat) ((aX us.flatten).length:Nat) ((dp m).size:Nat) (mJ (j_ (iY x t) (iZ x t) (aX us.flatten))) (wD x t d (aX us.flatten) ((dp m).size:Nat))=true:=
    afw jT fj HT.out (Tb _) (by unfold wD;exact aa3 _ _ _ _ _ _ _) kv aa (afv U5.out) tA
   have s4:=ae (af vL (af OU (af OV OW)));have xJ:=ae (show(dp m).toList=uM m by unfold dp;rw[if_pos U5.out,cn]);have as8:=ae (λ i (h:i<cM (aX us.flatten))=>af (Uo (iY x t) (iZ x t) (aX us.flatten) i h) (λ w' (s:ByteArray) (hs:s.toList=nA (iY x t).toList (iZ x t).toList i (iH (aX us.flatten) i))=>ar0 (iY x t) (iZ x t) (ph x) s i (iH (aX us.flatten) i) (Sd x t) (by rw[Se];omega) (by have:cM (aX us.flatten)<=209:=(by unfold cM;omega);omega) (G7 _ _) hs w'));have Eh:=ae (λ w'=>Sf x t (by have:=HX.out;omega) (by rw[HT.out];omega) w');unfold Ny at Eh;have hN:cM (aX us.flatten)<=209:=by unfold cM;omega
   have aG:=Up (iY x t) (iZ x t) (aX us.flatten);have ei:=OJ (iY x t) (iZ x t) (aX us.flatten);have Ku:=ae (λ w' (h:Rd w' A3 (cO (j_ (iY x t) (iZ x t) (aX us.flatten))))=>asl d t ((aX us.flatten).length:Nat) ((dp m).size:Nat) _ _ _ A3 (cM (aX us.flatten)) c3 bq ei aa mR aG w' h);have NL:=ae (λ w'=>asp _ d t ((aX us.flatten).length:Nat) ((dp m).size:Nat) _ _ _ (cM (aX us.flatten)) bq ei aa aG rfl w');have j5:=ae (λ w' A4 d4 (h:Rd w' A3 (cO (j_ (iY x t) (iZ x t) (aX us.flatten)))) (h4:Rd w' A4 (cO (j_ (iY x t) (iZ x t) (aX us.flatten))))=>ap8 d t (cM (aX us.flatten):Nat) ((aX us.flatten).length:Nat) ((dp m).size:Nat) (mJ (j_ (iY x t) (iZ x t) (aX us.flatten))) (wD x t d (aX us.flatten) ((dp m).size:Nat)) _ A3 A4 (cM (aX us.flatten)) c3 d4 ei aa w' h h4);unfold wk at Ku j5⊢;have mA:=ae dL;have dm:=ae (bl bG.out aO);have sB:=ae (iN.out.below aO);have jP:=ae kv;have fa:=ae ei;have awD:=ae cq;clear lJ cq vL OU OV OW kv bq ei aG dL aO rH bG iN tA;generalize wD x t d (aX us.flatten) ((dp m).size:Nat)=TG at*;generalize Gs:j_ (iY x t) (iZ x t) (aX us.flatten)=BL at*;generalize mJ BL=RT at*;generalize afC:(dp m).size=raw at*;generalize iY x t=en at*;generalize iZ x t=mc at*;generalize ph x=Gv at*;generalize afD:(aX us.flatten).length=ls at*;generalize afE:cM (aX us.flatten)=N at*;have p_:=ae (af Gs (af afC (af afD afE)));clear Gs afC afD afE;generalize Kt d t (N:Nat) (ls:Nat) (raw:Nat) RT TG BL=sA at*;go_upto_region 8 with fail;have ej:=sP w3 (.cells #[.int .i64 d,.string t,.int .i64 (N:Nat),.int .i64 (ls:Nat),.int .i64 (raw:Nat),.string RT,.string TG,.slice A3 N c3] 29);have H4:=ae (af (show pk (w3.alloc (.cells #[.int .i64 d,.string t,.int .i64 (N:Nat),.int .i64 (ls:Nat),.int .i64 (raw:Nat),.string RT,.string TG,.slice A3 N c3] 29)) w3.heap.size d t (N:Nat) (ls:Nat) (raw:Nat) RT TG A3 N c3 from Bk.new w3 _ _) (af (mA.out.below ej) (af (sB.out.below ej) (bl dm.out ej))));clear ej mA sB dm;generalize w3.alloc (.cells #[.int .i64 d,.string t,.int .i64 (N:Nat),.int .i64 (ls:Nat),.int .i64 (raw:Nat),.string RT,.string TG,.slice A3 N c3] 29)=w4 at*;generalize w3.heap.size=q9 at*;obtain⟨c0,c1,c2,ya,c4,c5,c6,c7⟩:=H4.out.1.cells;go_wp2_with fail;(refine(Ku.out w4 H4.out.2.1).mono ?_);rintro e w5 ⟨rfl,bE⟩;have H5:=ae (af (show pk w5 q9 d t (N:Nat) (ls:Nat) (raw:Nat) RT TG A3 N c3 from Bk.aL H4.out.1 bE) (af (H4.out.2.1.below bE) (af (H4.out.2.2.1.below bE) (bl H4.out.2.2.2 bE))));clear bE c0 c1 c2 ya c4 c5 c6 c7 H4 Ku;go_wp2_with fail;(refine(NL.out w5).mono ?_);rintro e w6 ⟨A6,c6,rfl,FZ,awE,nU,b9⟩;unfold wk;have H6:=ae (af (show pk w6 q9 d t (N:Nat) (ls:Nat) (raw:Nat) RT TG A3 N c3 from Bk.aL H5.out.1 b9) (af (H5.out.2.1.below b9) (af (H5.out.2.2.1.below b9) (bl H5.out.2.2.2 b9))));have OE:=ae nU;clear b9 nU H5 NL;go_upto_region 10 with fail;have ej:=sP w6 (.cells #[.int .i64 d,.string t,.int .i64 (N:Nat),.int .i64 (ls:Nat),.int .i64 (raw:Nat),.string RT,.string TG,.slice A6 N c6] 29);have H7:=ae (af (af (show pk (w6.alloc (.cells #[.int .i64 d,.string t,.int .i64 (N:Nat),.int .i64 (ls:Nat),.int .i64 (raw:Nat),.string RT,.string TG,.slice A6 N c6] 29)) q9 d t (N:Nat) (ls:Nat) (raw:Nat) RT TG A3 N c3 from Bk.aL H6.out.1 ej) (show pk (w6.alloc (.cells #[.int .i64 d,.string t,.int .i64 (N:Nat),.int .i64 (ls:Nat),.int .i64 (raw:Nat),.string RT,.string TG,.slice A6 N c6] 29)) w6.heap.size d t (N:Nat) (ls:Nat) (raw:Nat) RT TG A6 N c6 from Bk.new w6 _ _)) (af (af (H6.out.2.1.below ej) (OE.out.below ej)) (af (H6.out.2.2.1.below ej) (bl H6.out.2.2.2 ej))));clear ej H6 OE;generalize w6.alloc (.cells #[.int .i64 d,.string t,.int .i64 (N:Nat),.int .i64 (ls:Nat),.int .i64 (raw:Nat),.string RT,.string TG,.slice A6 N c6] 29)=w7 at*;generalize w6.heap.size=iB at*;obtain⟨c0,c1,c2,ya,c4,c5,as9,c7⟩:=H7.out.1.1.cells;obtain⟨d0,d1,d2,d3,d4,d5,d6,d7⟩:=H7.out.1.2.cells;go_wp2_with fail;(refine(j5.out w7 A6 c6 H7.out.2.1.1 H7.out.2.1.2).mono ?_);rintro e w8 ⟨rfl,iO⟩;have H8:=ae (af (show pk w8 iB d t (N:Nat) (ls:Nat) (raw:Nat) RT TG A6 N c6 from Bk.aL H7.out.1.2 iO) (af (H7.out.2.1.2.below iO) (af (H7.out.2.2.1.below iO) (bl H7.out.2.2.2 iO))));clear iO c0 c1 c2 ya c4 c5 as9 c7 d0 d1 d2 d3 d4 d5 d6 d7 H7 j5;obtain⟨d0,d1,d2,d3,d4,d5,d6,d7⟩:=H8.out.1.cells;go_wp2_with fail;(refine(Eh.out w8).mono ?_);rintro e w9 ⟨rfl,Ce⟩;clear d0 d1 d2 d3 d4 d5 d6 d7;have ej:=sP w9 (.cells #[.string en,.string mc,.string Gv] 40);have sU:=bl Ce ej;have wE:=ae (af (show pk (w9.alloc (.cells #[.string en,.string mc,.string Gv] 40)) iB d t (N:Nat) (ls:Nat) (raw:Nat) RT TG A6 N c6 from Bk.aL H8.out.1 sU) (af (H8.out.2.1.below sU) (af (H8.out.2.2.1.below sU) (af (bl H8.out.2.2.2 sU) (Bk.new w9 40 #[.string en,.string mc,.string Gv])))));clear Ce ej sU H8 Eh;go_upto_region 13 with fail;generalize w9.alloc (.cells #[.string en,.string mc,.string Gv] 40)=qd at*;generalize w9.heap.size=tq at*;obtain⟨d0,d1,d2,d3,d4,d5,d6,d7⟩:=wE.out.1.cells;go_wp2_with fail;(refine(aoQ raw qd).mono ?_);rintro e J_ ⟨b,rfl,gz,afF,xT⟩;obtain⟨G,hG⟩:∃G,qd.heap.size=G:=⟨_,rfl⟩;have afG:Hid (rK us (oU (aX us.flatten)) raw CC G b 0 0 none qd J_):=ae (rK.start s4.out.2.2.1 s4.out.1.ne hG aa afF xT);have U6:iB<G:=by rw[<-hG];exact Bk.lt wE.out.1
   have U7:tq<G:=by rw[<-hG];exact wE.out.2.2.2.2.lt
   have HG:=ae hG;have mD:=ae (show aX us.flatten=aX us.flatten/\(oU (aX us.flatten)).length=192*N from⟨rfl,by rw[PR,p_.out.2.2.2]⟩);clear gz afF xT hG d0 d1 d2 d3 d4 d5 d6 d7;go_wp2_with fail;go_loopw [17,18] (λ TL zw wr=>∃(i j:Nat) (o:ByteArray) (r:Option Nat),TL= .string o/\zw= .int .i64 (i:Nat)/\i<=N/\o.size<=40000/\Hid (o=av ((CC j).out.map UInt8.ofNat))/\Hid (rK us (oU (aX us.flatten)) raw CC G b i j r qd wr)) (λ _ zw _=>N-vnat zw)
   case atStart=>exact⟨0,0,⟨#[]⟩,none,rfl,rfl,aa,gV _,ae (by rw[s4.out.2.2.1];rfl),afG⟩
   case round=>
    clear afG;obtain⟨wo,rfl⟩:∃wo,wo=wr:=⟨_,rfl⟩;obtain⟨i,j,o,r,rfl,rfl,hi,ho,HO,nB⟩:=hrel;have e7:=nB.out.cells (wE.out.1.cells.2.2.2.2.2.2.2) U6;by_cases ao:(i:Int)<(N:Int)
    ·obtain⟨au,afH⟩:=as8.out i aa;have fe:(cO BL)[i]? =some (.string (av (nA en.toList mc.toList i (iH (aX us.flatten) i)))):=by unfold cO;rw[eH,au];rfl
     obtain⟨bb,oo,rfl,eT⟩:=wE.out.2.1 (by intro e;rw[e]at fe;cases fe);have c0:=eT _ _ fe;have c1:=nB.out.cells c0 (by rw[<-HG.out];exact cQ qd _ c0);have afI:=ae (λ w'=>afH w' (av (nA en.toList mc.toList i (iH (aX us.flatten) i))) (cn _));have Ci:=ae (asY b r _ (show(qs (CC j) (kX us (oU (aX us.flatten)) j (192*i)) (bX us j%8) (bX us j/8) raw (CC j).out.length (decide (j=us.length))).done=false from ct (nB.out.st.asU s4.out.1.pos s4.out.1.ne (by rw[p_.out.2.2.2];omega))) wo nB.out.rd);have j7:(av (iH (aX us.flatten) i)).size=192:=by rw[cV,G7]
     have U8:=ae (λ w' (h:rK us (oU (aX us.flatten)) raw CC G b i j r qd w')=>asx us (oU (aX us.flatten)) raw CC s4.out.1 j (192*i) (CC j).out.length b r (av (iH (aX us.flatten) i)) (asV _ i (by rw[p_.out.2.2.2];omega)) (by rw[j7,mD.out.2];omega) h.st.1 h.st.2.1 (ai _) w' h.rd);rw[j7]at U8;obtain⟨k0,k1,k2⟩:=OH wE.out.2.2.2.2;have k0:=nB.out.cells k0 U7;have k1:=nB.out.cells k1 U7;have k2:=nB.out.cells k2 U7;generalize av (nA en.toList mc.toList i (iH (aX us.flatten) i))=y at*;generalize av (iH (aX us.flatten) i)=z at*;clear au afH fe eT c0 j7;go_wp2_with fail;(refine Ci.out.mono ?_);rintro e nz ⟨rfl,zE⟩;have afJ:=ae (nB.out.below zE);have bT:=afx zE ⟨aB _ _,k0,k1,k2,e7,c1⟩;clear k0 k1 k2 e7 c1 zE nB Ci;go_upto_region 19 with fail;have n9:Below nz.heap.size nz nz.drew/\nz.drew.cell? ⟨tq,0,none⟩=some (.string en)/\nz.drew.cell? ⟨tq,1,none⟩=some (.string mc)/\nz.drew.cell? ⟨tq,2,none⟩=some (.string Gv)/\nz.drew.cell? ⟨iB,7,none⟩=some (.slice (some ⟨bb,oo,none⟩) N c6)/\nz.drew.cell? ⟨bb,oo+i,none⟩=some (.string y):=⟨(aB _ _).drew,bT.2⟩;clear bT
     go_region_held3 (λ w'=>Below nz.heap.size nz w'/\w'.cell? ⟨tq,0,none⟩=some (.string en)/\w'.cell? ⟨tq,1,none⟩=some (.string mc)/\w'.cell? ⟨tq,2,none⟩=some (.string Gv)/\w'.cell? ⟨iB,7,none⟩=some (.slice (some ⟨bb,oo,none⟩) N c6)/\w'.cell? ⟨bb,oo+i,none⟩=some (.string y)) (first|exact n9|assumption)
      (first|(go_at_call 15;with_reducible refine(afI.out _).mono ?_;rintro e Ka ⟨rfl,Ek⟩;have hX:=afx Ek (by assumption)))
     have U9:=ae (afJ.out.below hX.1);clear hX n9 afJ afI;go_wp2_with fail;(refine(U8.out _ U9.out).mono ?_);intro e Uc afK;obtain⟨j',r',acT,sF,rfl,afL⟩:=U9.out.as5 afK;have ata:=ae afL;have hlen:=(s4.out.1.out j' sF).1;have HJ:=ae (af (asW (s4.out.2.2.2 j) (s4.out.2.2.2 j') (s4.out.1.grow j j' acT sF)) hlen);obtain⟨q,hq⟩:∃q,av (((CC j').out.drop (CC j).out.length).map UInt8.ofNat)=q:=⟨_,rfl⟩;have Fc:q.size<=40000:=by rw[<-hq,cV,eG,cw];have:=Bd.out;omega
     have D7:Hid (o++q=av ((CC j').out.map UInt8.ofNat)/\True):=ae ⟨by rw[HO.out,<-hq,KC,<-ka,HJ.out.1],trivial⟩;obtain⟨u,hu⟩:∃u,o++q=u:=⟨_,rfl⟩;rw[hu]at D7;have atb:u.size<=40000:=by rw[D7.out.1,cV,eG];have:=Bd.out;omega
     have m1:¬(9223372036854775807<o.size+q.size):=aa;simp only[hq];clear afK afL hlen hq Fc U9 U8;go_wp2_with fail;go_roundw
     case rel=>exact⟨i+1,j',u,r',rfl,by first|rfl|go_num,aa,atb,ae D7.out.1,ata⟩
     case measure=>simp[vnat];omega
    ·obtain rfl:i=N:=aa;have nT:j=us.length:=Stood.done s4.out.1.pos s4.out.1.ne (by rw[p_.out.2.2.2];exact nB.out.st);subst nT;have atc:o=dp m:=by rw[HO.out,s4.out.2.1,asX]
     subst atc;have uF:=afu us;have FG:bX us us.length=8*(bX us us.length/8)+bX us us.length%8:=aa;have U':=ahV FG aa;rw[<-UZ,p_.out.2.2.1]at U';have afM:=ae (aoR b r _ (show(qs (CC us.length) (kX us (oU (aX us.flatten)) us.length (192*i)) (bX us us.length%8) (bX us us.length/8) raw (CC us.length).out.length (decide (us.length=us.length))).done=true from fF rfl) (by show bX us us.length/8<=1000000000;have h1:=nB.out.st.2.1;omega) (by show bX us us.length%8<8;omega) wo nB.out.rd);have AG:Hid (Calls Tryz.prog 14 #[.pointer (some ⟨b,0,none⟩)] wo λ e w'=>e= .returned (.tuple #[.int .i64 (ls:Nat),.bool true])/\Below wo.heap.size wo w'):=ae (afM.out.mono λ e w' ⟨h1,h2⟩=>⟨by rw[h1];show Ending.returned (.tuple #[.int .i64 ((if 0<bX us us.length%8 then bX us us.length/8+1 else bX us us.length/8:Nat):Int),.bool true])=_;rw[U'],h2⟩);have I1:=ae (λ w'=>apX (dp m) (0,ck m) (by rw[xJ.out];exact apS U5.out) w' aa);have jJ:(ck m).length=k:=by rw[(qL m).2.2,HM.out]
     have kD:=ae jJ;have I6:(dp m).size=raw:=p_.out.2.1;generalize afN:dp m=pm at*;have ya:=nB.out.cells (wE.out.1.cells.2.2.2.1) U6;have Gw:=nB.out.cells (wE.out.1.cells.2.2.2.2.1) U6;have xA:=ae I6;have HZ:=ae (af (nB.out.fr) afN);have On:=ae (show Below w.heap.size w wo from wE.out.2.2.2.1.trans (nB.out.fr.mono (b_ wE.out.2.2.2.1.size (Nat.le_of_eq HG.out))));have sB:=ae (show Rd wo A (fl m)from wE.out.2.2.1.below (HG.out▸nB.out.fr));clear uF FG U' afM jJ I6 afN nB HO;go_wp2_with fail;(refine AG.out.mono ?_);rintro e nz ⟨rfl,zE⟩;have ya:=(zE.cell (cQ wo _ ya)).trans ya;have Gw:=(zE.cell (cQ wo _ Gw)).trans Gw;have afO:=ae (af (bl On.out zE) (sB.out.below zE));clear zE AG;go_wp2_with fail;(refine(I1.out nz).mono ?_);rintro e Ka ⟨A8,c8,rfl,atd,ate,sQ,Ek⟩;simp only[kD.out];simp only at sQ;have ya:=(Ek.cell (cQ nz _ ya)).trans ya;have Gw:=(Ek.cell (cQ nz _ Gw)).trans Gw;have U_:=ae (af (bl afO.out.1 Ek) (af (afO.out.2.below Ek) sQ));have Eb:(pm.size:Int)=(raw:Int):=by have:=xA.out;omega
     clear Ek sQ atd ate I1;go_wp2_with fail;(with_reducible refine(aph m A k c HM.out aa (OQ Kx.out) _ U_.out.2.1).mono ?_);rintro e Uc ⟨v,rfl,hO,Va⟩;obtain⟨B8,c9,rfl,_,_,afP⟩:=hO.slice HM.out;have dt:=ae (apP (ck m) (ck m) A8 B8 k k c8 c9 true (fF rfl) Uc kD.out kD.out aa (U_.out.2.2.below Va) afP);have Kr:=ae (bl U_.out.1 Va);clear hO afP Va;go_wp2_with fail;(refine dt.out.mono ?_);rintro e aeu ⟨rfl,afQ⟩;have atf:=ae (bl Kr.out afQ);clear afQ;go_wp2_with fail;(with_reducible refine(afz.out aeu).mono ?_);rintro e awF ⟨rfl,afR⟩;have atg:=ae (bl atf.out afR);clear afR;go_wp2_with fail;go_ret;exact⟨rfl,atg.out⟩
  ·have F4:=ae (λ w' (h:Rd w' A (fl m))=>ai6 m A k c (iW m) rfl HM.out aa (OQ Kx.out) w' h);have rH:=ae (asd m A k c (iW m) x t d HT.out jT aa rfl eR HM.out sD aa (OQ Kx.out) w2 iN.out);unfold rI at rH;generalize iW m=ke at*;have awG:(ke !=0)=true:=by simpa using eR
   clear eR;go_wp2_with fail;(with_reducible refine rH.out.mono ?_);rintro e w3 ⟨rfl,aO⟩;have mA:=ae (iN.out.below ((aO.trans ((xP w3 (.cells #[.int .i64 0,.string ⟨#[]⟩,.int .i64 0,.int .i64 0,.int .i64 0,.string ⟨#[]⟩,.string ⟨#[]⟩,.slice none 0 0] 29)).mono aO.size))));have dm:=ae (bl bG.out ((aO.trans ((xP w3 (.cells #[.int .i64 0,.string ⟨#[]⟩,.int .i64 0,.int .i64 0,.int .i64 0,.string ⟨#[]⟩,.string ⟨#[]⟩,.slice none 0 0] 29)).mono aO.size))));clear aO;go_wp2_with fail;(with_reducible refine(F4.out _ mA.out).mono ?_);rintro e w4 ⟨rfl,cu⟩;have cU:=ae (bl dm.out cu);clear cu;go_wp2_with fail;(with_reducible refine(afz.out w4).mono ?_);rintro e w5 ⟨rfl,bE⟩;have mq:=ae (bl cU.out bE);clear bE;go_wp2_with fail;go_ret;exact⟨rfl,mq.out⟩
