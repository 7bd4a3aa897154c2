import Derived.Test.YtajokjbmpjjoiaaGreatDoorP24
import Derived.Laws.BytesArg
set_option maxRecDepth 20000
set_option maxHeartbeats 0
set_option linter.unusedSimpArgs false
set_option linter.unusedVariables false
namespace Go.Proofs.YtajokjbmpjjoiaaGreatDoor
section
open Go.RowKit
theorem ass {P:Program}{w:World}{A:Option Addr}{n c:Nat}{l:List UInt8}(hn:n=l.length)(hr:Rd w A (aJ l))(src dst e:TypeId)(hs:P.underlying src=some (.slice e))(he:P.underlying e=some (.int .u8))(hd:P.underlying dst=some .string):
 (convert src dst (.slice A n c)).run P w= .ok (.string (av l)) w:=by
 cases A with
 |none=>
  have:l=[]:=by
   cases l with
   |nil=>rfl
   |cons x l=>obtain⟨b,o,e,_⟩:=hr (by simp[aJ]);cases e
  subst this;subst hn;exact run_convert_bytes_nil w src e hs he _ _ dst hd
 |some a=>
  refine yn w src dst e a c l n hn hs he hd λ j u hj=>?_;obtain⟨b,o,e2,hc⟩:=hr (by intro h;unfold aJ at h;rw[h]at hj;simp at hj)
  cases e2
  rw[lD];exact hc j u hj
theorem ast {α:Type}(X:List α)(n:Nat):X.take n=X.take (X.take n).length:=by
 rw[ba];rcases Nat.le_total n X.length with h|h
 ·rw[lB h]
 ·rw[Nat.min_eq_right h,bQ h,bQ (ai _)]
theorem asu {us:List (List Bool)}{F:List UInt8}{i:Nat}{u T:List Bool}(hF:bH F=us.flatten++T)(hu:us[i]? =some u)(m:Nat)(hm:m<=F.length):
 ∃pre,pre.length=bX us i%8/\fu (pre++u) (bH ((F.take m).drop (bX us i/8))) (pre++u) 0:=by
 have ao:=(fX.1 hu).1;have hd:us.drop i=u::us.drop (i+1):=by rw[qj ao,(fX.1 hu).2]
 have e:us.flatten=(us.take i).flatten++(u++(us.drop (i+1)).flatten):=by
  conv=>lhs;rw[<-gI i us,Cv,hd,fY]
 have lJ:((us.take i).flatten).length=bX us i:=rfl;refine⟨(us.take i).flatten.drop (8*(bX us i/8)),by rw[cw,lJ];omega,fu.start (F:=(us.drop (i+1)).flatten++T) ?_⟩
 have h1:bH ((F.take m).drop (bX us i/8))=((bH F).drop (8*(bX us i/8))).take (8*m-8*(bX us i/8)):=by
  unfold bH;rw[List.map_drop,List.map_take];rcases Nat.le_total (bX us i/8) m with h|h
  ·rw[WV _ _ (by rw[ba,eG];omega),WU,List.drop_take]
  ·rw[nD (by rw[ba];omega),show 8*m-8*(bX us i/8)=0 by omega,mM];rfl
 rw[h1,hF,e,aN,zH (by rw[lJ];omega),aN,<-aN _ u];exact ast _ _
theorem asv (U todo:List Bool)(v m k p g:Nat)(s:ByteArray)(hs:s.size<=1000000000)(hm:m<=62)(hv:v<2^m)(w:World)(hP:b8 w p g s k false)(hA:fu U (bH s.toList) (aH v m++todo) k)(hk:k+m<=8*s.size):
 Calls Tryz.prog 47 #[.pointer (some ⟨p,0,none⟩),.int .i64 (m:Nat)] w λ e w'=>e= .returned (.int .i64 (v:Nat))/\b8 w' p g s (k+m) false/\fu U (bH s.toList) todo (k+m)/\eV w w' p g:=by
 have HP:=ae hP;have cS:=ae (show(bH s.toList).length=8*s.size by rw[pP,aD]);have c0:=Bk.cell_ hP.pa 0 _ rfl;have c1:=Bk.cell_ hP.pa 1 _ rfl;have f1:=Bk.frozen hP.pa 1;have vA:=hP.ne;obtain⟨hn,AZ⟩:=hA.num hv (by rw[cS.out];exact hk);have HN:=ae (af hn AZ);have HK:=ae hk;have sK:=ae vA;clear hP hA hn AZ hv hk vA;go_enter Tryz.func47,Tryz.ntmps47;go_wp2_with (first|(go_at_call 90;go_must (refine(dM p g false true rfl _ HP.out.pa).mono ?_);rintro e w1 ⟨rfl,rfl⟩)|(go_at_call 91;go_must (refine(Rq g s k m _ HP.out.rr hs hm HK.out).mono ?_);rintro e w1 ⟨rfl,gN,im⟩;rw[HN.out.1];have cN:pV w1 p g false:=(im.block p (Bk.lt HP.out.pa) (by simp;exact sK.out)).trans HP.out.pa;have d1:=Bk.cell_ cN 1 _ rfl;have e1:=Bk.frozen cN 1));go_ret;refine⟨rfl,⟨?_,Bk.far gN (by simp;exact λ e=>sK.out e.symm) _,HK.out⟩,HN.out.2,(eV.sJ im).trans (eV.Dy (aY w1 p 1 _))⟩;exact Bk.aP cN 1 (.bool false)
structure Cs where
 out:List Nat
 inside:Bool
 last:Bool
 tb:Option (List Nat×List Nat)
 fresh:Bool
def qs (C:Cs)(buf:ByteArray)(bit used most told:Nat)(done:Bool):Qs:=⟨buf,bit,used,C.out,most,told,C.inside,C.last,done,C.tb,C.fresh⟩
structure UG (us:List (List Bool))(F:List UInt8)(most:Nat)(C:Nat->Cs):Prop where
 full:∃T,bH F=us.flatten++T
 step:∀i u,us[i]? =some u->∀buf told,zn u (qs (C i) buf (bX us i%8) (bX us i/8) most told false) (qs (C (i+1)) buf (bX us i%8) (bX us i/8) most told false)
 pos:∀u∈us,1<=u.length
 fin:∀i,i<=us.length->((C i).last&&!(C i).inside)=decide (i=us.length)
 ne:1<=us.length
 small:F.length<=100000000
 mo:most<=1000000000
 out:∀i,i<=us.length->(C i).out.length<=most/\∀x∈(C i).out,x<256
 grow:∀i j,i<=j->j<=us.length->(C i).out.length<=(C j).out.length
def kX (us:List (List Bool))(F:List UInt8)(i m:Nat):ByteArray:=av ((F.take m).drop (bX us i/8))
def x8 (us:List (List Bool))(F:List UInt8)(most:Nat)(C:Nat->Cs)(i m told:Nat)(w:World)(b:Nat)(r:Option Nat):Prop:=
 RQ w b r (qs (C i) (kX us F i m) (bX us i%8) (bX us i/8) most told (decide (i=us.length)))
def UH (us:List (List Bool))(F:List UInt8)(most:Nat)(C:Nat->Cs)(i m told:Nat)(w:World)(b:Nat)(r:Option Nat)(e:Ending)(w':World):Prop:=
 ∃(i':Nat) (r':Option Nat),i<=i'/\i'<=us.length/\e= .returned (.tuple #[.string (av (((C i').out.drop told).map UInt8.ofNat)),.int .i64 0])/\x8 us F most C i' m (C i').out.length w' b r'/\bX us i'<=8*m/\(i'=us.length∨8*m<bX us (i'+1))/\KX (λ k=>k=b∨some k=r) w w'/\(r'=r∨∃k,r'=some k/\w.heap.size<=k)
def UI (w:World)(b:Nat):Nat:=match w.cell? ⟨b,2,none⟩,w.cell? ⟨b,1,none⟩with
 |some (.int _ u),some (.int _ t)=>8*u.toNat+t.toNat
 |_,_=>0
theorem afd {us:List (List Bool)}{F:List UInt8}{most:Nat}{C:Nat->Cs}{i m told:Nat}{w:World}{b:Nat}{r:Option Nat}(h:x8 us F most C i m told w b r):UI w b=bX us i:=by
 obtain⟨lv,dv,⟨v,hB,_⟩,_⟩:=h;have c1:=hB.cell_ 1 (.int .i64 ((bX us i%8:Nat):Int)) rfl;have c2:=hB.cell_ 2 (.int .i64 ((bX us i/8:Nat):Int)) rfl;unfold UI;rw[c1,c2];show 8*(((bX us i/8:Nat):Int)).toNat+(((bX us i%8:Nat):Int)).toNat=_;rw[Int.toNat_natCast,Int.toNat_natCast];omega
theorem asw {us:List (List Bool)}{F:List UInt8}{i m:Nat}{x:ByteArray}(hx:x.toList=(F.drop m).take x.size)(hm:m+x.size<=F.length)(hp:bX us i<=8*m):kX us F i m++x=kX us F i (m+x.size):=by
 apply ma;unfold kX;rw[CE,cn,cn,hx,List.take_add,zH (by rw[ba];omega)]
theorem RQ.below {w w':World}{b:Nat}{r:Option Nat}{Q:Qs}(h:RQ w b r Q)(hb:Below w.heap.size w w'):RQ w' b r Q:=by
 obtain⟨lv,dv,h1,h2,h3⟩:=h;refine⟨lv,dv,h1.below hb,λ l d e=>?_,h3⟩;obtain⟨t,u,e1,e2,h4,h5⟩:=h2 l d e;exact⟨t,u,e1,e2,h4.below hb,h5.below hb⟩
structure Gt (us:List (List Bool))(F:List UInt8)(most:Nat)(C:Nat->Cs)(i m told:Nat)(w:World)(b:Nat)(r:Option Nat)(j:Nat)(r':Option Nat)(wr:World):Prop where
 le:i<=j/\j<=us.length
 pos:bX us j<=8*m
 st:x8 us F most C j m told wr b r'
 fr:KX (λ k=>k=b∨some k=r) w wr
 row:r'=r∨∃k,r'=some k/\w.heap.size<=k
theorem asx (us:List (List Bool))(F:List UInt8)(most:Nat)(C:Nat->Cs)(hF:UG us F most C)(i m told b:Nat)(r:Option Nat)(x:ByteArray)(hx:x.toList=(F.drop m).take x.size)(hm:m+x.size<=F.length)(hi:i<=us.length)(hp:bX us i<=8*m)(ht:told<=(C i).out.length)(w:World)(hR:x8 us F most C i m told w b r):
 Calls Tryz.prog 16 #[.pointer (some ⟨b,0,none⟩),.string x] w (UH us F most C i (m+x.size) told w b r):=by
 have HR:=ae hR;obtain⟨lv,dv,⟨v,hB,aw,cK⟩,oS,eh⟩:=hR;have c0:=hB.cell_ 0 (.string (kX us F i m)) rfl;have f0:=hB.frozen 0
 have qX:(kX us F i m).size+x.size<=100000000:=by
  have h1:=aD (kX us F i m);unfold kX at h1⊢;rw[cn,cw,ba]at h1;have:=hF.small;omega
 obtain⟨buf,UJ⟩:∃buf,kX us F i m=buf:=⟨_,rfl⟩;rw[UJ]at qX c0;have asy:((buf.size:Int)+(x.size:Int))<=9223372036854775807:=aa;have asz:buf.size+x.size<=9223372036854775807:=aa;have OK:=hB.cell_ 10 (.int .i64 0) rfl;clear hB aw cK oS eh;go_enter Tryz.func16,Tryz.ntmps16;go_upto_block 0 with fail;obtain⟨m',Cj⟩:∃m',m+x.size=m':=⟨_,rfl⟩
 have bu:x8 us F most C i m' told (w.setCell ⟨b,0,none⟩ (.string (buf++x))) b r:=by
  obtain⟨lv,dv,⟨v,hB,aw,cK⟩,oS,eh⟩:=HR.out;rw[<-UJ,asw hx hm hp,Cj];refine⟨lv,dv,⟨v,hB.aP 0 _,aw.kept (row:=some b) (aY _ b 0 _) (.inr (fx aw hB aA)),cK⟩,λ l d e=>?_,eh⟩;obtain⟨t,u,h1,h2,h3,h4⟩:=oS l d e;exact⟨t,u,h1,h2,h3.only (aY w b 0 _) hB aA aA,h4.only (aY w b 0 _) hB aA aA⟩
 have H5:=ae (show Gt us F most C i m' told w b r i r _ from⟨⟨ai _,hi⟩,aa,bu,KX.pR w b 0 _ (.inl rfl),.inl rfl⟩);have HF:=ae hF;have HT:=ae ht;have asA:=ae Cj;rw[Cj]at hm⊢;clear bu HR c0 f0 OK UJ asy asz qX hF ht hi hx hp Cj;generalize w.setCell ⟨b,0,none⟩ (.string (buf++x))=w0 at*;go_cut [6,7]from 28 to 125 (λ _ _ wx=>Hid (∃j r',Gt us F most C i m' told w b r j r' wx/\(j=us.length∨8*m'<bX us (j+1))))
 case first=>
  go_wp2_with fail;go_loopw [7] (λ _ wr=>Hid (∃j r',Gt us F most C i m' told w b r j r' wr)) (λ _ wr=>8*m'-UI wr b)
  case atStart=>exact ae ⟨i,r,H5.out⟩
  case round=>
   clear H5;obtain⟨j,r',hL⟩:=hrel.out;have HL:=ae hL;clear hL hrel;by_cases hj:j=us.length
   ·have HE:=ae (show∃j r',Gt us F most C i m' told w b r j r' wr/\(j=us.length∨8*m'<bX us (j+1))from⟨j,r',HL.out,.inl hj⟩);obtain⟨lv,dv,⟨v,hB,_,_⟩,_,_⟩:=HL.out.st;have DX:=hB.cell_ 11 (.bool (decide (j=us.length))) rfl;rw[hj,fF rfl]at DX;clear hB;go_wp2_with fail;go_meet;exact HE
   ·have nT:j<us.length:=by have:=HL.out.le.2;omega
    obtain⟨u,hu⟩:∃u,us[j]? =some u:=⟨_,aZ nT⟩;obtain⟨T,hT⟩:=HF.out.full;obtain⟨pre,yI,hA⟩:=asu hT hu m' hm;have qN:decide (j=us.length)=false:=ct hj;have bu:=HL.out.st;unfold x8 at bu;rw[qN]at bu;have pJ:=HF.out.step j u hu (kX us F j m') told;obtain⟨bj,AM⟩:∃bj,kX us F j m'=bj:=⟨_,rfl⟩;have cq:bj.toList=(F.take m').drop (bX us j/8):=by rw[<-AM];unfold kX;rw[cn]
    obtain⟨tj,OL⟩:∃tj,bX us j%8=tj:=⟨_,rfl⟩;obtain⟨uj,OM⟩:∃uj,bX us j/8=uj:=⟨_,rfl⟩;rw[AM,OL,OM]at bu pJ;rw[OM]at cq hA;rw[<-cq]at hA;rw[OL]at yI;have cm:=ae pJ;have OO:=ae bu;have HA:=ae (af hA (af yI hu));have fW:=ae (af OL (af OM (af AM cq)));obtain⟨lv,dv,⟨v,hB,aw,cK⟩,oS,eh⟩:=bu;have c0:=hB.cell_ 0 (.string bj) rfl;have c1:=hB.cell_ 1 (.int .i64 (tj:Nat)) rfl;have DX:=hB.cell_ 11 (.bool false) rfl;have OK:=hB.cell_ 10 (.int .i64 0) rfl;clear hA yI hu AM cq OL OM hT qN hB aw cK oS eh pJ;go_upto_region 8 with(go_at_call 46;go_must (refine(amk bj wr).mono ?_);rintro e w1 ⟨rfl,rfl⟩);have gp:=((aB wr.heap.size wr).alloc (ai _) (.cells #[.string bj,.int .i64 0] 162)).alloc aj (.cells #[.pointer (some ⟨wr.heap.size,0,none⟩),.bool false,.int .i64 0] 101)
    have iw:b8 ((wr.alloc (.cells #[.string bj,.int .i64 0] 162)).alloc (.cells #[.pointer (some ⟨wr.heap.size,0,none⟩),.bool false,.int .i64 0] 101)) (wr.heap.size+1) wr.heap.size bj 0 false:=by
     refine⟨?_,(Bk.new wr 162 #[.string bj,.int .i64 0]).alloc _,gV _⟩;have:=Bk.new (wr.alloc (.cells #[.string bj,.int .i64 0] 162)) 101 #[.pointer (some ⟨wr.heap.size,0,none⟩),.bool false,.int .i64 0];rwa [lY]at this
    have Ay:=RQ.below OO.out gp;have H2:=ae (af iw (af Ay gp));have d1:=(gp.cell (p:=⟨b,1,none⟩) (cQ wr _ c1)).trans c1;clear iw Ay gp c0 c1 DX OK;generalize(wr.alloc (.cells #[.string bj,.int .i64 0] 162)).alloc (.cells #[.pointer (some ⟨wr.heap.size,0,none⟩),.bool false,.int .i64 0] 101)=w2 at*;obtain⟨g,hg⟩:∃g,wr.heap.size=g:=⟨_,rfl⟩;have FO:=ae hg;rw[hg]at H2⊢;clear hg
    have aG:bj.size=m'-uj:=by
     have h1:=aD bj;rw[fW.out.2.2.2,cw,ba]at h1;omega
    have jg:∀w',b8 w' (g+1) g bj 0 false->Calls Tryz.prog 47 #[.pointer (some ⟨g+1,0,none⟩),.int .i64 (tj:Nat)] w' λ e bO=>e= .returned (.int .i64 (ef pre:Nat))/\b8 bO (g+1) g bj (0+tj) false/\fu (pre++u) (bH bj.toList) u (0+tj)/\eV w' bO (g+1) g:=λ w' h=>by
     have uF:=HL.out.pos;have awp:tj<8:=by have:=fW.out.1;omega
     refine asv (pre++u) u (ef pre) tj 0 (g+1) g bj (by have:=HF.out.small;omega) aa (by have:=EU pre;rwa [HA.out.2.1]at this) w' h ?_ (by have:=fW.out.1;have:=fW.out.2.1;omega);have:=HA.out.1;rwa [show aH (ef pre) tj=pre by rw[<-HA.out.2.1];exact Lg pre]
    have my:=ae jg;clear jg;go_upto_region 9 with(go_at_call 47;go_must (refine(my.out _ H2.out.1).mono ?_);rintro e w3 ⟨rfl,h1,h2,h3⟩);have MV:w.heap.size<=g:=by rw[<-FO.out];exact HL.out.fr.size
    have UK:∀k,k<w.heap.size->X4 (g+1) g b r' k->(k=b∨some k=r):=λ k hk hx=>by
     rcases hx with e|e|e|e
     ·omega
     ·omega
     ·exact .inl e
     ·rcases HL.out.row with e2|⟨q,e2,hq⟩
      ·exact .inr (e.trans e2)
      ·rw[e2]at e;cases e;omega
    have Ga:RQ w3 b r' (qs (C j) bj tj uj most told false):=by
     obtain⟨lv,dv,a1,a2,a3⟩:=H2.out.2.1
     exact⟨lv,dv,a1.ly H2.out.1 h3,λ l d e=>by
      obtain⟨t,v,b1,b2,b3,b4⟩:=a2 l d e;exact⟨t,v,b1,b2,b3.ly H2.out.1 h3,b4.ly H2.out.1 h3⟩,a3⟩
    have aC:Below wr.heap.size wr w2:=by rw[FO.out];exact H2.out.2.2
    have JY:KX (λ k=>k=b∨some k=r) w w3:=HL.out.fr.trans ((KX.pQ (X:=X4 (g+1) g b r') aC).trans (KX.nh h3) λ _ _ h=>h) UK;have dH:bj.size<=1000000000:=by have:=HF.out.small;omega
    have UL:∀w',b8 w' (g+1) g bj (0+tj) false->RQ w' b r' (qs (C j) bj tj uj most told false)->Calls Tryz.prog (if(C j).inside then 48 else 49) #[.pointer (some ⟨b,0,none⟩),.pointer (some ⟨g+1,0,none⟩)] w' (NN w' (g+1) g b r' bj (pre++u) (qs (C j) bj tj uj most told false) (qs (C (j+1)) bj tj uj most told false)):=
     λ w' a1 a2=>cm.out (pre++u) (g+1) g b (0+tj) r' bj w' dH (jd _) a1 a2 (cT.live h2)
    obtain⟨ins,Ej⟩:∃x,(C j).inside=x:=⟨_,rfl⟩
    have c6:w3.cell? ⟨b,6,none⟩=some (.bool ins):=by
     obtain⟨lv,dv,⟨v,hB,_,_⟩,_,_⟩:=Ga;rw[<-Ej];exact hB.cell_ 6 (.bool (C j).inside) rfl
    rw[Ej]at UL;have UM:=ae UL;have H3:=ae (af h1 (af Ga JY));have jY:=ae UK;clear Ej UL h1 h2 h3 Ga JY UK aC d1 dH H2 my;go_upto_if 56 with(fail);go_cut [7]from 57 to 63 (λ _ wx=>Hid (∃(k4:Nat) (mB:Bool) (r4:Option Nat),b8 wx (g+1) g bj k4 mB/\cT (pre++u) (bH bj.toList) [] k4 mB/\RQ wx b r4 (if mB then qs (C j) bj tj uj most told false else qs (C (j+1)) bj tj uj most told false)/\KX (λ k=>k=b∨some k=r) w wx/\(r4=r∨∃k,r4=some k/\w.heap.size<=k)))
    case first=>
     cases ins
     all_goals
      go_wp2_with (first|(go_at_call 48;go_must (refine(UM.out _ H3.out.1 H3.out.2.1).mono ?_);rintro e w4 ⟨k4,mB,r4,rfl,tX,gP,x9,si,fK⟩)|(go_at_call 49;go_must (refine(UM.out _ H3.out.1 H3.out.2.1).mono ?_);rintro e w4 ⟨k4,mB,r4,rfl,tX,gP,x9,si,fK⟩))
      have Kv:=H3.out.2.2.trans si jY.out
      have Kw:r4=r∨∃k,r4=some k/\w.heap.size<=k:=by
       rcases fK with e|⟨k,e,hk⟩
       ·rw[e];exact HL.out.row
       ·exact .inr ⟨k,e,b_ H3.out.2.2.size hk⟩
      have HQ:=ae (show∃(k4:Nat) (mB:Bool) (r4:Option Nat),b8 w4 (g+1) g bj k4 mB/\cT (pre++u) (bH bj.toList) [] k4 mB/\RQ w4 b r4 (if mB then qs (C j) bj tj uj most told false else qs (C (j+1)) bj tj uj most told false)/\KX (λ k=>k=b∨some k=r) w w4/\(r4=r∨∃k,r4=some k/\w.heap.size<=k)from⟨k4,mB,r4,tX,gP,x9,Kv,Kw⟩)
      clear tX gP x9 si fK Kv Kw
      go_wp2_with fail
      go_meet
      exact HQ
    case rest=>
     have afe:kX us F j m'=bj/\bX us j%8=tj/\bX us j/8=uj:=⟨fW.out.2.2.1,fW.out.1,fW.out.2.1⟩;have HC:=ae afe;clear UM c6 H3 jY afe;obtain⟨w4,pW⟩:∃x,x=wc:=⟨_,rfl⟩;subst pW;obtain⟨k4,mB,r4,tX,gP,x9,Kv,Kw⟩:=hcut.out
     have fc:g≠b:=by
      obtain⟨lv,dv,⟨v,hB,_,_⟩,_,_⟩:=x9;exact iK tX.rr hB aA
     have sL:g+1≠b:=by
      obtain⟨lv,dv,⟨v,hB,_,_⟩,_,_⟩:=x9;exact iK tX.pa hB aA
     have d1:w4.cell? ⟨g+1,1,none⟩=some (.bool mB):=Bk.cell_ tX.pa 1 _ rfl;have H4:=ae (af tX (af gP (af x9 (af Kv Kw))));clear tX gP x9 Kv Kw hcut
     cases mB with
     |true=>
      have HE:=ae (show∃j r',Gt us F most C i m' told w b r j r' w4/\(j=us.length∨8*m'<bX us (j+1))from by
       refine⟨j,r4,⟨HL.out.le,HL.out.pos,?_,H4.out.2.2.2.1,H4.out.2.2.2.2⟩,.inr ?_⟩
       ·unfold x8;rw[HC.out.1,HC.out.2.1,HC.out.2.2,ct hj];exact H4.out.2.2.1
       ·have h1:=H4.out.2.1.2 rfl;rw[pP,aD,aG,ag,HA.out.2.1]at h1;rw[WA us j u HA.out.2.2];have:=fW.out.1;have:=fW.out.2.1;have:=HL.out.pos;omega)
      clear H4 HC HL HA cm OO fW;go_wp2_with fail;go_meet;exact HE
     |false=>
      have UN:=(H4.out.2.1.1 rfl).whole;rw[pP,aD,ag,HA.out.2.1]at UN;have aff:=WA us j u HA.out.2.2;have afg:=fW.out.1;have afh:=fW.out.2.1;have afi:=HL.out.pos;have jW:=HF.out.small;have x9:RQ w4 b r4 (qs (C (j+1)) bj tj uj most told false):=H4.out.2.2.1;obtain⟨asB,asC,⟨v4,eZ,AX,FN⟩,afj,afk⟩:=x9;have e0:w4.cell? ⟨b,0,none⟩=some (.string bj):=eZ.cell_ 0 _ rfl;have e1:w4.cell? ⟨b,1,none⟩=some (.int .i64 (tj:Nat)):=eZ.cell_ 1 _ rfl;have e2:w4.cell? ⟨b,2,none⟩=some (.int .i64 (uj:Nat)):=eZ.cell_ 2 _ rfl;have e6:w4.cell? ⟨b,6,none⟩=some (.bool (C (j+1)).inside):=eZ.cell_ 6 _ rfl;have e7:w4.cell? ⟨b,7,none⟩=some (.bool (C (j+1)).last):=eZ.cell_ 7 _ rfl;have x_:w4.cell? ⟨b,10,none⟩=some (.int .i64 0):=eZ.cell_ 10 _ rfl;have asD:w4.cell? ⟨b,11,none⟩=some (.bool false):=eZ.cell_ 11 _ rfl;have g0:=eZ.frozen 0;have g1:=eZ.frozen 1;have g2:=eZ.frozen 2;have g10:=eZ.frozen 10;have g11:=eZ.frozen 11;have d0:w4.cell? ⟨g+1,0,none⟩=some (.pointer (some ⟨g,0,none⟩)):=Bk.cell_ H4.out.1.pa 0 _ rfl;have d2:w4.cell? ⟨g+1,2,none⟩=some (.int .i64 0):=Bk.cell_ H4.out.1.pa 2 _ rfl;obtain⟨a,ha⟩:∃a,k4/8=a:=⟨_,rfl⟩;obtain⟨c,hc⟩:∃c,k4%8=c:=⟨_,rfl⟩;have vp:(k4:Int)/8=(a:Int):=aa;have Dv:(k4:Int).tmod 8=(c:Int):=by rw[EC aa];omega
      have NG:(a:Int)<=(bj.size:Int):=aa;have awq:uj+a<=200000000:=aa;have aqy:IntKind.i64.wrap ((uj:Int)+(a:Int))=((uj+a:Nat):Int):=by rw[aE];omega
      have UO:Hid (∀w',jM w' g bj k4->Calls Tryz.prog 50 #[.pointer (some ⟨g,0,none⟩)] w' λ e bO=>e= .returned (.int .i64 (k4:Nat))/\w'=bO):=ae λ w' h=>MZ g bj k4 w' h;have afl:=ae nT;have HN:=ae (af ha (af hc (af UN (af aff (af afg (af afh (af afi jW)))))));have cU:=ae (af eZ (af AX (af FN (af afj afk))));obtain⟨UQ,Ej⟩:∃x,(C (j+1)).inside=x:=⟨_,rfl⟩;obtain⟨UR,US⟩:∃x,(C (j+1)).last=x:=⟨_,rfl⟩;have Gu:=ae (af Ej US);have fM:b≠g:=λ e=>fc e.symm;have Jd:b≠g+1:=λ e=>sL e.symm;rw[Ej]at e6;rw[US]at e7;clear UN aff afg afh afi jW eZ AX FN afj afk ha hc Ej US nT hj hm;go_upto_region 15 with fail;have Cg:Hid (jM (w4.setCell ⟨b,10,none⟩ (.int .i64 0)) g bj k4):=ae (Bk.far H4.out.1.rr fc _);go_upto_region 16 with(go_at_call 50;go_must (refine(UO.out _ Cg.out).mono ?_);rintro e w5 ⟨rfl,rfl⟩);obtain⟨w5,kC⟩:∃x,w4.setCell ⟨b,10,none⟩ (.int .i64 0)=x:=⟨_,rfl⟩;have UT:=ae kC;have asE:w5.cell? ⟨b,0,none⟩=some (.string bj):=by rw[<-kC];exact(cU.out.1.aP 10 _).cell_ 0 _ rfl
      have asF:w5.cell? ⟨b,1,none⟩=some (.int .i64 (tj:Nat)):=by rw[<-kC];exact(cU.out.1.aP 10 _).cell_ 1 _ rfl
      have asG:w5.cell? ⟨b,2,none⟩=some (.int .i64 (uj:Nat)):=by rw[<-kC];exact(cU.out.1.aP 10 _).cell_ 2 _ rfl
      have asH:w5.frozen? ⟨b,0,none⟩=false:=by rw[<-kC];exact(cU.out.1.aP 10 _).frozen 0
      have asI:w5.frozen? ⟨b,1,none⟩=false:=by rw[<-kC];exact(cU.out.1.aP 10 _).frozen 1
      have asJ:w5.frozen? ⟨b,2,none⟩=false:=by rw[<-kC];exact(cU.out.1.aP 10 _).frozen 2
      have asK:w5.cell? ⟨g+1,0,none⟩=some (.pointer (some ⟨g,0,none⟩)):=by rw[<-kC];exact(Bk.far (p:=⟨b,10,none⟩) H4.out.1.pa sL _).cell_ 0 _ rfl
      rw[kC]at Cg⊢;clear kC e0 e1 e2 g0 g1 g2 d0 d1 d2 x_ g10;go_cut [7]from 85 to 112 (λ v7 wx=>Hid (wx=((w5.drew.setCell ⟨b,0,none⟩ (.string (bj.extract a bj.size))).setCell ⟨b,1,none⟩ (.int .i64 (c:Nat))).setCell ⟨b,2,none⟩ (.int .i64 ((uj+a:Nat):Int))))
      case first=>
       clear HF HT HL cm OO HA fW FO HC H4 HN cU Gu UT aG e6 e7 asD g11 MV;go_wp2_with fail;go_region_with (go_at_call 50;go_must (refine(UO.out _ (show jM w5.drew g bj k4 from Cg.out)).mono ?_);rintro e w6 ⟨rfl,rfl⟩)
       all_goals
        go_wp2_with fail
        go_meet
        exact ae rfl
      case rest=>
       obtain⟨w6,UU⟩:∃x,x=((w5.drew.setCell ⟨b,0,none⟩ (.string (bj.extract a bj.size))).setCell ⟨b,1,none⟩ (.int .i64 (c:Nat))).setCell ⟨b,2,none⟩ (.int .i64 ((uj+a:Nat):Int)):=⟨_,rfl⟩;rw[hcut.out,<-UU];have fL:=(((cU.out.1.aP 10 (.int .i64 0)).drew.aP 0 (.string (bj.extract a bj.size))).aP 1 (.int .i64 (c:Nat))).aP 2 (.int .i64 ((uj+a:Nat):Int));have rl:=aQ (aQ (aQ (aQ (aY w4 b 10 (.int .i64 0)) (oL _ b)) (aY _ b 0 (.string (bj.extract a bj.size)))) (aY _ b 1 (.int .i64 (c:Nat)))) (aY _ b 2 (.int .i64 ((uj+a:Nat):Int)));rw[UT.out,<-UU]at fL rl;have awr:w6.cell? ⟨b,6,none⟩=some (.bool UQ):=by rw[<-Gu.out.1];exact fL.cell_ 6 (.bool (C (j+1)).inside) rfl
       have Og:w6.cell? ⟨b,7,none⟩=some (.bool UR):=by rw[<-Gu.out.2];exact fL.cell_ 7 (.bool (C (j+1)).last) rfl
       have aws:w6.cell? ⟨b,11,none⟩=some (.bool false):=fL.cell_ 11 _ rfl;have awt:=fL.frozen 11
       have o9:∀d,(UR&&!UQ)=d->Gt us F most C i m' told w b r (j+1) r4 (w6.setCell ⟨b,11,none⟩ (.bool d)):=λ d hd=>by
        have hf:=HF.out.fin (j+1) afl.out;rw[Gu.out.1,Gu.out.2,hd]at hf;obtain⟨na,nc,nw,np,awu,awv,aww,awx⟩:=HN.out;have UW:=aQ rl (aY w6 b 11 (.bool d));have afm:KX (λ k=>k=b) w4 (w6.setCell ⟨b,11,none⟩ (.bool d)):=KX.sJ UW rfl;refine⟨⟨by have:=HL.out.le.1;omega,afl.out⟩,aa,?_,H4.out.2.2.2.1.trans afm (λ k _ e=>.inl e),H4.out.2.2.2.2⟩
        have hq:qs (C (j+1)) (kX us F (j+1) m') (bX us (j+1)%8) (bX us (j+1)/8) most told (decide (j+1=us.length))=qs (C (j+1)) (bj.extract a bj.size) c (uj+a) most told d:=by
         rw[<-hf,show bX us (j+1)%8=c by omega,show bX us (j+1)/8=uj+a by omega];congr 1;apply ma;unfold kX;rw[cn,show bX us (j+1)/8=uj+a by omega,<-uy,<-fW.out.2.2.2,tf,bQ (by rw[cw,aD];omega)]
        unfold x8;rw[hq];refine⟨asB,asC,⟨v4,fL.aP 11 (.bool d),FK cU.out.2.1 afm (λ k hk e=>fx cU.out.2.1 cU.out.1 aA (by rw[hk,e])),cU.out.2.2.1⟩,λ l d e=>?_,cU.out.2.2.2.2⟩;obtain⟨t,v,b1,b2,b3,b4⟩:=cU.out.2.2.2.1 l d e;exact⟨t,v,b1,b2,b3.grown cU.out.1 UW,b4.grown cU.out.1 UW⟩
       have zt:=ae o9;have asL:=ae (af HN.out.2.2.2.1 (HF.out.pos u (du HA.out.2.2)));clear fL rl o9 UU hcut HN cU H4 Gu UT Cg UO HC fW HA OO cm asE asF asG asH asI asJ asK
       cases UR
       all_goals
        cases UQ
        all_goals
         go_wp2_with fail
         go_roundw
         case rel=>exact ae ⟨j+1,r4,zt.out _ rfl⟩
         case measure=>
          have h1:=afd (zt.out _ rfl).st;have h2:=afd HL.out.st;have h3:=(zt.out _ rfl).pos;have h4:=asL.out;simp only[Bool.not_true,Bool.not_false,Bool.and_true,Bool.and_false,Bool.and_self]at h1;rw[h1,h2];omega
 case rest=>
  obtain⟨w9,asM⟩:∃x,x=wc:=⟨_,rfl⟩;subst asM;obtain⟨j,r',hL,qF⟩:=hcut.out;have gB:(C i).out.length<=(C j).out.length:=HF.out.grow i j hL.le.1 hL.le.2;have yY:=HF.out.out j hL.le.2;have vE:=HF.out.mo;have afn:told<=(C j).out.length:=b_ HT.out gB;have hR:RQ w9 b r' (qs (C j) (kX us F j m') (bX us j%8) (bX us j/8) most told (decide (j=us.length))):=hL.st;obtain⟨lv,dv,⟨v,hB,aw,cK⟩,oS,eh⟩:=hR;have c3:w9.cell? ⟨b,3,none⟩=some v:=hB.cell_ 3 _ rfl;have c5:w9.cell? ⟨b,5,none⟩=some (.int .i64 (told:Nat)):=hB.cell_ 5 _ rfl;have OK:w9.cell? ⟨b,10,none⟩=some (.int .i64 0):=hB.cell_ 10 _ rfl;have f5:=hB.frozen 5;have xK:w9.ownsRow 0 5 1 v (C j).out.length (bv (C j).out):=aw;obtain⟨O,hO⟩:∃O,(C j).out=O:=⟨_,rfl⟩;rw[hO]at xK yY afn;obtain⟨T,hT⟩:∃T,av ((O.drop told).map UInt8.ofNat)=T:=⟨_,rfl⟩;obtain⟨n,hn⟩:∃n,O.length=n:=⟨_,rfl⟩
  have o9:∀w',Bk w' b 90 (((qs (C j) (kX us F j m') (bX us j%8) (bX us j/8) most told (decide (j=us.length))).rs lv dv).row v|>.setIfInBounds 5 (.int .i64 (n:Nat)))->KX (λ k=>k=b) w9 w'->UH us F most C i (m+x.size) told w b r (.returned (.tuple #[.string T,.int .i64 0])) w':=λ w' cC hk=>by
   rw[asA.out];refine⟨j,r',hL.le.1,hL.le.2,by rw[hO,hT],?_,hL.pos,qF,hL.fr.trans hk (λ k _ e=>.inl e),hL.row⟩;refine⟨lv,dv,⟨v,?_,FK aw hk (λ k bI e=>fx aw hB aA (by rw[bI,e])),cK⟩,λ l d e=>?_,eh⟩
   ·rw[hO,hn];exact cC
   ·obtain⟨t,u,b1,b2,b3,b4⟩:=oS l d e;have hg:w9.grownBy w' (some b):=⟨hk.os,hk.tape,hk.output,hk.size,λ k bI iR=>hk.block k bI (λ e=>iR (by rw[e]))⟩;exact⟨t,u,b1,b2,b3.grown hB hg,b4.grown hB hg⟩
  have pU:=ae o9;have HB:=ae hB
  have fT:∀A c',Rd w9 A (aJ ((O.drop told).map UInt8.ofNat))->∀q,(convert 54 9 (.slice A (n-told) c')).run Tryz.prog (w9.drewN q)= .ok (.string T) (w9.drewN q):=λ A c' hr q=>by
   rw[<-hT];exact ass (w:=w9.drewN q) (by rw[eG,cw,hn]) hr _ _ _ Tryz.underlying54 Tryz.underlying5 Tryz.underlying9
  have afo:aJ ((O.drop told).map UInt8.ofNat)=bv (O.drop told):=by
   unfold aJ bv;rw[yi];refine Ct λ x hx=>?_;have:=yY.2 x (Cu hx);simp[yb];omega
  rw[afo]at fT;have Fy:=ae fT;have JT:=ae hn;have ju:Hid (∀u q1 q2,KX (λ k=>k=b) w9 (((w9.drewN q1).setCell ⟨b,5,none⟩ u).drewN q2)):=ae λ u q1 q2=>((KX.drewN (X:=λ k=>k=b) w9 q1).trans (KX.pR _ b 5 u (X:=λ k=>k=b) rfl) λ _ _ h=>h).trans (KX.drewN _ q2) λ _ _ h=>h;have gq:Hid (∀u q1 q2,Bk (((w9.drewN q1).setCell ⟨b,5,none⟩ u).drewN q2) b 90 ((((qs (C j) (kX us F j m') (bX us j%8) (bX us j/8) most told (decide (j=us.length))).rs lv dv).row v).setIfInBounds 5 u)):=ae λ u q1 q2=>hB.aP 5 u;have fk:n<=1000000000:=aa;have asN:told<=n:=aa
  have Qy:(v= .slice none 0 0/\n=0)∨∃g cap,v= .slice (some ⟨g,0,none⟩) n cap/\n<=cap/\cap<=maxLen/\(∀k,Rd w9 (some ⟨g,k,none⟩) (bv (O.drop k))):=by
   rcases xK.2 with⟨h1,h2⟩|⟨g,cap,cur,h1,_,hg,h2,h3,_,h4⟩
   ·exact .inl ⟨h1,hn.symm.trans h2⟩
   ·refine .inr ⟨g,cap,by rw[h1,hn],aa,h3,λ k _=>⟨g,k,rfl,λ x u hx=>?_⟩⟩;rw[yh]at h4
    have h5:(bv O)[k+x]? =some u:=by
     unfold bv at hx⊢;rw[List.map_drop,rO]at hx;exact hx
    rw[<-h4,mL]at h5;split at h5
    ·rw[rM]at h5;exact(Bk.cell (show Bk w9 g _ cur from hg) (k+x)).trans h5
    ·cases h5
  clear o9 hB fT aw xK cK oS eh hL qF gB yY vE afn afo hO hT hn hcut H5;rcases Qy with⟨rfl,rfl⟩|⟨g,cap,rfl,hnc,fG,bY⟩
  ·obtain rfl:told=0:=aa;have hc:∀q,(convert 54 9 (.slice none 0 0)).run Tryz.prog (w9.drewN q)= .ok (.string T) (w9.drewN q):=Fy.out none 0 (λ h=>absurd (by rw[dP JT.out];rfl) h);have awy:w9.cell? ⟨b,5,none⟩=some (.int .i64 0):=c5;clear c5 fk asN;go_upto_region 18 with fail;go_quiet (fail);go_upto_region 20 with fail;go_quiet (fail);go_wp2_with fail;go_ret2;refine pU.out _ (gq.out _ _ _) (ju.out _ _ _)
  ·rcases gx told cap with h|h
   ·have hc:∀q,(convert 54 9 (.slice (some ⟨g,told,none⟩) (n-told) (cap-told))).run Tryz.prog (w9.drewN q)= .ok (.string T) (w9.drewN q):=Fy.out _ _ (bY told);have h1:(told:Int)<=(cap:Int):=aa;have h2:(told:Int)<=(n:Int):=aa;have h3:¬told=cap:=aa;clear bY;go_upto_region 18 with fail;go_quiet (fail);go_upto_region 20 with fail;go_quiet (fail);go_wp2_with fail;go_ret2;refine pU.out _ (gq.out _ _ _) (ju.out _ _ _)
   ·obtain rfl:told=n:=aa;obtain rfl:told=cap:=aa
    have hc:∀q,(convert 54 9 (.slice (some ⟨g,0,none⟩) 0 0)).run Tryz.prog (w9.drewN q)= .ok (.string T) (w9.drewN q):=by
     have:=Fy.out (some ⟨g,0,none⟩) 0 (λ h=>absurd (by rw[nD (by rw[JT.out];exact ai _)];rfl) h);rwa [gy]at this
    clear bY;go_upto_region 18 with fail;go_quiet (fail);go_upto_region 20 with fail;go_quiet (fail);go_wp2_with fail;go_ret2;refine pU.out _ (gq.out _ _ _) (ju.out _ _ _)
theorem asO {lit aq lens sorted:List Nat}(hl:dh lit)(hd:dh aq)(hn:dh lens)(lL:257<=lit.length)(cI:lit.length<=286)(jT:1<=aq.length)(fj:aq.length<=30)
 (he:0<lit.getD 256 0)(hr:∀r∈eK (lit++aq),0<lens.getD r.1 0)(iR:lens.length=19)(Lt:∀x∈lens,x<=7)(hs:lK (ie.map λ s=>lens.getD s 0) 4 sorted):NI lit aq lens sorted:=by
 have kB:∀x∈lit++aq,x<16:=λ x hx=>by
  rcases fE.1 hx with h|h
  ·have:=hl.le x h;omega
  ·have:=hd.le x h;omega
 have hlen:sorted.length<=19:=hs.len.2;refine⟨⟨lL,cI⟩,⟨jT,fj⟩,iR,⟨hs.len.1,hlen⟩,ahv iR hs,λ i hi=>?_,λ x hx=>by have:=Lt x hx;omega,hl,hd,hn,kB,λ r Ic=>?_,he⟩
 ·rw[hs.get i,a_,eH,a_ (l:=ie),aZ (show i<ie.length by have:ie.length=19:=rfl;omega)];rfl
 ·have h:=Lk _ kB r Ic;unfold F6;exact⟨by rw[iR];exact h.1,hr r Ic,h⟩
def s3:Cs:=⟨[],false,false,none,true⟩
def uo (lit aq:List Nat)(l:List Tk):Nat->Cs
 |0=>s3
 |k+1=>⟨(l.take k).foldl fH [],decide (k<=l.length),true,some (lit,aq),false⟩
theorem afp {l:List Tk}{k:Nat}{t:Tk}(h:l[k]? =some t):(l.take (k+1)).foldl fH []=fH ((l.take k).foldl fH []) t:=by
 rw[eu,h,rT];rfl
theorem asP (l:List Tk)(i j:Nat)(h:i<=j):((l.take i).foldl fH []).length<=((l.take j).foldl fH []).length:=by
 obtain⟨d,rfl⟩:∃d,j=i+d:=⟨j-i,aa⟩;induction d with
 |zero=>exact ai _
 |succ d ih=>
  refine b_ (ih aa) ?_;rcases gx (i+d) l.length with h1|h1
  ·rw[show i+(d+1)=i+d+1 by omega,afp (aZ h1),ahm];omega
  ·rw[bQ h1,bQ aa];exact ai _
theorem afq {s:List Nat}{l:List Tk}{n:Nat}(h:gL s l n)(k:Nat):∃m,(l.take k).foldl fH []=s.take m/\m<=s.length:=by
 cases k with
 |zero=>exact⟨0,rfl,gV _⟩
 |succ k=>
  rcases gx k l.length with h1|h1
  ·obtain⟨m,_,_,h4,h5⟩:=h.at k _ (aZ h1);exact⟨_,h4,h5⟩
  ·rw[bQ aa];exact⟨n,h.out⟩
theorem UX {ls:List Nat}{s:Nat}(h:0<ls.getD s 0):1<=(bW ls s).length:=by unfold bW;rw[wU];exact h
theorem asQ {lit aq:List Nat}{t:Tk}(h:Has lit aq t):1<=(gA lit aq t).length:=by
 unfold gA;split
 ·next h0=>exact UX (h.1 h0)
 ·next h0=>rw[ag];have:=UX (h.2 h0).1;omega
theorem asR {s:List Nat}{l:List Tk}(lit aq:List Nat)(hT:gL s l s.length)(hl:lit.length<=320)(hg:dh lit)(hd:aq.length<=320)(d_:dh aq)(most:Nat)(hm:s.length<=most)(fy:most<=1000000000)(hh:∀t∈l,Has lit aq t)
 (k:Nat)(t:Tk)(hk:l[k]? =some t)(buf:ByteArray)(bit used told:Nat):zn (gA lit aq t) (qs (uo lit aq l (k+1)) buf bit used most told false) (qs (uo lit aq l (k+2)) buf bit used most told false):=by
 obtain⟨m,h1,h2,h3,h4⟩:=hT.at k t hk;have ao:=(fX.1 hk).1;have hH:=hh t (du hk)
 have e1:uo lit aq l (k+1)=⟨(l.take k).foldl fH [],true,true,some (lit,aq),false⟩:=by
  show Cs.mk _ (decide (k<=l.length)) _ _ _=_;rw[fF aa]
 have e2:uo lit aq l (k+2)=⟨fH ((l.take k).foldl fH []) t,true,true,some (lit,aq),false⟩:=by
  show Cs.mk _ (decide (k+1<=l.length)) _ _ _=_;rw[fF aa,afp hk]
 rw[e1,e2];have rZ:m+max t.len 1<=most:=b_ h4 hm;have lL:((l.take k).foldl fH []).length=m:=by rw[h1,ba];omega
 obtain⟨o,ho⟩:∃o,(l.take k).foldl fH []=o:=⟨_,rfl⟩;rw[ho]at lL⊢;rcases h2 with⟨a1,_,a3⟩|⟨_,b2,b3,b4,b5,b6⟩
 ·have e3:gA lit aq t=bW lit t.lit:=by unfold gA;rw[if_pos a1]
  have e4:fH o t=o++[t.lit]:=by unfold fH;rw[if_pos a1]
  rw[e3,e4];exact aoL lit aq t.lit (qs ⟨o,true,true,some (lit,aq),false⟩ buf bit used most told false) rfl rfl rfl hl hg a3 (hH.1 a1) (show o.length+1<=most by omega) fy
 ·have h0:¬t.len=0:=aa;have e3:gA lit aq t=bW lit (dD t.len).1++(aH (dD t.len).2.2 (dD t.len).2.1++(bW aq (dJ t.aq).1++aH (dJ t.aq).2.2 (dJ t.aq).2.1)):=by unfold gA;rw[if_neg h0]
  have e4:fH o t=nL t.aq t.len o:=by unfold fH;rw[if_neg h0]
  rw[e3,e4];exact aoM lit aq t.len t.aq (qs ⟨o,true,true,some (lit,aq),false⟩ buf bit used most told false) rfl rfl rfl hl hg hd d_ b2 b3 b4 (show t.aq<=o.length by omega) b6 (hH.2 h0).1 (hH.2 h0).2 (show o.length+t.len<=most by omega) fy
theorem afr {s:List Nat}{l:List Tk}(h:List Bool)(lit aq:List Nat)(UY:∀Q:Qs,Q.inside=false->zn h Q {Q with last:=true,inside:=true,tb:=some (lit,aq),fresh:=false})(aac:1<=h.length)
 (hT:gL s l s.length)(hl:lit.length<=320)(hg:dh lit)(hd:aq.length<=320)(d_:dh aq)(he:0<lit.getD 256 0)(most:Nat)(hm:s.length<=most)(fy:most<=1000000000)(hs:∀x∈s,x<256)(hh:∀t∈l,Has lit aq t)
 (F:List UInt8)(hF:F.length<=100000000)(Cd:∃T,bH F=(h::(l.map (gA lit aq)++[bW lit 256])).flatten++T):
 UG (h::(l.map (gA lit aq)++[bW lit 256])) F most (uo lit aq l)/\(uo lit aq l (h::(l.map (gA lit aq)++[bW lit 256])).length).out=s/\∀i,∃m,(uo lit aq l i).out=s.take m:=by
 have hlen:(h::(l.map (gA lit aq)++[bW lit 256])).length=l.length+2:=aj
 have pF:∀i,(uo lit aq l i).out.length<=most/\∀x∈(uo lit aq l i).out,x<256:=λ i=>by
  cases i with
  |zero=>exact⟨gV _,nofun⟩
  |succ k=>
   obtain⟨m,h1,h2⟩:=afq hT k;show((l.take k).foldl fH []).length<=_/\∀x∈(l.take k).foldl fH [],x<256;rw[h1];exact⟨by rw[ba];omega,λ x hx=>hs x (s6 hx)⟩
 refine⟨⟨Cd,λ i u hu buf told=>?_,λ u hu=>?_,λ i hi=>?_,by rw[hlen];omega,hF,fy,λ i _=>pF i,λ i j gB _=>?_⟩,?_,λ i=>?_⟩
 ·cases i with
  |zero=>
   obtain rfl:h=u:=by simpa using hu
   have e:uo lit aq l 1=⟨[],true,true,some (lit,aq),false⟩:=rfl;exact UY (qs s3 buf _ _ most told false) rfl
  |succ k=>
   rw[eF]at hu;rcases gx k l.length with h1|h1
   ·rw[ux (by rw[eG];exact h1),eH]at hu;obtain⟨t,ht⟩:∃t,l[k]? =some t:=⟨_,aZ h1⟩;rw[ht]at hu;obtain rfl:gA lit aq t=u:=by simpa using hu
    exact asR lit aq hT hl hg hd d_ most hm fy hh k t ht buf _ _ told
   ·rw[lf (by rw[eG];exact h1),eG]at hu
    have eR:k-l.length=0:=by
     rcases wG (k-l.length)with h3|h3
     ·exact h3
     ·rw[s7 (by simp;omega)]at hu;cases hu
    rw[eR]at hu;obtain rfl:bW lit 256=u:=by simpa using hu
    obtain rfl:k=l.length:=aa
    have e1:uo lit aq l (l.length+1)=⟨(l.take l.length).foldl fH [],true,true,some (lit,aq),false⟩:=by
     show Cs.mk _ (decide (l.length<=l.length)) _ _ _=_;rw[fF (ai _)]
    have e2:uo lit aq l (l.length+1+1)=⟨(l.take l.length).foldl fH [],false,true,some (lit,aq),false⟩:=by
     show Cs.mk ((l.take (l.length+1)).foldl fH []) (decide (l.length+1<=l.length)) _ _ _=_;rw[ct aa,bQ aa,bQ (ai _)]
    rw[e1,e2];exact step_end lit aq (qs ⟨(l.take l.length).foldl fH [],true,true,some (lit,aq),false⟩ buf _ _ most told false) rfl rfl rfl hl hg he
 ·rcases eW.1 hu with rfl|hu
  ·exact aac
  ·rcases fE.1 hu with hu|hu
   ·obtain⟨t,ht,rfl⟩:=kJ.1 hu;exact asQ (hh t ht)
   ·rw[pA.1 hu];exact UX he
 ·rw[hlen]at hi⊢
  cases i with
  |zero=>show(false&&!false)=_;rw[ct aa];rfl
  |succ k=>
   show(true&&!decide (k<=l.length))=_;rw[Bool.true_and,<-decide_not];exact CD.2 aa
 ·cases i with
  |zero=>exact gV _
  |succ i=>
   cases j with
   |zero=>omega
   |succ j=>exact asP l i j aa
 ·rw[hlen];show(l.take (l.length+1)).foldl fH []=s;rw[bQ aa,hT.out.1,zL]
 ·cases i with
  |zero=>exact⟨0,rfl⟩
  |succ k=>obtain⟨m,h1,_⟩:=afq hT k;exact⟨m,h1⟩
theorem asS:ic.length=288:=by unfold ic;simp only[ag,cA]
theorem afs {s:ByteArray}{us:List (List Bool)}(hp:sd (c_ s) us)(most:Nat)(hm:s.size<=most)(fy:most<=1000000000)(F:List UInt8)(hF:F.length<=100000000)(Cd:∃T,bH F=us.flatten++T):
 ∃C:Nat->Cs,UG us F most C/\(C us.length).out=c_ s/\C 0=s3/\∀i,∃m,(C i).out=(c_ s).take m:=by
 have Cj:(c_ s).length<=most:=by rw[o_];exact hm
 cases hp with
 |stored h=>
  refine⟨λ i=>if i=0 then s3 else⟨c_ s,false,true,none,false⟩,⟨Cd,λ i u hu buf told=>?_,λ u hu=>?_,λ i hi=>?_,ai _,hF,fy,λ i _=>?_,λ i j gB _=>?_⟩,rfl,rfl,λ i=>?_⟩
  ·cases i with
   |zero=>
    obtain rfl:nM (c_ s)=u:=by simpa using hu
    have h0:bX [nM (c_ s)] 0=0:=rfl;rw[h0,if_pos rfl,if_neg aa];exact aoP s (by rw[<-o_];exact h) (qs s3 buf 0 0 most told false) rfl rfl rfl rfl hm fy
   |succ i=>cases hu
  ·rw[pA.1 hu];unfold nM;rw[ag,fi];omega
  ·show((if i=0 then s3 else _:Cs).last&&!(if i=0 then s3 else _:Cs).inside)=decide (i=1);have hi:i<=1:=hi;rcases wG i with h0|h0
   ·rw[if_pos h0,h0];rfl
   ·obtain rfl:i=1:=aa;rfl
  ·show(if i=0 then s3 else _:Cs).out.length<=most/\∀x∈(if i=0 then s3 else _:Cs).out,x<256;split
   ·exact⟨gV _,nofun⟩
   ·exact⟨Cj,IZ s⟩
  ·show(if i=0 then s3 else _:Cs).out.length<=(if j=0 then s3 else _:Cs).out.length;split
   ·exact gV _
   ·rw[if_neg aa];exact ai _
  ·show∃m,(if i=0 then s3 else _:Cs).out=_;split
   ·exact⟨0,rfl⟩
   ·exact⟨(c_ s).length,by rw[zL]⟩
 |fixed l h=>
  have hk:=afr (yC true) ic kN (λ Q hi=>aoN true Q hi) (by unfold yC;rw[ag,fi];omega) h (by rw[asS];omega) Lm (by unfold kN;rw[cA];omega) Ln (Lq 256 aa) most Cj fy (IZ s)
   (λ t ht=>by
    obtain⟨k,hk⟩:=Ey ht;obtain⟨m,_,bq,_⟩:=h.at k t hk;exact WE bq) F hF Cd
  exact⟨_,hk.1,hk.2.1,rfl,hk.2.2⟩
 |WG l lit aq lens sorted h hl hd hn lL cI jT fj he hh hr iR Lt hs=>
  have bq:=asO hl hd hn lL cI jT fj he hr iR Lt hs;have hk:=afr (Ak true lit aq lens sorted) lit aq (λ Q hi=>aoO true lit aq lens sorted bq Q hi) (by unfold Ak;rw[ag,fi];omega) h aa hl aa hd he most Cj fy (IZ s) hh F hF Cd;exact⟨_,hk.1,hk.2.1,rfl,hk.2.2⟩
theorem asT (l:List Nat)(h:∀x∈l,x<256):(l.map UInt8.ofNat).map UInt8.toNat=l:=by
 rw[yi];conv=>rhs;rw[<-List.map_id l]
 exact Ct λ x hx=>by
  have:=h x hx;simp[yb];omega
theorem aft (us:List (List Bool)):∃T,bH (oU (aX us.flatten))=us.flatten++T:=by
 unfold bH oU;rw[ka,List.map_replicate];unfold aX;rw[asT _ (λ x hx=>uH _ x hx)];exact ahS us _
theorem UZ (l:List Bool):(aX l).length=(fR l).length:=by unfold aX;rw[eG]
theorem OP {us:List (List Bool)}(h:∀u∈us,1<=u.length)(hn:1<=us.length):1<=us.flatten.length:=by
 cases us with
 |nil=>simp at hn
 |cons u us=>
  have:=h u aj;rw[fY,ag];omega
theorem afu (us:List (List Bool)):bX us us.length=us.flatten.length:=WB us _ (ai _)
def Stood (us:List (List Bool))(i j:Nat):Prop:=j<=us.length/\bX us j<=8*(192*i)/\(j=us.length∨8*(192*i)<bX us (j+1)∨(i=0/\j=0))
theorem Stood.asU {us:List (List Bool)}{i j:Nat}(h:Stood us i j)(hp:∀u∈us,1<=u.length)(hn:1<=us.length)(hi:i<cM (aX us.flatten)):j≠us.length:=by
 intro e;obtain⟨_,h2,_⟩:=h;rw[e,afu]at h2;have hf:=OP hp hn
 cases i with
 |zero=>omega
 |succ i=>
  have:=ahT hf (n:=cM (aX us.flatten)) (i:=i) (by unfold cM;rw[UZ]) hi;omega
theorem Stood.done {us:List (List Bool)}{j:Nat}(hp:∀u∈us,1<=u.length)(hn:1<=us.length)(h:Stood us (cM (aX us.flatten)) j):j=us.length:=by
 obtain⟨h1,h2,h3⟩:=h;have hf:=OP hp hn;have ha:=ahU hf (n:=cM (aX us.flatten)) (by unfold cM;rw[UZ]);rcases h3 with h3|h3|⟨h3,h4⟩
 ·exact h3
 ·rcases gx j us.length with h5|h5
  ·have:=ahy us (j+1);omega
  ·omega
 ·rw[h3]at ha;omega
theorem asV (S:List UInt8)(i:Nat)(h:i<cM S):(av (iH S i)).toList=((oU S).drop (192*i)).take (av (iH S i)).size:=by
 rw[cn,cV,G7,ahA S i h]
theorem asW {s:List Nat}{a b:List Nat}(ha:∃m,a=s.take m)(hb:∃m,b=s.take m)(h:a.length<=b.length):a++b.drop a.length=b:=by
 obtain⟨m,rfl⟩:=ha;obtain⟨n,rfl⟩:=hb;rw[ba,ba]at h
 have e:s.take m=(s.take n).take (min m s.length):=by
  rw[List.take_take];rcases Nat.le_total m s.length with h1|h1
  ·rw[lB h1]at h⊢;rw[lB aa]
  ·rw[Nat.min_eq_right h1]at h⊢;rw[lB aa,bQ h1,zL]
 rw[e,ba,ba,show min (min m s.length) (min n s.length)=min m s.length by omega,gI]
theorem asX (s:ByteArray):av ((c_ s).map UInt8.ofNat)=s:=by
 unfold c_;rw[yi]
 have:s.toList.map (UInt8.ofNat∘UInt8.toNat)=s.toList:=by
  conv=>rhs;rw[<-List.map_id s.toList]
  exact Ct λ x _=>by simp
 rw[this,kf]
theorem asY (b:Nat)(r:Option Nat)(Q:Qs)(hd:Q.done=false)(w:World)(hR:RQ w b r Q):Calls Tryz.prog 14 #[.pointer (some ⟨b,0,none⟩)] w λ e w'=>e= .returned (.tuple #[.int .i64 0,.bool false])/\Below w.heap.size w w':=by
 obtain⟨lv,dv,⟨v,hB,aw,cK⟩,_,_⟩:=hR;have DX:=hB.cell_ 11 (.bool Q.done) rfl;rw[hd]at DX;clear hB aw cK;go_enter Tryz.func14,Tryz.ntmps14;go_wp2_with fail;refine eX (wM rfl _ _ _) rfl ?_;exact⟨rfl,aB _ _⟩
