import Derived.Test.YtajokjbmpjjoiaaGreatDoorP27
import Derived.Lib.QuietBelow
set_option maxRecDepth 20000
set_option maxHeartbeats 0
namespace Go.Proofs.YtajokjbmpjjoiaaGreatDoor
section
open Go.RowKit Go.Sort
theorem Rd.acr {w:World}{g o:Nat}{l:List Fl}(h:Rd w (some ⟨g,o,none⟩) (fl l))(k:Nat):Rd w (some ⟨g,o+k*2,none⟩) (fl (l.drop k)):=λ hn=>by
 have hk:k<l.length:=by
  by_cases h2:k<l.length
  ·exact h2
  ·rw[rU aa]at hn;exact absurd rfl hn
 obtain⟨b,o',e,hc⟩:=h (by intro e;have:=kQ l;rw[e]at this;simp at this;omega)
 cases e
 refine⟨g,o+k*2,rfl,λ j u hj=>?_⟩
 have e1:(fl l)[k*2+j]? =some u:=by
  have h3:fl l=fl (l.take k)++fl (l.drop k):=by rw[<-tJ,gI]
  rw[h3,lf (by rw[kQ,ba];omega),kQ,ba,show k*2+j-min k l.length*2=j by omega];exact hj
 have:=hc _ _ e1;rw[show o+k*2+j=o+(k*2+j)by omega];exact this
theorem ay.own {w:World}{base n:Nat}{v:Value}{l:List Fl}(h:w.ownsRow base 53 2 v n (fl l))(hn:0<n):∃g c,v= .slice (some ⟨g,0,none⟩) n c/\n<=c/\c<=maxLen/\base<=g/\ay w g l:=by
 have hl:l.length=n:=by have:=h.1;rw[kQ]at this;omega
 rcases h.2 with⟨_,h0⟩|⟨g,cap,cur,hv,hb,hg,h1,h2,_,ht⟩
 ·omega
 ·exact⟨g,cap,hv,h1,h2,hb,cur,hg,by rw[hl];exact ht⟩
theorem apd (x y:Fl):0<fw y.1 x.1↔aM x y:=by
 rw[<-mi,show fw y.1 x.1= -fw x.1 y.1 from Xl _ _];omega
theorem acs (a b:ByteArray)(c:Int)(h:fw a b=c)(ha:a.size<=100000000)(hb:b.size<=100000000)(w:World):
 Calls Tryz.prog 56 #[.string a,.string b] w λ e w'=>e= .returned (.int .i64 c)/\Below w.heap.size w w':=by subst h;exact aiT a b w ha hb
theorem Rd.ape {w0 w1 w2:World}{B:Nat}{A:Option Addr}{xs:List Value}(h:Rd w0 A xs)(hA:∀ad,A=some ad->ad.block<B)(h1:Below B w0 w1)(h2:Below B w1 w2):Rd w2 A xs:=λ hn=>by
 obtain⟨b,o,e,hc⟩:=h hn;have hb:=hA _ e;exact⟨b,o,e,λ j u hj=>((h1.trans h2).cell (show b<B from hb)).trans (hc j u hj)⟩
def wh (w:World)(l:List Fl)(i:Nat)(v:Value):Prop:=(i=0/\v= .slice none 0 0)∨∃g c,0<i/\v= .slice (some ⟨g,0,none⟩) i c/\i<=c/\c<=maxLen/\ay w g (ck (l.take i))
theorem wh.aL {w w':World}{l:List Fl}{i:Nat}{v:Value}(h:wh w l i v)(hb:Below w.heap.size w w'):wh w' l i v:=by
 rcases h with h|⟨g,c,h0,h1,h2,h3,h4⟩
 ·exact .inl h
 ·exact .inr ⟨g,c,h0,h1,h2,h3,h4.aL hb⟩
def NR (l:List Fl)(x:Fl)(i k:Nat):Prop:=∀b∈(ck (l.take i)).drop k,aM x b
theorem SP {l:List Fl}{x:Fl}{i k:Nat}(hx:l[i]? =some x)(h:NR l x i k)(h1:k=0∨∃y,(ck (l.take i))[k-1]? =some y/\¬aM x y)(hk:k<=(ck (l.take i)).length):
 ck (l.take (i+1))=(ck (l.take i)).take k++x::(ck (l.take i)).drop k:=by
 have e:l.take (i+1)=l.take i++[x]:=by rw[eu,hx];rfl
 rw[e];refine ai1 (gI _ _).symm ?_ h;rcases h1 with rfl|⟨y,hy,ao⟩
 ·exact .inl (mM)
 ·rcases wG k with rfl|hp
  ·exact .inl (mM)
  ·refine .inr ⟨(ck (l.take i)).take (k-1),y,?_,ao⟩;have h2:(ck (l.take i)).take k=(ck (l.take i)).take (k-1+1):=by rw[Nat.sub_add_cancel hp]
   rw[h2,eu,hy];rfl
theorem apf {l:List Fl}{x y:Fl}{i k:Nat}(h:NR l x i (k+1))(hy:(ck (l.take i))[k]? =some y)(ao:aM x y):NR l x i k:=λ b hb=>by
 rw[drop_cons hy]at hb;rcases eW.1 hb with rfl|hb
 ·exact ao
 ·exact h b hb
theorem apg {l:List Fl}{i:Nat}(hi:i<=l.length):(ck (l.take i)).length=i:=by rw[(qL _).2.2,ba];omega
theorem SQ (x:Fl)(a b:List Fl):fl a++[.string x.1,.string x.2]++fl b=fl (a++x::b):=by
 rw[tJ,aN];rfl
theorem aph (l:List Fl)(A:Option Addr)(n c:Nat)(hn:l.length=n)(hl:n<=1000)(aG:∀x∈l,x.1.size<=100000000/\x.2.size<=100000000)(w:World)(hr:Rd w A (fl l)):
 Calls Tryz.prog 19 #[.slice A n c] w λ e w'=>∃v,e= .returned v/\wh w' l n v/\Below w.heap.size w w':=by
 have Hn:=ae hn;have HZ:=ae aG;have HR:=ae hr;have mixed:Tryz.prog.follows Departure.mixedOrders=true:=ah;clear hn aG;go_enter Tryz.func19,Tryz.ntmps19;go_wp2_with fail;go_loopw [3,4] (λ v3 vi wr=>∃(i:Nat) (v:Value),vi= .int .i64 i/\v3=v/\i<=n/\wh wr l i v/\Rd wr A (fl l)/\Below w.heap.size w wr) (λ _ vi _=>n-(intOf vi).toNat)
 case atStart=>exact⟨0,_,rfl,rfl,aa,.inl ⟨rfl,rfl⟩,hr,aB _ _⟩
 case round=>
  clear hr;obtain⟨i,v,rfl,rfl,hi,hO,nx,hb⟩:=hrel;by_cases ao:(i:Int)<(n:Int)
  ·have cP:i<l.length:=by rw[Hn.out];omega
   obtain⟨x,hx⟩:∃x,l[i]? =some x:=⟨_,getD_some cP⟩;have HX:=ae hx;have eB:=(HZ.out x (du hx)).1;obtain⟨b,o,rfl,q0,q1⟩:=nx.file hx;obtain⟨xp,xd⟩:=x;rw[show(o+(i*2+1):Nat)=o+i*2+1 by omega]at q1;have kD:=ae (apg (l:=l) (i:=i) aa);have yS:=ae (λ (y:Fl) (hy:y∈ck (l.take i))=>HZ.out y (s6 (Xv.1 hy)));clear hx cP;rcases hO with⟨rfl,rfl⟩|⟨g,cb,xq,rfl,wT,fG,hF⟩
   ·have e0:ck (l.take (0+1))=[(xp,xd)]:=by
     have h:=SP (l:=l) (x:=(xp,xd)) (i:=0) (k:=0) HX.out (λ b hb=>by simp[ck]at hb) (.inl rfl) aa;rw[h];simp[ck]
    have Nn:=ae e0
    have jZ:∀ad,some (⟨b,o,none⟩:Addr)=some ad->ad.block<w.heap.size:=by
     obtain⟨b',o',e,c0,_⟩:=HR.out.file HX.out
     cases e
     intro ad h
     cases h
     exact cQ w _ c0
    have gq:=ae jZ;clear e0 jZ;simp only[Nat.zero_mul,Nat.add_zero]at q0 q1;go_wp2_with fail;go_loopw [5] (λ vk bU=>vk= .int .i64 0/\Rd bU (some ⟨b,o,none⟩) (fl l)/\bU.cell? ⟨b,o,none⟩=some (.string xp)/\bU.cell? ⟨b,o+1,none⟩=some (.string xd)/\Below w.heap.size w bU) (λ vk _=>0)
    case atStart=>exact⟨rfl,nx,q0,q1,hb⟩
    case round=>
     clear nx q0 q1 hb;obtain⟨rfl,nx,q0,q1,hb⟩:=hrel;have NS:w.heap.size<=wr.drew.heap.size:=hb.size;go_wp2_with fail;go_big_region_o
     all_goals
      go_upto_region 10 with(fail)
      go_upto_region 11 with(at_builtin;go_must (refine lg wr.drew rfl (.tmp 39) (.tmp 44) 22 rfl w.heap.size 53 2 32 pj _ _ _ (jD _ _ _ _) rfl _ rfl rfl (by intro u hu;simp at hu;rcases hu with rfl|rfl<;>rfl) (by unfold maxLen;omega) aa NS ?_);intro v2 w2 dk aC)
      have eI:=Below.size (hb.drew.trans aC)
      go_wp2_with (at_builtin;go_must (refine qm w2 rfl (.tmp 46) (.tmp 49) 22 rfl w.heap.size 53 2 32 pj _ _ _ dk rfl none 0 0 [] (Rd.nil _ _) rfl rfl aj (by unfold maxLen;omega) aa eI ?_);intro v3 w3 fJ aO)
      have jh:Below w.heap.size w w3:=(hb.drew.trans aC).trans aO
      have DZ:Rd w3 (some ⟨b,o,none⟩) (fl l):=(show Rd wr.drew (some ⟨b,o,none⟩) (fl l)from nx).ape gq.out aC aO
      have HV:=ae (show wh w3 l (0+1) v3 from by
       simp only[jd,List.nil_append,bV,Nat.add_zero]at fJ;have hq:[Value.string xp,Value.string xd]=fl (ck (l.take (0+1))):=by rw[Nn.out];rfl
       rw[hq]at fJ;obtain⟨g3,c3,e3,k1,k2,_,k4⟩:=ay.own fJ aa;exact .inr ⟨g3,c3,aa,e3,k1,k2,k4⟩)
      go_round
      case rel=>exact⟨1,_,by first|rfl|go_num,rfl,aa,HV.out,DZ,jh⟩
      case measure=>simp[intOf];omega
   ·go_wp2_with fail;go_loopw [5] (λ vk bU=>∃k:Nat,vk= .int .i64 k/\k<=i/\Hid (NR l (xp,xd) i k)/\ay bU g (ck (l.take i))/\Rd bU (some ⟨b,o,none⟩) (fl l)/\bU.cell? ⟨b,o+i*2,none⟩=some (.string xp)/\bU.cell? ⟨b,o+i*2+1,none⟩=some (.string xd)/\Below w.heap.size w bU) (λ vk _=>(intOf vk).toNat)
    case atStart=>exact⟨i,rfl,ai _,ae (λ b hb=>by rw[rU (by rw[kD.out];exact ai _)]at hb;cases hb),hF,nx,q0,q1,hb⟩
    case round=>
     clear hF nx q0 q1 hb;obtain⟨k,rfl,hk,hP,hF,nx,q0,q1,hb⟩:=hrel;by_cases eR:(0:Int)<(k:Int)
     ·obtain⟨kp,rfl⟩:∃kp,k=kp+1:=⟨k-1,aa⟩;obtain⟨y,hy⟩:∃y,(ck (l.take i))[kp]? =some y:=⟨_,getD_some (by rw[kD.out];omega)⟩;have HY:=ae hy;obtain⟨y0,y1⟩:=hF.cell hy;have xt:=(yS.out y (du hy)).1;obtain⟨yp,yd⟩:=y;obtain⟨cc,hc⟩:∃cc,fw yp xp=cc:=⟨_,rfl⟩;have aV:=apd (xp,xd) (yp,yd);rw[show fw (yp,yd).1 (xp,xd).1=cc from hc]at aV;have HC:=ae hc;have SR:∀d os,(grow (redrawn wr d) os).cell? ⟨b,o+i*2,none⟩=some (.string xp):=λ d os=>cell_regrown q0 d os;have api:∀d os,(grow (redrawn wr d) os).cell? ⟨g,kp*2,none⟩=some (.string yp):=λ d os=>cell_regrown y0 d os;have DN:IntKind.i64.wrap (kp:Int)=(kp:Int):=by rw[aE];omega
      have kz:(kp:Int)<(i:Int):=aa;clear hy hc y0 y1;by_cases sH:0<cc
      ·have xL:=ae (apf hP.out HY.out (aV.1 sH));clear aV;go_wp2_with fail;refine wp_region_quiet_below (by assumption) ah ?_;repeat(quiet_step (first|(go_at_call 56;refine Calls.regrown_of (acs yp xp cc HC.out xt eB _))))
       refine wpQuiet_nil ?_;intro _ sb;obtain⟨⟨nq,osq⟩,SS⟩:=sb;subst SS;go_wp2_with fail;have fM:=below_regrown wr nq osq;go_round
       case rel=>exact⟨kp,by first|rfl|go_num,aa,xL,hF.aL fM,nx.below fM,SR nq osq,(fM.cell (cQ wr _ q1)).trans q1,bl hb fM⟩
       case measure=>simp[intOf]
      ·have fO:¬aM (xp,xd) (yp,yd):=λ h=>sH (aV.2 h);have iJ:=ae fO;clear aV fO;go_wp2_with fail;refine wp_region_quiet_below (by assumption) ah ?_;repeat(quiet_step (first|(go_at_call 56;refine Calls.regrown_of (acs yp xp cc HC.out xt eB _))))
       refine wpQuiet_nil ?_;intro _ sb;obtain⟨⟨nq,osq⟩,SS⟩:=sb;subst SS;have fM:=below_regrown wr nq osq;have JP:=hF.aL fM;have JQ:=nx.below fM;have JR:=SR nq osq;have Ca:=(fM.cell (cQ wr _ q1)).trans q1;have oV:=bl hb fM;clear hF nx q0 q1 hb SR api fM;generalize grow (redrawn wr nq) osq=wr at*;have hF:=JP;have nx:=JQ;have q0:=JR;have q1:=Ca;have hb:=oV;clear JP JQ JR Ca oV;obtain⟨SK,zp⟩:∃S,(ck (l.take i)).take (kp+1)=S:=⟨_,rfl⟩;obtain⟨SD,zq⟩:∃S,(ck (l.take i)).drop (kp+1)=S:=⟨_,rfl⟩;have NT:=ae (show ck (l.take (i+1))=SK++(xp,xd)::SD from by rw[<-zp,<-zq];exact SP HX.out hP.out (.inr ⟨(yp,yd),by rw[qh];exact HY.out,iJ.out⟩) (by rw[kD.out];omega));have NU:=ae (rfl:SK=SK);have NV:=ae (rfl:SD=SD);have mI:=ae (show(fl SK).length=(kp+1)*2 by rw[kQ,<-zp,ba,kD.out];omega);have ja:=ae (show(fl SD).length=(i-(kp+1))*2 by rw[kQ,<-zq,cw,kD.out]);have NW:Rd wr (some ⟨g,0,none⟩) (fl SK):=by rw[<-zp];exact hF.rd.ij (kp+1)
       have Cb:Rd wr (some ⟨g,0+(kp+1)*2,none⟩) (fl SD):=by rw[<-zq];exact hF.rd.acr (kp+1)
       rw[jd]at Cb;clear zp zq;by_cases r_:cb=(kp+1)
       ·have apj:=ae (show i=(kp+1)by omega);have acu:SD=[]:=dP (by have:=ja.out;have:=apj.out;rw[kQ]at*;omega);have apk:=ae acu;clear Cb acu;go_upto_region 10 with(at_builtin;go_must (refine qm wr rfl (.tmp 34) (.tmp 37) 22 rfl wr.heap.size 53 2 32 pj _ _ _ (jD _ _ _ _) rfl _ _ _ (fl SK) NW mI.out rfl (xo _) (by unfold maxLen;omega) aa (ai _) ?_);intro v1 w1 gg au;simp only[jd,List.nil_append]at gg);have acv:=(au.cell (cQ wr _ q0)).trans q0;have acw:=(au.cell (cQ wr _ q1)).trans q1;have dH:=au.size;go_upto_region 11 with(at_builtin;go_must (refine lg w1 rfl (.tmp 39) (.tmp 44) 22 rfl wr.heap.size 53 2 32 pj _ _ _ gg rfl _ rfl rfl (by intro u hu;simp at hu;rcases hu with rfl|rfl<;>rfl) (by unfold maxLen;omega) aa dH ?_);intro v2 w2 dk aC);have xR:=au.trans aC;have eI:=xR.size;go_wp2_with (at_builtin;go_must (refine qm w2 rfl (.tmp 46) (.tmp 49) 22 rfl wr.heap.size 53 2 32 pj _ _ _ dk rfl _ _ _ (fl SD) (by rw[apk.out];exact Rd.nil _ _) ja.out rfl (xo _) (by unfold maxLen;omega) aa eI ?_);intro v3 w3 fJ aO)
        have HV:=ae (show wh w3 l (i+1) v3 from by
         have hq:fl SK++#[.string xp,.string xd].toList++fl SD=fl (ck (l.take (i+1))):=by rw[NT.out,<-SQ (xp,xd),<-NU.out,<-NV.out]
         rw[hq]at fJ;have iT:(kp+1)+1+(i-(kp+1))=i+1:=aa;rw[iT]at fJ;obtain⟨g3,c3,e3,k1,k2,_,k4⟩:=ay.own fJ aa;exact .inr ⟨g3,c3,aa,e3,k1,k2,k4⟩)
        have Cc:=xR.trans aO;have DZ:=nx.below Cc;have jh:=bl hb Cc;go_round
        case rel=>exact⟨i+1,_,by first|rfl|go_num,rfl,aa,HV.out,DZ,jh⟩
        case measure=>simp[intOf];omega
       ·
        go_upto_region 10 with(at_builtin;go_must (refine qm wr rfl (.tmp 34) (.tmp 37) 22 rfl wr.heap.size 53 2 32 pj _ _ _ (jD _ _ _ _) rfl _ _ _ (fl SK) NW mI.out rfl (xo _) (by unfold maxLen;omega) aa (ai _) ?_);intro v1 w1 gg au;simp only[jd,List.nil_append]at gg)
        have acv:=(au.cell (cQ wr _ q0)).trans q0
        have acw:=(au.cell (cQ wr _ q1)).trans q1
        have dH:=au.size
        have apl:=Cb.below au
        go_upto_region 11 with(at_builtin;go_must (refine lg w1 rfl (.tmp 39) (.tmp 44) 22 rfl wr.heap.size 53 2 32 pj _ _ _ gg rfl _ rfl rfl (by intro u hu;simp at hu;rcases hu with rfl|rfl<;>rfl) (by unfold maxLen;omega) aa dH ?_);intro v2 w2 dk aC)
        have xR:=au.trans aC
        have SU:=Cb.below xR
        have eI:=xR.size
        go_wp2_with (at_builtin;go_must (refine qm w2 rfl (.tmp 46) (.tmp 49) 22 rfl wr.heap.size 53 2 32 pj _ _ _ dk rfl _ _ _ (fl SD) SU ja.out rfl (xo _) (by unfold maxLen;omega) aa eI ?_);intro v3 w3 fJ aO)
        have HV:=ae (show wh w3 l (i+1) v3 from by
         have hq:fl SK++#[.string xp,.string xd].toList++fl SD=fl (ck (l.take (i+1))):=by rw[NT.out,<-SQ (xp,xd),<-NU.out,<-NV.out]
         rw[hq]at fJ;have iT:(kp+1)+1+(i-(kp+1))=i+1:=aa;rw[iT]at fJ;obtain⟨g3,c3,e3,k1,k2,_,k4⟩:=ay.own fJ aa;exact .inr ⟨g3,c3,aa,e3,k1,k2,k4⟩)
        have Cc:=xR.trans aO
        have DZ:=nx.below Cc
        have jh:=bl hb Cc
        go_round
        case rel=>exact⟨i+1,_,by first|rfl|go_num,rfl,aa,HV.out,DZ,jh⟩
        case measure=>simp[intOf];omega
     ·obtain rfl:k=0:=aa;go_wp2_with fail;go_big_region_o
      all_goals
       have JP:ay wr.drew g (ck (l.take i)):=hF
       have JQ:Rd wr.drew (some ⟨b,o,none⟩) (fl l):=nx
       have JR:wr.drew.cell? ⟨b,o+i*2,none⟩=some (.string xp):=q0
       have Ca:wr.drew.cell? ⟨b,o+i*2+1,none⟩=some (.string xd):=q1
       have oV:=hb.drew
       clear hF nx q0 q1 hb
       generalize wr.drew=wr at*
       have hF:=JP
       have nx:=JQ
       have q0:=JR
       have q1:=Ca
       have hb:=oV
       clear JP JQ JR Ca oV
       obtain⟨SK,zp⟩:∃S,(ck (l.take i)).take 0=S:=⟨_,rfl⟩
       obtain⟨SD,zq⟩:∃S,(ck (l.take i)).drop 0=S:=⟨_,rfl⟩
       have NT:=ae (show ck (l.take (i+1))=SK++(xp,xd)::SD from by rw[<-zp,<-zq];exact SP HX.out hP.out (.inl rfl) (by rw[kD.out];omega))
       have NU:=ae (rfl:SK=SK)
       have NV:=ae (rfl:SD=SD)
       have mI:=ae (show(fl SK).length=0*2 by rw[kQ,<-zp,ba,kD.out];omega)
       have ja:=ae (show(fl SD).length=(i-0)*2 by rw[kQ,<-zq,cw,kD.out])
       have NW:Rd wr (some ⟨g,0,none⟩) (fl SK):=by rw[<-zp];exact hF.rd.ij 0
       have Cb:Rd wr (some ⟨g,0+0*2,none⟩) (fl SD):=by rw[<-zq];exact hF.rd.acr 0
       rw[jd]at Cb
       clear zp zq
       by_cases r_:cb=0
       ·exfalso;omega
       ·
        go_upto_region 10 with(at_builtin;go_must (refine qm wr rfl (.tmp 34) (.tmp 37) 22 rfl wr.heap.size 53 2 32 pj _ _ _ (jD _ _ _ _) rfl _ _ _ (fl SK) NW mI.out rfl (xo _) (by unfold maxLen;omega) aa (ai _) ?_);intro v1 w1 gg au;simp only[jd,List.nil_append]at gg)
        have acv:=(au.cell (cQ wr _ q0)).trans q0
        have acw:=(au.cell (cQ wr _ q1)).trans q1
        have dH:=au.size
        have apl:=Cb.below au
        go_upto_region 11 with(at_builtin;go_must (refine lg w1 rfl (.tmp 39) (.tmp 44) 22 rfl wr.heap.size 53 2 32 pj _ _ _ gg rfl _ rfl rfl (by intro u hu;simp at hu;rcases hu with rfl|rfl<;>rfl) (by unfold maxLen;omega) aa dH ?_);intro v2 w2 dk aC)
        have xR:=au.trans aC
        have SU:=Cb.below xR
        have eI:=xR.size
        go_wp2_with (at_builtin;go_must (refine qm w2 rfl (.tmp 46) (.tmp 49) 22 rfl wr.heap.size 53 2 32 pj _ _ _ dk rfl _ _ _ (fl SD) SU ja.out rfl (xo _) (by unfold maxLen;omega) aa eI ?_);intro v3 w3 fJ aO)
        have HV:=ae (show wh w3 l (i+1) v3 from by
         have hq:fl SK++#[.string xp,.string xd].toList++fl SD=fl (ck (l.take (i+1))):=by rw[NT.out,<-SQ (xp,xd),<-NU.out,<-NV.out]
         rw[hq]at fJ;have iT:0+1+(i-0)=i+1:=aa;rw[iT]at fJ;obtain⟨g3,c3,e3,k1,k2,_,k4⟩:=ay.own fJ aa;exact .inr ⟨g3,c3,aa,e3,k1,k2,k4⟩)
        have Cc:=xR.trans aO
        have DZ:=nx.below Cc
        have jh:=bl hb Cc
        go_round
        case rel=>exact⟨i+1,_,by first|rfl|go_num,rfl,aa,HV.out,DZ,jh⟩
        case measure=>simp[intOf];omega
  ·obtain rfl:i=n:=aa;go_wp2_with fail;go_ret;exact⟨_,rfl,hO,hb⟩
