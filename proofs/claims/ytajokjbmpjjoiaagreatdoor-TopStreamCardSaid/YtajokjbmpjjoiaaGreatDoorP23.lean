import Derived.Test.YtajokjbmpjjoiaaGreatDoorP00
import Derived.Test.YtajokjbmpjjoiaaGreatDoorP17
import Derived.Laws.CopyOwn
set_option maxRecDepth 20000
set_option maxHeartbeats 0
namespace Go.Proofs.YtajokjbmpjjoiaaGreatDoor
section
open Go.RowKit Go.Maps
def j8 (z:Nat)(n p:Nat):List Value:=List.replicate p (.int .i64 (z:Nat))++List.replicate (n-p) (.int .i64 0)
theorem aa9 (z:Nat){n p:Nat}(h:p<=n):(j8 z n p).length=n:=by simp[j8];omega
theorem aba (z:Nat){n p q:Nat}(h:p+q<=n):splice (j8 z n p) p (List.replicate q (.int .i64 (z:Nat)))=j8 z n (p+q):=by
 unfold splice j8;rw[te aj,cA,List.drop_append,cA,nD aj,List.nil_append,List.drop_replicate,<-aN,KB];congr 2;omega
theorem anR (z:Nat){n p j:Nat}(h:j<p):(j8 z n p)[j]? =some (.int .i64 (z:Nat)):=by
 unfold j8;rw[ux (by simp;exact h),nE,if_pos h]
theorem abb (z:Nat)(q:Nat):∀v∈List.replicate q (Value.int .i64 (z:Nat)),v.oneCell'=true:=by
 intro v hv;rw[List.mem_replicate]at hv;rw[hv.2];rfl
theorem anS (n:Nat)(hn:n<=1024)(w:World):Calls Tryz.prog 110 #[.int .u64 (1:Int),.int .u64 (n:Int)] w λ e w'=>e= .returned (.tuple #[.int .u64 0,.int .u64 (n:Int)])/\w'=w:=by
 have h:=Tryz.bits_Mul 1 n aa aa w;rw[show 1*n/18446744073709551616=0 by omega,show 1*n%18446744073709551616=n by omega]at h;exact h
theorem anT:(Tryz.prog.info? 3).map (λ i=>(i.zero,i.size,i.bytes))=some (some (.int .i64 0),1,8):=ah
theorem abd:(Tryz.prog.info? 3).map (·.size)=some 1:=ah
theorem anU (z:Nat)(n:Nat):(madeCells #[.int .i64 0] n)=(j8 z n 0).toArray:=by
 unfold j8 madeCells;refine Array.ext aj λ i h1 h2=>?_;simp[Nat.mod_one]
set_option maxRecDepth 100000 in
theorem NA (w:World) (z:Nat) (n:Nat) (h1:1<=n) (h2:n<=1024) (g0 I9:Nat) (hz:w.cell? ⟨g0,0,none⟩=some (.int .i64 (z:Nat))):
 Calls Tryz.prog 151 #[.slice (some ⟨g0,0,none⟩) 1 I9,.int .i64 (n:Int)] w λ e w'=>∃g,e= .returned (.slice (some ⟨g,0,none⟩) n n)/\w.heap.size<=g/\Bk w' g 3 (j8 z n n).toArray/\Below w.heap.size w w':=by
 have vh:=run_make_row' (P:=Tryz.prog) 79 3 (.int .i64 0) 8 Tryz.underlying79 anT rfl .i64 .i64 n aa aa;have K7:¬(n:Int)<0:=aa;have MX:¬(9223372036854775807:Int)<(n:Int):=aa;have eC:IntKind.u64.wrap (n:Int)=(n:Int):=by rw[IntKind.wrap_u64];omega
 have dS:IntKind.i64.wrap (n:Int)=(n:Int):=by rw[aE];omega
 have hcs:Nat.min 1 n=1:=lB h1;go_enter Tryz.func151,Tryz.ntmps151;go_wp2_with fail;(with_reducible refine(anS n h2 w).mono ?_);rintro e w1 ⟨rfl,rfl⟩;rw[anU z n]at vh;have abe:Bk (w1.alloc (.cells (j8 z n 0).toArray 3)) w1.heap.size 3 (j8 z n 0).toArray:=Bk.new w1 _ _;have abf:(w1.alloc (.cells (j8 z n 0).toArray 3)).cell? ⟨g0,0,none⟩=some (.int .i64 (z:Nat)):=(((aB _ w1).alloc (ai _) (.cells (j8 z n 0).toArray 3)).cell (cQ w1 _ hz)).trans hz;have jZ:=ae ((aB _ w1).alloc (ai _) (.cells (j8 z n 0).toArray 3));have HN:=ae (af h1 h2)
 go_wp2_with (first
  |(refine wpList_copy_splice rfl (.tmp 31) (.tmp 32) 79 79 rfl 3 Tryz.underlying79 abd (some ⟨w1.heap.size,0,none⟩) (some ⟨g0,0,none⟩) n n 1 I9 rfl rfl w1.heap.size 0 (j8 z n 0) 3 abe [.int .i64 (z:Nat)] hcs.symm ?_ ?_ (abb z 1) w1.heap.size w1 jZ.out (ai _) ?_
    ·exact λ _=>⟨rfl,_,rfl,λ j v hj=>by
      cases j with
      |zero=>simp at hj;subst hj;exact abf
      |succ j=>simp at hj⟩
    ·rw[aa9 z (gV _)];simp;exact h1
    intro w2 dU aC)
  |fail)
 have mD:Hid (Bk w2 w1.heap.size 3 (j8 z n 1).toArray):=ae (by have h:=dU;rw[show[Value.int .i64 ((z:Nat):Int)]=List.replicate 1 (.int .i64 (z:Nat))from rfl,aba z aa]at h;exact h);have bG:=ae aC;clear dU aC abe abf hz vh hcs jZ;go_loopw [8] (λ i wr=>∃p:Nat,1<=p/\p<=n/\i= .int .i64 p/\Hid (Bk wr w1.heap.size 3 (j8 z n p).toArray)/\Hid (Below w1.heap.size w1 wr)) (λ i _=>n-(intOf i).toNat)
 case atStart=>exact⟨1,ai _,h1,rfl,mD,bG⟩
 case round=>
  obtain⟨p,cN,anV,rfl,HF,HB⟩:=hrel;by_cases ao:p<n
  ·have lL:(p:Int)<(n:Int):=aa;have cI:(p:Int)<=(n:Int):=aa;have Bz:(0:Int)<=(p:Int):=aa;have avp:¬n=p:=aa;obtain⟨q,hq⟩:∃q,Nat.min p (n-p)=q:=⟨_,rfl⟩
   have t_:p+q<=n/\1<=q/\q<=p:=by
    rw[<-hq];show p+min p (n-p)<=n/\1<=min p (n-p)/\min p (n-p)<=p;omega
   have HQ:=ae t_;have anW:=ae hq;have hF:=HF.out;have DN:IntKind.i64.wrap ((p:Int)+(q:Int))=(p:Int)+(q:Int):=by rw[aE];omega
   have anX:goInt (List.replicate q (Value.int .i64 (z:Nat))).length= .int .i64 (q:Int):=by rw[cA];rfl
   have vL:wr.drew.heap[w1.heap.size]? =some (.cells (j8 z n p).toArray 3 (0,0)):=hF;clear hq t_ hF;go_wp2_with fail
   go_region_law (
    (refine step_copy_splice rfl (.tmp 41) (.tmp 44) 79 79 rfl 3 Tryz.underlying79 abd (some ⟨w1.heap.size,p,none⟩) (some ⟨w1.heap.size,0,none⟩) (n-p) (n-p) p n (by simp[Act.eval,Act.put]) (by simp[Act.eval,Act.put]) w1.heap.size p (j8 z n p) 3 vL (List.replicate q (.int .i64 (z:Nat))) (by rw[cA];exact anW.out.symm) ?_ ?_ (abb z q) w1.heap.size w1 ?_ (ai _) ?_
     ·exact λ _=>⟨rfl,_,rfl,λ j v hj=>by
       rw[nE]at hj;split at hj
       ·rename_i avq
        cases hj
        have:=Bk.cell (w:=wr.drew) vL j;rw[gW,anR z (by have:=HQ.out;omega)]at this;rw[lD,jd];exact this
       ·cases hj⟩
     ·rw[aa9 z anV,cA];exact HQ.out.1
     ·exact HB.out.trans ⟨rfl,rfl,rfl,ai _,λ _ _=>rfl⟩
     rw[anX]
     intro w3 cz aO))
   all_goals
    have BA:Hid (Bk w3 w1.heap.size 3 (j8 z n (p+q)).toArray):=ae (by have h:=cz;rw[aba z HQ.out.1]at h;exact h)
    have dm:=ae aO
    clear cz aO
    simp only[List.getElem_toArray,List.getElem_cons_succ,List.getElem_cons_zero,Act.put,bP,bN,bL]
    go_wp2_with fail
    go_roundw
    case rel=>exact⟨p+q,aa,HQ.out.1,congrArg _ aa,BA,dm⟩
    case measure=>have:=HQ.out;simp[intOf];omega
  ·have lL:¬(p:Int)<(n:Int):=aa;obtain rfl:p=n:=aa;go_wp2_with fail;go_ret;exact⟨_,rfl,ai _,HF.out,HB.out⟩
theorem NB (z n:Nat):j8 z n n=nv (List.replicate n z):=by
 unfold j8 nv;simp
end
section
open Go.RowKit
theorem anY (n:Nat)(h1:1<=n)(hn:n<=100000)(w:World):
 Calls Tryz.prog 219 #[.slice none 0 0,.int .i64 (n:Nat)] w λ e w'=>∃v,e= .returned v/\w'.ownsRow w.heap.size 3 1 v 0 []/\Below w.heap.size w w':=by
 have vh:=run_make_row' (P:=Tryz.prog) 79 3 (.int .i64 0) 8 Tryz.underlying79 xF rfl .i64 .i64 n aa aa;have hb:Tryz.t3.bytes=8:=ah
 have qt:¬281474976710656<Builtin.nextslicecap n 0*8:=by
  have:=growslice_fits (need:=n) (old:=0) (bytes:=8) aa aa;omega
 have h2:(n:Int)*8<=281474976710656:=aa;have h3:(n:Int)<=9223372036854775807:=aa;have h4:¬(n:Int)<0:=aa;have h5:(0:Int)<(n:Int):=aa;go_enter Tryz.func219,Tryz.ntmps219;go_wp2_with fail;go_ret;have lk:=grownCap_ge w n 0 3;have hle:=EE w n 0 3 (by unfold maxLen;omega);have hm:=World.ownsRow_made (e:=3) (size:=1) w.drew (Builtin.zeroCells #[.int .i64 0] n++Builtin.zeroCells #[.int .i64 0] (grownCap w n 0 3-n)) (grownCap w n 0 3) (base:=w.heap.size) (ai _) hle (by rw[wI,size_zeroCells,size_zeroCells];simp;omega);exact⟨_,rfl,hm,(aB _ w).drew.alloc (ai _) _⟩
def kU (w:World):List Value->List (List Nat)->Prop
 |[],[]=>True
 |v::vs,l::ls=>(∃A c,v= .slice A l.length c/\l.length<=c/\c<=maxLen/\Rd w A (nv l))/\kU w vs ls
 |_,_=>False
theorem kU.len {w:World}:∀{vs:List Value} {ls:List (List Nat)},kU w vs ls->vs.length=ls.length
 |[],[],_=>rfl
 |_::vs,_::ls,h=>by rw[aU,aU,kU.len h.2]
 |[],_::_,h=>h.elim
 |_::_,[],h=>h.elim
theorem kU.get {w:World}:∀{vs:List Value} {ls:List (List Nat)},kU w vs ls->∀(i:Nat) (l:List Nat),ls[i]? =some l->∃A c,vs[i]? =some (.slice A l.length c)/\l.length<=c/\c<=maxLen/\Rd w A (nv l)
 |[],[],_,_,_,h=>by simp at h
 |v::vs,l::ls,h,0,x,hx=>by
  simp at hx;subst hx;obtain⟨A,c,e,h1,h2,h3⟩:=h.1;exact⟨A,c,by rw[e];rfl,h1,h2,h3⟩
 |v::vs,l::ls,h,i+1,x,hx=>by
  rw[eF]at hx⊢;exact kU.get h.2 i x hx
 |[],_::_,h,_,_,_=>h.elim
 |_::_,[],h,_,_,_=>h.elim
theorem kU.below {w w':World}(hb:Below w.heap.size w w'):∀{vs:List Value} {ls:List (List Nat)},kU w vs ls->kU w' vs ls
 |[],[],_=>trivial
 |_::vs,_::ls,h=>by
  obtain⟨⟨A,c,e,h1,h2,h3⟩,h4⟩:=h;exact⟨⟨A,c,e,h1,h2,h3.below hb⟩,kU.below hb h4⟩
 |[],_::_,h=>h.elim
 |_::_,[],h=>h.elim
theorem abg (ls:List (List Nat))(i:Nat)(l:List Nat)(h:ls[i]? =some l):(ls.take (i+1)).flatten=(ls.take i).flatten++l:=by
 rw[eu,h,Cv];simp
theorem Sk (ls:List (List Nat))(i:Nat):(ls.take i).flatten.length<=ls.flatten.length:=by
 conv=>rhs;rw[<-gI i ls,Cv,ag]
 omega
def anZ (l:List Nat)(w:World)(e:Ending)(w':World):Prop:=∃A c,e= .returned (.slice A l.length c)/\l.length<=c/\c<=maxLen/\Rd w' A (nv l)/\(∀ad,A=some ad->w.heap.size<=ad.block)/\Below w.heap.size w w'
theorem an0 (vs:List Value)(ls:List (List Nat))(n:Nat)(hn:ls.length=n)(abh:n<=10)(h1:1<=ls.flatten.length)(hT:ls.flatten.length<=10000)(A:Option Addr)(c:Nat)(w:World)(hv:kU w vs ls)(hr:Rd w A vs):
 Calls Tryz.prog 150 #[.slice A n c] w (anZ ls.flatten w):=by
 have HV:=ae hv;have HR:=ae hr;have HN:=ae hn;have HT:=ae (af h1 hT);clear hv hr hn h1 hT;go_enter Tryz.func150,Tryz.ntmps150;go_wp2_with fail;go_loop [3,11] (λ vz vi=>∃i:Nat,vi= .int .i64 (i:Nat)/\i<=n/\vz= .int .i64 (((ls.take i).flatten.length:Nat))) (λ _ vi=>n-vnat vi)
 case atStart=>exact⟨0,rfl,aa,rfl⟩
 case round=>
  obtain⟨i,rfl,hi,rfl⟩:=hrel;have uc:=Sk ls i;obtain⟨z,hz⟩:∃z,(ls.take i).flatten.length=z:=⟨_,rfl⟩;have Dz:z<=10000:=by have:=HT.out.2;omega
  rw[hz];by_cases ao:(i:Int)<(n:Int)
  ·obtain⟨l,hl⟩:∃l,ls[i]? =some l:=⟨_,aZ (by rw[HN.out];omega)⟩;obtain⟨Al,cl,zh,lL,cI,lp⟩:=HV.out.get i l hl;obtain⟨b,o,rfl,hc⟩:=HR.out (by intro e;rw[e]at zh;simp at zh);have xz:=hc i _ zh;have HF:=ae (abg ls i l hl);have zj:=Sk ls (i+1);rw[HF.out,ag,hz]at zj;obtain⟨m,hm⟩:∃m,l.length=m:=⟨_,rfl⟩;rw[hm]at xz lL zj;have fy:z+m<=10000:=by have:=HT.out.2;omega
   have HZ:=ae (af hz hm);have iT:¬(z:Int)+(m:Int)<0:=aa;clear hl zh hc uc zj hz hm lp;go_wp2_with fail;go_round
   case rel=>exact⟨i+1,by first|rfl|go_num,aa,by rw[HF.out,ag,HZ.out.1,HZ.out.2];first|rfl|go_num⟩
   case measure=>simp[vnat];omega
  ·obtain rfl:i=n:=aa;have HZ:=ae (show z=ls.flatten.length by rw[<-hz,bQ (by rw[HN.out];omega)]);clear hz uc;go_wp2_with fail;(with_reducible refine(anY z (by rw[HZ.out];exact HT.out.1) aa w).mono ?_);rintro e w1 ⟨v,rfl,ey,au⟩;have H1:=ae (af ey au);clear ey au;go_wp2_with fail;go_loopw [6,27] (λ vz vi wr=>∃j:Nat,vi= .int .i64 (j:Nat)/\j<=i/\Hid (wr.ownsRow w.heap.size 3 1 vz (ls.take j).flatten.length (nv (ls.take j).flatten)/\Below w.heap.size w wr)) (λ _ vi _=>i-vnat vi)
   case atStart=>exact⟨0,rfl,aa,H1⟩
   case round=>
    clear H1;obtain⟨j,rfl,hj,HX⟩:=hrel;by_cases fO:(j:Int)<(i:Int)
    ·obtain⟨l,hl⟩:∃l,ls[j]? =some l:=⟨_,aZ (by rw[HN.out];omega)⟩;obtain⟨Al,cl,zh,lL,cI,lp⟩:=(HV.out.below HX.out.2).get j l hl;obtain⟨b,o,rfl,hc⟩:=(HR.out.below HX.out.2) (by intro e;rw[e]at zh;simp at zh);have xz:=hc j _ zh;have HF:=ae (abg ls j l hl);have zj:=Sk ls (j+1);rw[HF.out,ag]at zj;obtain⟨m,hm⟩:∃m,l.length=m:=⟨_,rfl⟩;rw[hm]at xz lL zj;obtain⟨T,abj⟩:∃T,(ls.take j).flatten=T:=⟨_,rfl⟩;rw[abj]at HX HF zj;obtain⟨q,hq⟩:∃q,T.length=q:=⟨_,rfl⟩;rw[hq]at HX zj;have fy:q+m<=10000:=by have:=HT.out.2;omega
     have HZ:=ae (af hq (af hm lp));clear hl zh hc zj abj hq hm lp;go_wp2_with (at_builtin;go_must (refine qm _ rfl (.tmp 31) (.tmp 32) 79 rfl w.heap.size 3 1 8 yW _ q (nv T) HX.out.1 rfl Al m cl (nv l) HZ.out.2.2 (by rw[II,HZ.out.2.1,yh]) rfl (Ra _) (by unfold maxLen;omega) aa HX.out.2.size ?_);intro v3 w3 FB aO);go_roundw
     case rel=>exact⟨j+1,by first|rfl|go_num,aa,ae ⟨by rw[HF.out,ag,HZ.out.1,HZ.out.2.1,Fv];exact FB,HX.out.2.trans aO⟩⟩
     case measure=>simp[vnat];omega
    ·obtain rfl:j=i:=aa;have hF:=HX.out;rw[bQ (by rw[HN.out];omega)]at hF;have hR:=rX.own hF.1 hF.2 (ai _);obtain⟨A5,c5,e5,DH,DI,Bl,Bm,Bo⟩:=hR;obtain⟨q,hq⟩:∃q,ls.flatten.length=q:=⟨_,rfl⟩;have HQ:=ae hq;have HF:=ae (af DH (af DI (af Bl (af Bm Bo))));rw[hq]at e5;have e6:_=Value.slice A5 q c5:=Ending.returned.inj e5;subst e6;clear hF DH DI Bl Bm Bo HX hq;go_wp2_with fail;go_ret;exact⟨A5,c5,by rw[HQ.out];rfl,HF.out⟩
