import Derived.Test.YtajokjbmpjjoiaaGreatDoorP18
import Derived.Test.YtajokjbmpjjoiaaGreatDoorP23
set_option maxRecDepth 20000
set_option maxHeartbeats 0
set_option linter.unusedSimpArgs false
set_option linter.unusedVariables false
namespace Go.Proofs.YtajokjbmpjjoiaaGreatDoor
section
open Go.RowKit
def Sm (ls:List Nat)(w:World)(e:Ending)(w':World):Prop:=∃t,e= .returned (.pointer (some ⟨t,0,none⟩))/\w.heap.size<=t/\dA w' t ls/\Below w.heap.size w w'
theorem Sn (ls:List Nat)(A:Option Addr)(m c p:Nat)(hl:ls.length=m)(hm:m<=320)(hg:dh ls)(w:World)(hr:Rd w A (nv ls)):
 Calls Tryz.prog 154 #[.pointer (some ⟨p,0,none⟩),.slice A m c] w (Sm ls w):=by
 have HN:=ae (Rl ls A m c hl hm hg w hr);clear hl hg hr;go_enter Tryz.func154,Tryz.ntmps154;go_wp2_with fail;(with_reducible refine HN.out.mono ?_);rintro e w1 ⟨t,rfl,h1,h2,h3⟩;go_wp2_with fail;go_ret;exact⟨t,rfl,h1,h2,h3⟩
theorem ud {w:World}{g:Nat}{t:TypeId}{cs:List Value}(h:Bk w g t cs.toArray):Rd w (some ⟨g,0,none⟩) cs:=λ _=>⟨g,0,rfl,λ j u hj=>by rw[jd,h.cell];simpa using hj⟩
theorem an1 (p g:Nat)(v:Value)(x k most:Int)(w:World)(hP:pV w p g true):
 Calls Tryz.prog 222 #[.pointer (some ⟨p,0,none⟩),v,.int .i64 x,.int .i64 k,.int .i64 most] w λ e w'=>e= .returned v/\w=w':=by
 have HP:=ae hP;clear hP;go_enter Tryz.func222,Tryz.ntmps222;go_wp2_with (go_at_call 90;go_must (refine(dM p g true false rfl _ HP.out).mono ?_);rintro e w1 ⟨rfl,rfl⟩);go_ret;exact⟨rfl,rfl⟩
def an2 (b:Nat)(w:World)(L:List Nat)(e:Ending)(w':World):Prop:=∃(g' cap:Nat),e= .returned (.slice (some ⟨g',0,none⟩) L.length cap)/\w'.ownsRow b 3 1 (.slice (some ⟨g',0,none⟩) L.length cap) L.length (nv L)/\Below b w w'
theorem an3 (b p g:Nat)(A:Option Addr)(n c x k most:Nat)(L:List Nat)(Sp:L.length=n)(oP:1<=k)(hk:n+k<=most)(hm:most<=1000)(w:World)(hb:b<=w.heap.size)(hP:pV w p g false)(aw:w.ownsRow b 3 1 (.slice A n c) n (nv L)):
 Calls Tryz.prog 222 #[.pointer (some ⟨p,0,none⟩),.slice A n c,.int .i64 (x:Nat),.int .i64 (k:Nat),.int .i64 (most:Nat)] w (an2 b w (L++List.replicate k x)):=by
 have HP:=ae hP;have HO:=ae aw;have fa:=ae Sp;have h1:¬(most:Int)-(n:Int)<(k:Int):=aa;have HK:=ae (af oP hk);have gq:=ae hb
 have hnc:n<=c:=by
  obtain⟨_,A',c',e,h2,_⟩:=Sl.own aw
  cases e;exact h2
 clear hP aw Sp hb;go_enter Tryz.func222,Tryz.ntmps222;go_upto_region 5 with(go_at_call 90;go_must (refine(dM p g false true rfl _ HP.out).mono ?_);rintro e w1 ⟨rfl,rfl⟩);have eT:(w.alloc (.cells #[.int .i64 (x:Nat)] 3)).cell? ⟨w.heap.size,0,none⟩=some (.int .i64 (x:Nat)):=(Bk.new w 3 #[.int .i64 (x:Nat)]).cell 0;have HC:=ae eT;clear eT;go_wp2_with (first|(go_at_call 151;go_must (refine(NA _ x k HK.out.1 (by have:=HK.out;omega) w.heap.size 1 HC.out).mono ?_);rintro e w2 ⟨gr,rfl,tV,cC,aC⟩;have gp:=((aB w.heap.size w).alloc (ai _) (.cells #[.int .i64 (x:Nat)] 3)).trans (aC.mono aj);have bY:=ud cC;rw[NB]at bY;have mr:=ae (kL HO.out gp);have dX:=ae gp;have sC:=ae bY;clear cC aC gp bY)|(at_builtin;go_must (refine wpList_append_lies _ rfl (.tmp 27) (.tmp 31) 79 rfl b 3 _ _ 1 8 Tryz.underlying79 yW.2.2.choose_spec.choose_spec.1 yW.2.2.choose_spec.choose_spec.2.1 yW.2.2.choose_spec.choose_spec.2.2.1 yW.2.2.choose_spec.choose_spec.2.2.2.1 yW.2.2.choose_spec.choose_spec.2.2.2.2 aa (.slice A n c) n (nv L) rfl mr.out ⟨gr,0,none⟩ k k (nv (List.replicate k x)) rfl (by rw[II,cA,yh]) (λ j u hj=>by obtain⟨b0,o0,e0,lN⟩:=sC.out (by intro e;rw[e]at hj;simp at hj);cases e0;rw[lD];exact lN j u hj) (Ra _) (by have:=HK.out.1;omega) (by unfold maxLen;have:=HK.out;omega) (by have:=HK.out;omega) (b_ gq.out dX.out.size) _ rfl ?_);intro g' cap w3 fJ I' avr tL));go_ret;refine⟨g',cap,?_,?_,(dX.out.mono gq.out).trans ⟨I'.os,I'.tape,I'.output,I'.size,λ k2 bI=>I'.block k2 (by have:=dX.out.size;have:=gq.out;omega) (λ e=>by have:=(HO.out.lt k2 e.symm).1;omega)⟩⟩
 ·rw[ag,cA,fa.out];rfl
 ·rw[ag,cA,fa.out,Fv];exact fJ
def an4 (b n:Nat)(w:World)(sh:Bool)(L:List Nat)(e:Ending)(w':World):Prop:=∃A' n' c',e= .returned (.slice A' n' c')/\n<=n'/\Below b w w'/\(sh=false->n'=L.length/\w'.ownsRow b 3 1 (.slice A' n' c') n' (nv L))
theorem Sq (b p g:Nat)(A:Option Addr)(n c x k most:Nat)(sh:Bool)(L:List Nat)(hm:most<=1000)(w:World)(hb:b<=w.heap.size)(hP:pV w p g sh)(hl:sh=false->L.length=n/\1<=k/\n+k<=most/\w.ownsRow b 3 1 (.slice A n c) n (nv L)):
 Calls Tryz.prog 222 #[.pointer (some ⟨p,0,none⟩),.slice A n c,.int .i64 (x:Nat),.int .i64 (k:Nat),.int .i64 (most:Nat)] w (an4 b n w sh (L++List.replicate k x)):=by
 cases sh with
 |true=>
  refine(an1 p g _ _ _ _ w hP).mono ?_;rintro e w' ⟨rfl,rfl⟩;exact⟨A,n,c,rfl,ai _,aB _ _,nofun⟩
 |false=>
  obtain⟨h1,h2,h3,h4⟩:=hl rfl;refine(an3 b p g A n c x k most L h1 h2 h3 hm w hb hP h4).mono ?_;rintro e w' ⟨g',cap,rfl,h5,h6⟩;exact⟨some ⟨g',0,none⟩,_,cap,rfl,by rw[ag];omega,h6,λ _=>⟨rfl,h5⟩⟩
theorem an5 {w:World}{g z n:Nat}(h:Bk w g 3 (j8 z n n).toArray)(hn:n<=1024):∃A c,Value.slice (some ⟨g,0,none⟩) n n= .slice A (List.replicate n z).length c/\(List.replicate n z).length<=c/\c<=maxLen/\Rd w A (nv (List.replicate n z)):=by
 have hr:=ud h;rw[NB]at hr;exact⟨some ⟨g,0,none⟩,n,by rw[cA],by rw[cA];exact ai _,by unfold maxLen;omega,hr⟩
def an6 (l d:List Nat)(w:World)(e:Ending)(w':World):Prop:=∃t u,e= .returned (.tuple #[.pointer (some ⟨t,0,none⟩),.pointer (some ⟨u,0,none⟩)])/\dA w' t l/\dA w' u d/\Below w.heap.size w w'
theorem an7:[List.replicate 144 8,List.replicate 112 9,List.replicate 24 7,List.replicate 8 8].flatten=ic:=by
 unfold ic;rw[fY,fY,fY,fY,kK,bV]
theorem NC:ic.length=288:=by decide+kernel
theorem kU.snoc {w:World}{v:Value}{l:List Nat}(hv:∃A c,v= .slice A l.length c/\l.length<=c/\c<=maxLen/\Rd w A (nv l)):∀{vs:List Value} {ls:List (List Nat)},kU w vs ls->kU w (vs++[v]) (ls++[l])
 |[],[],_=>⟨hv,trivial⟩
 |_::_,_::_,h=>⟨h.1,kU.snoc hv h.2⟩
theorem abk {w0 w w1:World}{o:Obj}{vs:List Value}{ls:List (List Nat)}{v:Value}{l:List Nat}(h:kU w vs ls/\Below w0.heap.size w0 w)(hb:Below (w.alloc o).heap.size (w.alloc o) w1)(hv:∃A c,v= .slice A l.length c/\l.length<=c/\c<=maxLen/\Rd w1 A (nv l)):kU w1 (vs++[v]) (ls++[l])/\Below w0.heap.size w0 w1:=by
 have hA:=((aB w.heap.size w).alloc (ai _) o).trans (hb.mono aj);exact⟨kU.snoc hv (h.1.below hA),h.2.trans (hA.mono h.2.size)⟩
theorem abl (w:World)(zi ni:Int)(g0 I9:Nat)(hz:w.cell? ⟨g0,0,none⟩=some (.int .i64 zi))(h0:0<=zi)(h1:1<=ni)(h2:ni<=1024):
 Calls Tryz.prog 151 #[.slice (some ⟨g0,0,none⟩) 1 I9,.int .i64 ni] w λ e w'=>∃g,e= .returned (.slice (some ⟨g,0,none⟩) ni.toNat ni.toNat)/\(∃A c,Value.slice (some ⟨g,0,none⟩) ni.toNat ni.toNat= .slice A (List.replicate ni.toNat zi.toNat).length c/\(List.replicate ni.toNat zi.toNat).length<=c/\c<=maxLen/\Rd w' A (nv (List.replicate ni.toNat zi.toNat)))/\Below w.heap.size w w':=by
 have h:=NA w zi.toNat ni.toNat aa aa g0 I9 (by rw[hz,Int.toNat_of_nonneg h0]);rw[Int.toNat_of_nonneg aa]at h;refine h.mono ?_;rintro e w' ⟨g,rfl,_,hB,hb⟩;exact⟨_,rfl,an5 hB aa,hb⟩
theorem abm:([]++[List.replicate (Int.toNat 144) (Int.toNat 8)]++[List.replicate (Int.toNat 112) (Int.toNat 9)]++[List.replicate (Int.toNat 24) (Int.toNat 7)]++[List.replicate (Int.toNat 8) (Int.toNat 8)]).flatten=ic:=an7
theorem Sr (vs:List Value)(ls:List (List Nat))(L:List Nat)(m n:Nat)(hn:ls.length=n)(abh:n<=10)(hL:ls.flatten=L)(hm:L.length=m)(h1:1<=m)(hT:m<=10000)(A:Option Addr)(c:Nat)(w:World)(hv:kU w vs ls)(hr:Rd w A vs):
 Calls Tryz.prog 150 #[.slice A n c] w λ e w'=>∃A c,e= .returned (.slice A m c)/\m<=c/\c<=maxLen/\Rd w' A (nv L)/\(∀ad,A=some ad->w.heap.size<=ad.block)/\Below w.heap.size w w':=by
 subst hL hm;exact an0 vs ls n hn abh h1 hT A c w hv hr
theorem an8 (w:World):Calls Tryz.prog 97 #[] w (an6 ic kN w):=by
 have HA:Hid (kU w [] []/\Below w.heap.size w w):=ae ⟨trivial,aB _ _⟩;go_enter Tryz.func97,Tryz.ntmps97;go_upto_region 2 with(first|(go_at_call 151;go_must (refine(abl _ _ _ _ _ ((Bk.new _ _ _).cell 0) aa aa aa).mono ?_);rintro e w1 ⟨g1,rfl,eM,au⟩;have HA:=ae (abk HA.out au eM);clear eM au)|(go_at_call 150;have hA:=(aB w1.heap.size w1).alloc (ai _);go_must (refine(Sr _ _ ic 288 4 rfl aa abm NC aa aa _ 4 _ (HA.out.1.below (hA _)) (ud (Bk.new _ _ _))).mono ?_);rintro e w5 ⟨A5,c5,rfl,DP,DQ,jo,DR,bE⟩;have H5:=ae (af jo (HA.out.2.trans (((hA _).trans (bE.mono aj)).mono HA.out.2.size)));clear hA DP DQ jo DR bE));clear HA;go_wp2_with (first|(go_at_call 152;go_must (first|(refine(Rl kN _ 32 _ rfl aa Ln _ H8.out.1).mono ?_;rintro e w9 ⟨u,rfl,an9,Aa,Ss⟩;have H9:=ae (af (H6.out.1.below (H8.out.2.trans (Ss.mono H8.out.2.size))) (af Aa (H6.out.2.trans ((H8.out.2.trans (Ss.mono H8.out.2.size)).mono H6.out.2.size))));clear an9 Aa Ss)|(refine(Rl ic A5 288 c5 NC aa Lm w5 H5.out.1).mono ?_;rintro e w6 ⟨t,rfl,qW,jI,nt⟩;have H6:=ae (af jI (H5.out.2.trans (nt.mono H5.out.2.size)));clear qW jI nt)))|(go_at_call 151;go_must (refine(NA _ 5 32 aa aa _ 1 ((Bk.new _ _ #[.int .i64 (5:Nat)]).cell 0)).mono ?_);rintro e w8 ⟨g8,rfl,F5,eU,iO⟩;have sQ:=ud eU;rw[NB]at sQ;have H8:=ae (af (show Rd w8 (some ⟨g8,0,none⟩) (nv kN)from sQ) (((aB w6.heap.size w6).alloc (ai _) (.cells #[.int .i64 (5:Nat)] 3)).trans (iO.mono aj)));clear F5 eU iO sQ));refine eY (wM rfl _ _ _) rfl ?_;exact⟨t,u,rfl,H9.out.1,H9.out.2.1,H9.out.2.2⟩
theorem eV.below {w w1 w2:World}{p g:Nat}(h:eV w w1 p g)(hb:Below w.heap.size w1 w2):eV w w2 p g:=
 ⟨hb.os.trans h.os,hb.tape.trans h.tape,hb.output.trans h.output,b_ h.size hb.size,λ k hk h1 h2=>(hb.block k hk).trans (h.block k hk h1 h2),.inl rfl⟩
theorem b8.low {w w':World}{p g B:Nat}{s:ByteArray}{k:Nat}{sh:Bool}(h:b8 w p g s k sh)(hb:Below B w w')(hp:p<B)(hg:g<B):b8 w' p g s k sh:=⟨Bk.below h.pa hb hp,Bk.below h.rr hb hg,h.le⟩
theorem aoa (acc:List Nat)(r:Nat×Nat×Nat):acc.length+1<=(mS acc r).length:=by
 unfold mS;split
 ·simp
 ·split
  ·simp;omega
  ·split<;>simp<;>omega
theorem St:∀(rs:List (Nat×Nat×Nat)) (acc:List Nat),acc.length+rs.length<=(rs.foldl mS acc).length
 |[],acc=>by simp
 |r::rs,acc=>by
  have h1:=aoa acc r;have h2:=St rs (mS acc r);rw[kH,aU];omega
theorem aob (L:List Nat)(h:∀x∈L,x<16)(r:Nat×Nat×Nat)(l:List (Nat×Nat×Nat))(e:eK L=r::l):r.1≠16:=by
 cases L with
 |nil=>rw[eK]at e;cases e
 |cons x L=>
  have hx:=h x aj;rw[eK]at e;unfold nK at e;split at e
  ·simp only[gU]at e;have:=(yl e).1;rw[<-this];simp
  ·split at e
   ·simp only[gU]at e;have:=(yl e).1;rw[<-this];simp
   ·split at e
    ·simp only[gU]at e;have:=(yl e).1;rw[<-this];simp;omega
    ·simp only[gU]at e;have:=(yl e).1;rw[<-this];simp;omega
def F6 (lens:List Nat)(r:Nat×Nat×Nat):Prop:=r.1<lens.length/\0<lens.getD r.1 0/\r.1<19/\r.2.2<2^r.2.1/\(r.1<16->r.2.1=0)/\(r.1=16->r.2.1=2)/\(r.1=17->r.2.1=3)/\(r.1=18->r.2.1=7)
structure DS (U todo:List Bool)(lens L:List Nat)(s:ByteArray)(p g:Nat)(w:World)(A:Option Addr)(m c k:Nat)(sh:Bool)(acc:List Nat)(rs:List (Nat×Nat×Nat))(wr:World):Prop where
 pt:b8 wr p g s k sh
 fr:eV w wr p g
 dead:sh=true->(bH s.toList).length<U.length
 fold:sh=false->rs.foldl mS acc=L
 at':sh=false->fu U (bH s.toList) (rs.flatMap (ia lens)++todo) k
 len:sh=false->acc.length=m
 own:sh=false->wr.ownsRow w.heap.size 3 1 (.slice A m c) m (nv acc)
 head:acc=[]->∀r l,rs=r::l->r.1≠16
 ok:∀r∈rs,F6 lens r
def aoc (U todo:List Bool)(lens L:List Nat)(s:ByteArray)(p g:Nat)(w:World)(v7:Value)(wr:World):Prop:=∃(A:Option Addr) (m c k:Nat) (sh:Bool) (acc:List Nat) (rs:List (Nat×Nat×Nat)),v7= .slice A m c/\Hid (DS U todo lens L s p g w A m c k sh acc rs wr)
def Su (U todo:List Bool)(L:List Nat)(s:ByteArray)(p g:Nat)(w:World)(e:Ending)(w':World):Prop:=∃A m c k sh,e= .returned (.slice A m c)/\b8 w' p g s k sh/\cT U (bH s.toList) todo k sh/\eV w w' p g/\(sh=false->m=L.length/\w'.ownsRow w.heap.size 3 1 (.slice A m c) m (nv L))
theorem abn {P:Program}(w:World){ops:Array Oper}{rest:List Oper}{o:Oper}{a:Act}{Q:Exit->Act->World->Prop}(d_:o.guard=none)(s x:Operand)(t:TypeId)
 (ho:o.op= .call {callee:=.builtin .append,args:=#[s,x],argTypes:=#[t,t]})
 (base:Nat)(jF:El P t 3 1 8)
 (v:Value)(n:Nat)(xs:List Value)(aw:w.ownsRow base 3 1 v n xs)(hs:a.eval s=v)(z:Nat)
 (hx:a.eval x= .slice (some ⟨w.heap.size,0,none⟩) 1 1)
 (kh:n+1<=maxLen)(iQ:(n+1)*8<=140737488355328)(jG:base<=w.heap.size)
 (h:∀A' c' w',w'.ownsRow base 3 1 (.slice A' (n+1) c') (n+1) (xs++[.int .i64 (z:Nat)])->Below base w w'->wpList P ops Q rest (a.put o.dst (.slice A' (n+1) c')) w'):wpList P ops Q (o::rest) a (w.alloc (.cells #[.int .i64 (z:Nat)] 3)):=
 qm (w.alloc (.cells #[.int .i64 (z:Nat)] 3)) d_ s x t ho base 3 1 8 jF v n xs (aw.alloc _) hs _ 1 1 [.int .i64 (z:Nat)] (Rd.new w 3 #[.int .i64 (z:Nat)]) rfl hx (by intro u hu;simp at hu;subst hu;rfl) kh iQ (by simp;omega) λ v' w' h2 h3=>by
  obtain⟨_,A',c',e,_,_⟩:=Sl.own h2;subst e;exact h A' c' w' h2 (((aB base w).alloc jG _).trans h3)
def F7 (w:World)(p:Nat):Nat:=match w.cell? ⟨p,1,none⟩with
 |some (.bool true)=>0
 |_=>1
theorem F8 {w:World}{p g:Nat}{sh:Bool}(h:pV w p g sh):F7 w p=if sh then 0 else 1:=by
 have:=Bk.cell_ h 1 _ rfl;unfold F7;rw[this]
 cases sh<;>rfl
theorem Sv {w w':World}{B p g size n:Nat}{e:TypeId}{v:Value}{xs:List Value}(h:w.ownsRow B e size v n xs)(hw:eV w w' p g)(hp:p<B)(hg:g<B):w'.ownsRow B e size v n xs:=
 Dw h λ b hb=>hw.block b (h.lt b hb).2 (by have:=(h.lt b hb).1;omega) (by have:=(h.lt b hb).1;intro e;have:=cG e;omega)
theorem DS.next {U todo:List Bool}{lens L:List Nat}{s:ByteArray}{p g:Nat}{w w4 w5:World}{A:Option Addr}{m c k:Nat}{sh:Bool}{acc:List Nat}{rs:List (Nat×Nat×Nat)}(hP:b8 w4 p g s k sh)(eh:eV w w4 p g)(hb:Below w.heap.size w4 w5)(vA:p<w.heap.size/\g<w.heap.size)(hS:cT U (bH s.toList) (rs.flatMap (ia lens)++todo) k sh)
 (abo:sh=false->m=acc.length/\w5.ownsRow w.heap.size 3 1 (.slice A m c) m (nv acc))(hf:sh=false->rs.foldl mS acc=L)(aS:acc≠[])(bq:∀r∈rs,F6 lens r):DS U todo lens L s p g w A m c k sh acc rs w5:=
 ⟨hP.low hb vA.1 vA.2,eV.below eh hb,hS.2,hf,hS.1,λ h=>(abo h).1.symm,λ h=>(abo h).2,λ e=>absurd e aS,bq⟩
theorem Sw (acc:List Nat)(z x:Nat)(h:1<=z):acc++List.replicate z x≠[]:=λ e=>by
 have:=congrArg List.length e;simp at this;omega
theorem aod (U todo:List Bool)(lens L:List Nat)(n:Nat)(s:ByteArray)(k p g t:Nat)(hn:L.length=n)(fk:n<=1000)(kB:∀x∈L,x<16)(hs:s.size<=1000000000)(hl:lens.length<=320)(hg:dh lens)(hr:∀r∈eK L,F6 lens r)(w:World)(hT:dA w t lens)(hP:b8 w p g s k false)(hA:fu U (bH s.toList) ((eK L).flatMap (ia lens)++todo) k):
 Calls Tryz.prog 153 #[.pointer (some ⟨p,0,none⟩),.pointer (some ⟨t,0,none⟩),.int .i64 (n:Nat)] w (Su U todo L s p g w):=by
 have HN:=ae hn;have HP:=ae hP;have HT:=ae hT;have h0:DS U todo lens L s p g w none 0 0 k false [] (eK L) w:=⟨hP,PW.refl,nofun,λ _=>by rw[Wn L [] kB];rfl,λ _=>hA,λ _=>rfl,λ _=>jD _ _ _ _,λ _ r l e=>aob L kB r l e,hr⟩;have H0:=ae h0;have lJ:p<w.heap.size:=Bk.lt hP.pa;have Fz:g<w.heap.size:=Bk.lt hP.rr;have fB:=ae (af lJ Fz);have j3:=ae hs;have HG:=ae (af hl hg);clear hn hP hT hA hr kB h0 lJ Fz hs hl hg;go_enter Tryz.func153,Tryz.ntmps153;go_wp2_with fail;go_loopw [7] (λ v7 wr=>Hid (aoc U todo lens L s p g w v7 wr)) (λ v7 wr=>2*(n-jK v7)+F7 wr p)
 case atStart=>exact ae ⟨none,0,0,k,false,[],eK L,rfl,H0⟩
 case round=>
  obtain⟨w3,rfl⟩:∃w3,w3=wr:=⟨_,rfl⟩;obtain⟨A,m,c,k,sh,acc,rs,rfl,HI⟩:=hrel.out;clear H0
  cases sh with
  |true=>
   have qF:Su U todo L s p g w (.returned (.slice A m c)) w3:=⟨A,m,c,k,true,rfl,HI.out.pt,cT.dead (HI.out.dead rfl),HI.out.fr,nofun⟩;have HE:=ae qF;clear qF;by_cases aoe:(m:Int)<(n:Int)
   all_goals
    go_wp2_with (go_at_call 90;go_must (refine(dM p g true false rfl _ HI.out.pt.pa).mono ?_);rintro e w1 ⟨rfl,rfl⟩)
    go_ret
    exact HE.out
  |false=>
   by_cases aoe:(m:Int)<(n:Int)
   ·obtain⟨r,i_,qO⟩:∃r i_,rs=r::i_:=by
     cases rs with
     |nil=>have h1:=HI.out.fold rfl;have h2:=HI.out.len rfl;simp only[zN]at h1;rw[h1,HN.out]at h2;omega
     |cons r i_=>exact⟨r,i_,rfl⟩
    have bq:=HI.out.ok r (by rw[qO];simp);have hA:=HI.out.at' rfl;have ND:=HI.out.fold rfl;rw[qO,wJ,ia,aN,aN]at hA;rw[qO,kH]at ND;have hlen:=HI.out.len rfl;have uc:=St i_ (mS acc r);rw[ND,HN.out]at uc;obtain⟨y,eb,v⟩:=r;have jO:=ae (IQ U (aH v eb++(i_.flatMap (ia lens)++todo)) lens y k p g t false s j3.out HG.out.1 HG.out.2 bq.1 bq.2.1 w3 (λ _=>HT.out.ly HP.out HI.out.fr) HI.out.pt (cT.live hA));have gE:=ae bq;have HF:=ae (af ND uc);have HOW:=ae (HI.out.own rfl);have gj:=ae hlen;have DL:=ae (show acc=[]->y≠16 from λ e=>HI.out.head e _ _ qO);have nu:=ae (show∀r∈i_,F6 lens r from λ r hr=>HI.out.ok r (by rw[qO];exact Ew _ hr));have DA:=ae HI.out.fr;have vM:=ae HI.out.pt;clear bq hA ND hlen uc qO HI;go_wp2_with (first|(go_at_call 90;go_must (refine(dM p g false true rfl _ vM.out.pa).mono ?_);rintro e w1 ⟨rfl,rfl⟩));(with_reducible refine jO.out.mono ?_);rintro e w1 ⟨x,k1,lQ,rfl,hx,eM,dN,cY,kv,eC⟩;have gu:=ae (af eM (af cY (af kv (DA.out.trans eC))));have zg:=ae (show w1.ownsRow w.heap.size 3 1 (.slice A m c) m (nv acc)from Dw HOW.out λ b hb=>eC.block b (HOW.out.lt b hb).2 (by have:=(HOW.out.lt b hb).1;have:=fB.out;omega) (by have:=(HOW.out.lt b hb).1;have:=fB.out;intro e;have:=cG e;omega));have iq:F7 w3 p=1:=F8 vM.out.pa;clear eM dN cY kv eC HOW jO vM DA
    cases lQ with
    |true=>
     go_wp2_with (first|(go_at_call 90;go_must (refine(dM p g true false rfl _ gu.out.2.1.pa).mono ?_);rintro e w2 ⟨rfl,rfl⟩));go_roundw
     case rel=>exact ae ⟨A,m,c,k1,true,[],[],rfl,ae ⟨gu.out.2.1,gu.out.2.2.2,gu.out.2.2.1.2,nofun,nofun,nofun,nofun,nofun,nofun⟩⟩
     case measure=>
      have rZ:F7 w1 p=0:=F8 gu.out.2.1.pa;simp[jK,iq,rZ]
    |false=>
     obtain rfl:x=y:=(gu.out.1 rfl).2;have BB:=gE.out.2.2.1;obtain⟨a,ha⟩:∃a,acc.length=a:=⟨_,rfl⟩;have zk:a=m:=by rw[<-ha];exact gj.out
     subst zk;have jv:=ae ha;have NF:=gu.out.2.1;by_cases h1:(x:Int)<16
     ·have nY:eb=0:=gE.out.2.2.2.2.1 aa;have qH:mS acc (x,eb,v)=acc++[x]:=by unfold mS;rw[if_pos (by show x<16;omega)]
      have lq:=gu.out.2.2.1.1 rfl;rw[nY]at lq;have sq:=ae (show fu U (bH s.toList) (i_.flatMap (ia lens)++todo) k1 from lq);have HU:=ae qH;clear nY qH lq NF ha;have rZ:a+1<=1001:=aa;go_wp2_with (first|(go_at_call 90;go_must (refine(dM p g false true rfl _ gu.out.2.1.pa).mono ?_);rintro e w2 ⟨rfl,rfl⟩)|(at_builtin;go_must (refine abn _ rfl (.tmp 34) (.tmp 36) 79 rfl w.heap.size yW _ a (nv acc) zg.out rfl x rfl (by unfold maxLen;omega) aa gu.out.2.2.2.size ?_);intro A2 c2 w2 dI aC));have bG:=ae (af dI aC);clear dI aC;go_roundw
      case rel=>exact ae ⟨A2,a+1,c2,k1,false,acc++[x],i_,by first|rfl|go_num,ae ⟨gu.out.2.1.low bG.out.2 fB.out.1 fB.out.2,eV.below gu.out.2.2.2 bG.out.2,nofun,λ _=>by rw[<-HU.out];exact HF.out.1,λ _=>sq.out,λ _=>by rw[ag,jv.out];rfl,λ _=>by rw[Fv];exact bG.out.1,λ e=>by simp at e,nu.out⟩⟩
      case measure=>
       have rh:F7 w2 p=1:=F8 (gu.out.2.1.low bG.out.2 fB.out.1 fB.out.2).pa;simp[jK,iq,rh];omega
     ·by_cases h2:x=16
      ·have ff:=h2;have nY:eb=2:=gE.out.2.2.2.2.2.1 aa;subst nY;have oZ:x=16:=aa;have aS:acc≠[]:=λ e=>DL.out e oZ;have NG:1<=a:=by rw[<-ha];exact oK.2 aS
       obtain⟨j,hj⟩:∃j,a-1=j:=⟨_,rfl⟩;obtain⟨lv,vD⟩:∃lv,acc.getD j 0=lv:=⟨_,rfl⟩
       have qH:mS acc (x,2,v)=acc++List.replicate (3+v) lv:=by
        rw[oZ,<-vD,<-hj,<-ha,a_,<-List.getLast?_eq_getElem?];rfl
       have HU:=ae qH;have HV:=ae gE.out.2.2.2.1;have aw:=zg.out;obtain⟨_,A',c',eA,abp,_,bY⟩:=Sl.own aw
       cases eA
       obtain⟨b0,o0,rfl,aV⟩:=bY (by intro e;have:=II acc;rw[e]at this;simp at this;omega);have xz:=aV j _ (IJ acc j aa);rw[vD]at xz;have abq:w1.drew.cell? ⟨b0,o0+j,none⟩=some (.int .i64 (lv:Nat)):=xz;have abr:=ae abq;have jZ:=ae (show w.heap.size<=b0 from(zg.out.lt b0 rfl).1);have Sx:=ae NG;have m1:IntKind.i64.wrap ((a:Int)-1)=(j:Int):=by rw[aE];omega
       have j1:(0:Int)<=(j:Int):=aa;have j2:(j:Int)<(a:Int):=aa;have a1:((a:Int)==0)=false:=by simp;omega
       clear qH NF ha aV bY aw abp abq hj vD aS h1;subst oZ;go_wp2_with (first|(go_at_call 90;go_must (refine(dM p g false true rfl _ gu.out.2.1.pa).mono ?_);rintro e w2 ⟨rfl,rfl⟩));go_region_with (first|(go_at_call 47;go_must (refine(FI U (i_.flatMap (ia lens)++todo) v 2 3 k1 p g false s j3.out aa HV.out aA _ gu.out.2.1.drew gu.out.2.2.1).mono ?_);rintro e w4 ⟨y,k2,eE,rfl,hy,fN,gX,iw,js,dS⟩;have kV:=ae (af iw (af js (PW.trans gu.out.2.2.2 (PW.trans (PW.drew _ _ _) dS))));have I_:=ae (Sv (World.ownsRow.drew zg.out) dS fB.out.1 fB.out.2);have avs:w4.cell? ⟨b0,o0+j,none⟩=some (.int .i64 (lv:Nat)):=(ED (dS.block b0 (cQ _ _ abr.out) (by have:=jZ.out;have:=fB.out;omega) (by have:=jZ.out;have:=fB.out;intro e;have:=cG e;omega))).trans abr.out;have Ja:=ae fN;obtain⟨z,hz⟩:∃z,3+y=z:=⟨_,rfl⟩;have m2:IntKind.i64.wrap (3+(y:Int))=(z:Int):=(by rw[aE];omega);have HZ:=ae hz;have gj:=ae (show eE=false->a+z<=n from λ h=>by have h5:=HF.out.2;rw[HU.out,ag,cA,jv.out]at h5;have:=(fN h).2;omega);clear fN gX iw js dS hz)|(go_at_call 222;go_must (refine(Sq w.heap.size p g (some ⟨b0,o0,none⟩) a c lv z n eE acc fk _ kV.out.2.2.size kV.out.1.pa (λ h=>⟨jv.out,by have:=HZ.out;omega,gj.out h,I_.out⟩)).mono ?_);rintro e w5 ⟨A5,n5,c5,rfl,DR,bE,BC⟩))
       all_goals
        go_wp2_with fail
        go_simp
        go_roundw
        case rel=>
         refine ae ⟨A5,n5,c5,k2,eE,acc++List.replicate z lv,i_,rfl,ae (DS.next kV.out.1 kV.out.2.2 bE fB.out kV.out.2.1 BC (λ h=>?_) (Sw _ _ _ (by have:=HZ.out;omega)) nu.out)⟩;have h6:=HF.out.1;rw[HU.out]at h6;rw[<-HZ.out,(Ja.out h).2];exact h6
        case measure=>
         have rh:=F8 (kV.out.1.low bE fB.out.1 fB.out.2).pa
         have Jb:eE=false->a+1<=n5:=λ h=>by
          have h7:=(BC h).1;rw[ag,cA,jv.out]at h7;have:=HZ.out;omega
         cases eE
         ·have:=Jb rfl;simp[jK,iq,rh];omega
         ·simp[jK,iq,rh];omega
      ·by_cases h3:x=17
       ·have ff:=h3;have nY:eb=3:=gE.out.2.2.2.2.2.2.1 aa;subst nY;have oZ:x=17:=aa;have qH:mS acc (x,3,v)=acc++List.replicate (3+v) 0:=by rw[oZ];rfl
        have HU:=ae qH;have HV:=ae gE.out.2.2.2.1;clear qH NF ha;subst oZ;go_wp2_with (first|(go_at_call 90;go_must (refine(dM p g false true rfl _ gu.out.2.1.pa).mono ?_);rintro e w2 ⟨rfl,rfl⟩)|(go_at_call 47;go_must (refine(FI U (i_.flatMap (ia lens)++todo) v 3 7 k1 p g false s j3.out aa HV.out aA _ gu.out.2.1 gu.out.2.2.1).mono ?_);rintro e w4 ⟨y,k2,eE,rfl,hy,fN,gX,iw,js,dS⟩;have kV:=ae (af iw (af js (PW.trans gu.out.2.2.2 dS)));have I_:=ae (Sv zg.out dS fB.out.1 fB.out.2);have Ja:=ae fN;obtain⟨z,hz⟩:∃z,3+y=z:=⟨_,rfl⟩;have Nk:(3:Int)+(y:Int)=(z:Int):=aa;have HZ:=ae hz;have gj:=ae (show eE=false->a+z<=n from λ h=>by have h5:=HF.out.2;rw[HU.out,ag,cA,jv.out]at h5;have:=(fN h).2;omega);clear fN gX iw js dS hz)|(go_at_call 222;go_must (refine(Sq w.heap.size p g A a c 0 z n eE acc fk _ kV.out.2.2.size kV.out.1.pa (λ h=>⟨jv.out,by have:=HZ.out;omega,gj.out h,I_.out⟩)).mono ?_);rintro e w5 ⟨A5,n5,c5,rfl,DR,bE,BC⟩));go_roundw
        case rel=>
         refine ae ⟨A5,n5,c5,k2,eE,acc++List.replicate z 0,i_,rfl,ae (DS.next kV.out.1 kV.out.2.2 bE fB.out kV.out.2.1 BC (λ h=>?_) (Sw _ _ _ (by have:=HZ.out;omega)) nu.out)⟩;have h6:=HF.out.1;rw[HU.out]at h6;rw[<-HZ.out,(Ja.out h).2];exact h6
        case measure=>
         have rh:=F8 (kV.out.1.low bE fB.out.1 fB.out.2).pa
         have Jb:eE=false->a+1<=n5:=λ h=>by
          have h7:=(BC h).1;rw[ag,cA,jv.out]at h7;have:=HZ.out;omega
         cases eE
         ·have:=Jb rfl;simp[jK,iq,rh];omega
         ·simp[jK,iq,rh];omega
       ·have ff:x=18:=aa;have nY:eb=7:=gE.out.2.2.2.2.2.2.2 aa;subst nY;have oZ:x=18:=aa;have qH:mS acc (x,7,v)=acc++List.replicate (11+v) 0:=by rw[oZ];rfl
        have HU:=ae qH;have HV:=ae gE.out.2.2.2.1;clear qH NF ha;subst oZ;go_wp2_with (first|(go_at_call 90;go_must (refine(dM p g false true rfl _ gu.out.2.1.pa).mono ?_);rintro e w2 ⟨rfl,rfl⟩)|(go_at_call 47;go_must (refine(FI U (i_.flatMap (ia lens)++todo) v 7 127 k1 p g false s j3.out aa HV.out aA _ gu.out.2.1 gu.out.2.2.1).mono ?_);rintro e w4 ⟨y,k2,eE,rfl,hy,fN,gX,iw,js,dS⟩;have kV:=ae (af iw (af js (PW.trans gu.out.2.2.2 dS)));have I_:=ae (Sv zg.out dS fB.out.1 fB.out.2);have Ja:=ae fN;obtain⟨z,hz⟩:∃z,11+y=z:=⟨_,rfl⟩;have Nk:(11:Int)+(y:Int)=(z:Int):=aa;have HZ:=ae hz;have gj:=ae (show eE=false->a+z<=n from λ h=>by have h5:=HF.out.2;rw[HU.out,ag,cA,jv.out]at h5;have:=(fN h).2;omega);clear fN gX iw js dS hz)|(go_at_call 222;go_must (refine(Sq w.heap.size p g A a c 0 z n eE acc fk _ kV.out.2.2.size kV.out.1.pa (λ h=>⟨jv.out,by have:=HZ.out;omega,gj.out h,I_.out⟩)).mono ?_);rintro e w5 ⟨A5,n5,c5,rfl,DR,bE,BC⟩));go_roundw
        case rel=>
         refine ae ⟨A5,n5,c5,k2,eE,acc++List.replicate z 0,i_,rfl,ae (DS.next kV.out.1 kV.out.2.2 bE fB.out kV.out.2.1 BC (λ h=>?_) (Sw _ _ _ (by have:=HZ.out;omega)) nu.out)⟩;have h6:=HF.out.1;rw[HU.out]at h6;rw[<-HZ.out,(Ja.out h).2];exact h6
        case measure=>
         have rh:=F8 (kV.out.1.low bE fB.out.1 fB.out.2).pa
         have Jb:eE=false->a+1<=n5:=λ h=>by
          have h7:=(BC h).1;rw[ag,cA,jv.out]at h7;have:=HZ.out;omega
         cases eE
         ·have:=Jb rfl;simp[jK,iq,rh];omega
         ·simp[jK,iq,rh];omega
   ·have qO:rs=[]:=by
     have h1:=HI.out.fold rfl;have h2:=HI.out.len rfl;have h3:=St rs acc;rw[h1,HN.out,h2]at h3;exact dP aa
    subst qO;have aof:acc=L:=HI.out.fold rfl;subst aof;have qF:Su U todo acc s p g w (.returned (.slice A m c)) w3:=⟨A,m,c,k,false,rfl,HI.out.pt,cT.live (HI.out.at' rfl),HI.out.fr,λ _=>⟨(HI.out.len rfl).symm,HI.out.own rfl⟩⟩;have HE:=ae qF;clear qF;go_wp2_with fail;go_ret;exact HE.out
structure ri (U todo:List Bool)(s:ByteArray)(p g:Nat)(w wr:World)(k:Nat)(sh:Bool):Prop where
 pt:b8 wr p g s k sh
 st:cT U (bH s.toList) todo k sh
 fr:eV w wr p g
theorem ri.below {U todo:List Bool}{s:ByteArray}{p g:Nat}{w wr w':World}{k:Nat}{sh:Bool}(h:ri U todo s p g w wr k sh)(hb:Below wr.heap.size wr w'):ri U todo s p g w w' k sh:=⟨h.pt.below hb,h.st,h.fr.trans (PW.pQ hb)⟩
def aog (U todo:List Bool)(s:ByteArray)(p g v most:Nat)(w wr:World)(sh:Bool)(e:Ending)(w':World):Prop:=
 ∃(x k':Nat) (dB:Bool),e= .returned (.int .i64 (x:Nat))/\x<=most/\(dB=false->sh=false/\x=v)/\(dB=true->x=0)/\ri U todo s p g w w' k' dB/\eV wr w' p g
theorem ue (U todo:List Bool)(v m most k p g:Nat)(sh:Bool)(s:ByteArray)(hs:s.size<=1000000000)(hm:m<=62)(hv:v<2^m)(kS:2^m<=most+1)(w wr:World)(h:ri U (aH v m++todo) s p g w wr k sh):
 Calls Tryz.prog 47 #[.pointer (some ⟨p,0,none⟩),.int .i64 (m:Nat)] wr (aog U todo s p g v most w wr sh):=by
 refine(FI U todo v m most k p g sh s hs hm hv kS wr h.pt h.st).mono ?_;rintro e w' ⟨x,k',dB,h1,h2,h3,h4,h5,h6,h7⟩;exact⟨x,k',dB,h1,h2,h3,h4,⟨h5,h6,h.fr.trans h7⟩,h7⟩
theorem aoh (w:World)(g z:Nat)(hz:z<=19):(Instr.sliceAt 246 (.pointer (some ⟨g,0,none⟩)) none (some (.int .i64 (z:Nat))) none).run Tryz.prog w= .ok (.slice (some ⟨g,0,none⟩) z 19) w:=by
 have hl:Tryz.prog.arrayLen 246=19:=ah;have he:Tryz.prog.elem 246=3:=ah;have hu:Tryz.prog.underlying 246=some (.array 19 3):=ah;have hi:=xF;rw[run_sliceAt_array_h w 246 ⟨g,0,none⟩ (by rw[hl,he,hu]) .i64 z aa (by rw[hl];omega),hl,he];simp[sizeOf,hi,slicedAt,Addr.add]
theorem aoi {P:Program}{ops:Array Oper}{rest:List Oper}{o:Oper}{a:Act}{w:World}{Q:Exit->Act->World->Prop}(d_:o.guard=none)(ty:TypeId)(x y:Operand)(ho:o.op= .store ty x y)
 (cells:Array Value)(hx:a.eval x= .pointer (some ⟨w.heap.size,0,none⟩))(hy:a.eval y= .agg cells)
 (t:TypeId)(old:Array Value)(hi:(P.info? ty).map (·.size)=some cells.size)(hold:old.size=cells.size)(h1:cells.all (·.oneCell')=true)
 (h:∀w',Bk w' w.heap.size t cells->Below w.heap.size w w'->wpList P ops Q rest (a.put o.dst undef) w'):wpList P ops Q (o::rest) a (w.alloc (.cells old t)):=
 nG d_ ty x y ho w.heap.size cells hx hy t old (l_ w _) hi hold h1 (h _ (kd _ w.heap.size _ cells t (0,0) (l_ w _)) (below_setRow ((aB _ w).alloc (ai _) _) (ai _) _))
theorem aoj (lens:List Nat)(i:Nat)(h:i<19):wY lens (i+1)=(wY lens i).set (ie.getD i 0) (lens.getD (ie.getD i 0) 0):=by
 unfold wY;have hi:i<ie.length:=h;rw[eu,rT,aZ hi,a_,aZ hi];rfl
structure abt (U rest:List Bool)(lens sorted:List Nat)(s:ByteArray)(p g gl:Nat)(w wr:World)(i k:Nat)(aok sh:Bool)(R:List Nat):Prop where
 z:ri U ((sorted.drop i).flatMap (λ n=>aH n 3)++rest) s p g w wr k sh
 row:dF wr gl R
 len:R.length=19
 gl:w.heap.size<=gl
 is:sh=false->aok=false/\R=wY lens i
theorem dF.ly {w w':World}{p g gl B:Nat}{R:List Nat}(h:dF w gl R)(hw:eV w w' p g)(hp:p<B)(hg:g<B)(hB:B<=gl):dF w' gl R:=by
 obtain⟨cs,h1,h2⟩:=h;exact⟨cs,(hw.block gl h1.lt aa (λ e=>by have:=cG e;omega)).trans h1,h2⟩
theorem aol (l:List Nat)(i:Nat)(h:i<l.length)(rest:List Bool):(l.drop i).flatMap (λ n=>aH n 3)++rest=aH (l.getD i 0) 3++((l.drop (i+1)).flatMap (λ n=>aH n 3)++rest):=by
 rw[qj h,wJ,aN,a_,aZ h];rfl
theorem aom {l m:List Nat}{i:Nat}(h:i<l.length):(l++m).getD i 0=l.getD i 0:=by
 rw[a_,a_,ux h]
def NH (lit aq lens sorted:List Nat):List Bool:=
 aH (lit.length-257) 5++(aH (aq.length-1) 5++(aH (sorted.length-4) 4++(sorted.flatMap (λ n=>aH n 3)++(eK (lit++aq)).flatMap (ia lens))))
structure NI (lit aq lens sorted:List Nat):Prop where
 l1:257<=lit.length/\lit.length<=286
 d1:1<=aq.length/\aq.length<=30
 n19:lens.length=19
 so:4<=sorted.length/\sorted.length<=19
 set:wY lens sorted.length=lens
 sg:∀i,i<sorted.length->sorted.getD i 0=lens.getD (ie.getD i 0) 0
 s8:∀x∈lens,x<8
 gl:dh lit
 gd:dh aq
 gn:dh lens
 Yx:∀x∈lit++aq,x<16
 ok:∀r∈eK (lit++aq),F6 lens r
 LI:0<lit.getD 256 0
def Sy (U todo:List Bool)(lit aq:List Nat)(s:ByteArray)(p g:Nat)(w:World)(e:Ending)(w':World):Prop:=∃v1 v2 k sh,e= .returned (.tuple #[v1,v2])/\ri U todo s p g w w' k sh/\(sh=false->∃t u,v1= .pointer (some ⟨t,0,none⟩)/\v2= .pointer (some ⟨u,0,none⟩)/\dA w' t lit/\dA w' u aq)
theorem aon (U todo:List Bool)(lit aq lens sorted:List Nat)(k p g:Nat)(s:ByteArray)(hs:s.size<=1000000000)(bq:NI lit aq lens sorted)(w:World)(hP:ri U (NH lit aq lens sorted++todo) s p g w w k false):
 Calls Tryz.prog 98 #[.pointer (some ⟨p,0,none⟩)] w (Sy U todo lit aq s p g w):=by
 unfold NH at hP;simp only[aN]at hP;obtain⟨a,ha⟩:∃a,lit.length=a:=⟨_,rfl⟩;obtain⟨b,hb⟩:∃b,aq.length=b:=⟨_,rfl⟩;obtain⟨c,hc⟩:∃c,sorted.length=c:=⟨_,rfl⟩;have au:=bq.l1;have aC:=bq.d1;have aO:=bq.so;rw[ha]at au hP;rw[hb]at aC hP;rw[hc]at aO hP;have gE:=ae bq;have HL:=ae (af ha (af hb hc));have HS:=ae hs;have H0:=ae hP;have sK:=ae (show p<w.heap.size/\g<w.heap.size from⟨Bk.lt hP.pt.pa,Bk.lt hP.pt.rr⟩);have pT:=ae (show∀w:World,(Instr.build 246 #[(0,.int .i64 16),(1,.int .i64 17),(2,.int .i64 18),(3,.int .i64 0),(4,.int .i64 8),(5,.int .i64 7),(6,.int .i64 9),(7,.int .i64 6),(8,.int .i64 10),(9,.int .i64 5),(10,.int .i64 11),(11,.int .i64 4),(12,.int .i64 12),(13,.int .i64 3),(14,.int .i64 13),(15,.int .i64 2),(16,.int .i64 14),(17,.int .i64 1),(18,.int .i64 15)]).run Tryz.prog w= .ok (.agg pd) w from λ w=>run_build w _ _ _ aao);have HI:=ae (show(Tryz.prog.info? 246).map (·.size)=some pd.size by rw[I3];exact aaq);have j3:=ae I3;have HO:=ae aap;have HG:=ae aar;have vh:=run_make_row' (P:=Tryz.prog) 79 3 (.int .i64 0) 8 Tryz.underlying79 xF rfl .i64 .i64 19 aa aa;have aoo:∀w:World,(Instr.makeSlice 79 (.int .i64 19) (.int .i64 19)).run Tryz.prog w= .ok (.slice (some ⟨w.heap.size,0,none⟩) 19 19) (w.alloc (.cells (madeCells #[.int .i64 0] 19) 3)):=vh;clear vh;generalize pd=C at*;clear bq hs hP ha hb hc;go_enter Tryz.func98,Tryz.ntmps98;go_upto_region 2 with(first|(go_at_call 47;go_must (first|(refine(ue U _ (c-4) 4 15 k2 p g eE s HS.out aa aa aa w w2 H2.out.2.2).mono ?_;rintro e w3 ⟨x3,k3,nj,rfl,nW,yZ,qY,Ba, -⟩;have H3:=ae (af (show nj=false->eE=false/\x3=c-4 from yZ) (af qY Ba));have aop:x3<=c-4:=(by cases nj;exact Nat.le_of_eq (yZ rfl).2;have:=qY rfl;omega);obtain⟨z3,aoq⟩:∃z3,4+x3=z3:=⟨_,rfl⟩;have aor:(4:Int)+(x3:Int)=(z3:Int):=aa;clear yZ qY Ba nW)|(refine(ue U _ (b-1) 5 31 k1 p g lQ s HS.out aa aa aa w w1 H1.out.2.2).mono ?_;rintro e w2 ⟨x2,k2,eE,rfl,ff,fN,gX,iw, -⟩;have H2:=ae (af (show eE=false->lQ=false/\x2=b-1 from fN) (af gX iw));have aos:x2<=b-1:=(by cases eE;exact Nat.le_of_eq (fN rfl).2;have:=gX rfl;omega);obtain⟨z2,aot⟩:∃z2,1+x2=z2:=⟨_,rfl⟩;have aou:(1:Int)+(x2:Int)=(z2:Int):=aa;clear fN gX iw ff)|(refine(ue U _ (a-257) 5 31 k p g false s HS.out aa aa aa w w H0.out).mono ?_;rintro e w1 ⟨x1,k1,lQ,rfl,mG,eM,dN,cY, -⟩;have H1:=ae (af (show lQ=false->false=false/\x1=a-257 from eM) (af dN cY));have aov:x1<=a-257:=(by cases lQ;exact Nat.le_of_eq (eM rfl).2;have:=dN rfl;omega);obtain⟨z1,aow⟩:∃z1,257+x1=z1:=⟨_,rfl⟩;have aox:(257:Int)+(x1:Int)=(z1:Int):=aa;clear eM dN cY mG))))
 have mH:=ae (show nj=false->z1=a/\z2=b/\z3=c from λ h=>by
  have h3:=H3.out.1 h;have h2:=H2.out.1 h3.1;have h1:=H1.out.1 h2.1;omega)
 have HZ:=ae H3.out.2.2;have n1:¬(286:Int)<(z1:Int):=aa;have n2:¬(30:Int)<(z2:Int):=aa;have n3:(if(z3:Int)<19 then(z3:Int)else 19)=(z3:Int):=by split<;>omega
 have avt:min (z3:Int) 19=(z3:Int):=aa;have n4:z3<=19:=aa;have n6:z3<=c:=aa;have n5:z1<=286/\z2<=30:=aa;have N5:=ae n5;clear H0 H1 H2 H3 aov aos aop aow aot aoq aox aou aor au aC aO n5;go_upto_region 5 with(first|(refine MS rfl 246 _ rfl _ (.agg C) ?_ pT.out ?_;go_must (simp only[zP,List.map_cons,List.map_nil];rfl))|(refine aoi rfl 246 _ _ rfl C rfl rfl 246 _ HI.out (by rw[j3.out];rfl) HO.out ?_;intro w4 eZ cu));have cU:=ae (af eZ cu);have cz:=HZ.out.fr.size;have DT:=ae (HZ.out.below cu);clear eZ cu HZ;go_upto_region 7 with fail;have gp:=(aB w4.heap.size w4).alloc (ai _) (.cells (madeCells #[.int .i64 0] 19) 3);have zl:=Bk.aL cU.out.1 gp;have abu:abt U ((eK (lit++aq)).flatMap (ia lens)++todo) lens sorted s p g w4.heap.size w (w4.alloc (.cells (madeCells #[.int .i64 0] 19) 3)) 0 k3 nj nj (List.replicate 19 0):=⟨DT.out.below gp,dF.made w4 19,cA,DT.out.fr.size,λ h=>⟨h,rfl⟩⟩;have DU:=ae (af zl (af cz (show w3.heap.size≠w4.heap.size by have:=(Bk.lt cU.out.1);omega)));have abv:=ae abu;clear aoo pT cU DT zl cz abu gp;generalize w4.alloc (.cells (madeCells #[.int .i64 0] 19) 3)=w5 at*;generalize w4.heap.size=gl at*;generalize w3.heap.size=go at*;have fB:=ae (show p<w.heap.size/\g<w.heap.size from⟨sK.out.1,sK.out.2⟩);have hcut:=λ w=>aoh w go z3 n4;go_wp2_with fail;go_simp;go_wp2_with fail;clear hcut;go_loopw [35] (λ vi wr=>∃(i k:Nat) (sh:Bool) (R:List Nat),vi= .int .i64 (i:Nat)/\i<=z3/\Hid (abt U ((eK (lit++aq)).flatMap (ia lens)++todo) lens sorted s p g gl w wr i k nj sh R)/\Hid (Bk wr go 246 C/\w.heap.size<=go/\go≠gl)) (λ vi _=>z3-vnat vi)
 case atStart=>exact⟨0,k3,nj,_,rfl,aa,abv,ae ⟨DU.out.1,DU.out.2.1,DU.out.2.2⟩⟩
 case round=>
  clear abv DU;obtain⟨i,k4,mB,R,rfl,hi,HC,nu⟩:=hrel;by_cases ao:(i:Int)<(z3:Int)
  ·obtain⟨o,ho⟩:∃o,ie.getD i 0=o:=⟨_,rfl⟩;have c1:=nu.out.1.cell_ i _ (HG.out i aa);rw[ho]at c1
   have abw:o<19:=by
    have:∀j,j<19->ie.getD j 0<19:=aA;rw[<-ho];exact this i aa
   obtain⟨v,hv⟩:∃v,sorted.getD i 0=v:=⟨_,rfl⟩;have NJ:i<sorted.length:=by rw[HL.out.2.2];omega
   have F9:v=lens.getD o 0:=by rw[<-hv,gE.out.sg i NJ,ho]
   have abx:v<8:=by
    rw[F9,a_,aZ (by rw[gE.out.n19];exact abw)];exact gE.out.s8 _ (mN _)
   have hz:=HC.out.z;rw[aol _ _ NJ,hv]at hz;have HZ:=ae hz;have HV:=ae (af F9 (af abx (af ho NJ)));have o1:(o:Int)<19:=aa;clear abx NJ hz F9 ho hv;go_wp2_with (go_at_call 47;go_must (refine(ue U _ v 3 7 k4 p g mB s HS.out aa (by have:=HV.out.2.1;omega) aA w wr HZ.out).mono ?_);rintro e w6 ⟨x,k5,aby,rfl,hx,abz,NK,abA,kC⟩;have ml:=HC.out.row.ly kC fB.out.1 fB.out.2 HC.out.gl;have q1:=ml.cell o (by rw[HC.out.len];exact abw);have q2:=ml.frozen o;have H6:=ae (af abz (af abA (af ml kC)));clear abz NK abA kC ml c1);go_roundw
   case rel=>
    have aoy:ri U ((sorted.drop (i+1)).flatMap (λ n=>aH n 3)++((eK (lit++aq)).flatMap (ia lens)++todo)) s p g w (w6.setCell ⟨gl,o,none⟩ (.int .i64 (x:Nat))) k5 aby:=⟨⟨Bk.far H6.out.2.1.pt.pa (by simp;have:=fB.out.1;have:=HC.out.gl;omega) _,Bk.far H6.out.2.1.pt.rr (by simp;have:=fB.out.2;have:=HC.out.gl;omega) _,H6.out.2.1.pt.le⟩,H6.out.2.1.st,eV.below H6.out.2.1.fr ((aB _ _).setCell (p:=⟨gl,o,none⟩) HC.out.gl _)⟩;exact⟨i+1,k5,aby,R.set o x,by first|rfl|go_num,aa,ae ⟨aoy,H6.out.2.2.1.aP o x,by rw[iP,HC.out.len],HC.out.gl,λ h=>⟨(HC.out.is (H6.out.1 h).1).1,by rw[aoj _ _ aa,HV.out.2.2.1,<-HV.out.1,(H6.out.1 h).2,(HC.out.is (H6.out.1 h).1).2]⟩⟩,ae ⟨Bk.far (show Bk w6 go _ _ from(H6.out.2.2.2.block go (Bk.lt nu.out.1) (by have:=fB.out.1;have:=nu.out.2.1;omega) (λ e=>by have:=cG e;have:=fB.out.2;have:=nu.out.2.1;omega)).trans nu.out.1) (by simp;exact nu.out.2.2) _,nu.out.2⟩⟩
   case measure=>simp[vnat];omega
  ·obtain rfl:i=z3:=aa
   cases mB with
   |true=>
    have HE:=ae (show Sy U todo lit aq s p g w (.returned (.tuple #[.pointer none,.pointer none])) wr from⟨_,_,k4,true,rfl,⟨HC.out.z.pt,cT.dead (HC.out.z.st.2 rfl),HC.out.z.fr⟩,nofun⟩);go_wp2_with (go_at_call 90;go_must (refine(dM p g true false rfl _ HC.out.z.pt.pa).mono ?_);rintro e w6 ⟨rfl,rfl⟩);go_simp;refine eY (wM rfl _ _ _) rfl ?_;exact HE.out
   |false=>
    obtain⟨h3,hR⟩:=HC.out.is rfl;obtain⟨rfl,rfl,rfl⟩:=mH.out h3;have rj:R=lens:=by rw[hR,<-HL.out.2.2];exact gE.out.set
    subst rj;obtain⟨n,hn⟩:∃n,z1+z2=n:=⟨_,rfl⟩;have avu:(z1:Int)+(z2:Int)=(n:Int):=aa;have abB:(lit++aq).length=n:=by rw[ag,HL.out.1,HL.out.2.1,hn]
    have xD:=ae abB;have hz:=HC.out.z.st;rw[nD (by rw[HL.out.2.2];exact ai _),List.flatMap_nil,List.nil_append]at hz;have HZ:=ae (hz.1 rfl);have vM:=ae HC.out.z.pt;have DA:=ae HC.out.z.fr;have xA:=ae HC.out.row.rd;have aoz:n<=1000:=by have:=N5.out;omega
    have l1:=gE.out.l1;have d1:=gE.out.d1;rw[HL.out.1]at l1;rw[HL.out.2.1]at d1;have ja:=ae (af l1 d1);clear h3 hR hz abB HC nu l1 d1;go_upto_region 14 with(first|(go_at_call 90;go_must (refine(dM p g false true rfl _ vM.out.pa).mono ?_);rintro e w6 ⟨rfl,rfl⟩)|(go_at_call 154;go_must (refine(Sn R (some ⟨gl,0,none⟩) 19 19 p gE.out.n19 aa gE.out.gn wr xA.out).mono ?_);rintro e w7 ⟨t,rfl,qW,jI,nt⟩;have H7:=ae (af jI (af (vM.out.below nt) (af (DA.out.trans (PW.pQ nt)) nt.size)));clear qW jI nt)|(go_at_call 153;go_must (refine(aod U todo R (lit++aq) n s k4 p g t xD.out aoz gE.out.Yx HS.out (by rw[gE.out.n19];omega) gE.out.gn gE.out.ok w7 H7.out.1 H7.out.2.1 HZ.out).mono ?_);rintro e w8 ⟨A8,m8,c8,k8,abC,rfl,abD,abE,pK,Jc⟩;have H8:=ae (af abD (af abE (af (H7.out.2.2.1.trans pK) Jc)));clear abD abE pK Jc));have abF:=ae (show ri U todo s p g w w8 k8 abC from⟨H8.out.1,H8.out.2.1,H8.out.2.2.1⟩)
    cases abC with
    |true=>
     have HE:=ae (show Sy U todo lit aq s p g w (.returned (.tuple #[.pointer none,.pointer none])) w8 from⟨_,_,k8,true,rfl,abF.out,nofun⟩);go_wp2_with (go_at_call 90;go_must (refine(dM p g true false rfl _ H8.out.1.pa).mono ?_);rintro e w9 ⟨rfl,rfl⟩);go_simp;refine eY (wM rfl _ _ _) rfl ?_;exact HE.out
    |false=>
     obtain⟨wV,abG⟩:=H8.out.2.2.2 rfl;rw[xD.out]at wV;subst wV;obtain⟨_,A',c',eA,abp,fG,bY⟩:=Sl.own abG
     cases eA
     have vw:=bY;obtain⟨b0,o0,rfl,aV⟩:=bY (by intro e;have:=II (lit++aq);rw[e,xD.out]at this;have h9:=ja.out;simp at this;omega);have abH:=aV 256 _ (IJ (lit++aq) 256 (by rw[xD.out];have:=ja.out;omega));rw[aom (by rw[HL.out.1];have:=ja.out;omega)]at abH;obtain⟨y,hy⟩:∃y,lit.getD 256 0=y:=⟨_,rfl⟩;have rk:=gE.out.LI;rw[hy]at abH rk;have RH:((y:Int)==0)=false:=by simp;omega
     have i256:(256:Int)<(m8:Int):=by have:=ja.out;omega
     have abI:Rd w8 (some ⟨b0,o0,none⟩) (nv lit):=λ _=>⟨b0,o0,rfl,λ j u hj=>aV j u (by rw[Fv,ux (fX.1 hj).1];exact hj)⟩
     have abJ:Rd w8 (some ⟨b0,o0+z1,none⟩) (nv aq):=by
      have:=aax vw z1;rwa [show(lit++aq).drop z1=aq by rw[<-HL.out.1];exact List.drop_left]at this
     have AL:m8-z1=z2:=aa;have NL:=ae (show∀w',Below w8.heap.size w8 w'->Calls Tryz.prog 154 #[.pointer (some ⟨p,0,none⟩),.slice (some ⟨b0,o0,none⟩) z1 c8] w' (Sm lit w')from λ w' hb=>Sn lit _ z1 c8 p HL.out.1 (by have:=N5.out;omega) gE.out.gl w' (abI.below hb));have FQ:=ae (show∀w',Below w8.heap.size w8 w'->Calls Tryz.prog 154 #[.pointer (some ⟨p,0,none⟩),.slice (some ⟨b0,o0+z1,none⟩) (m8-z1) (c8-z1)] w' (Sm aq w')from λ w' hb=>by rw[AL];exact Sn aq _ z2 (c8-z1) p HL.out.2.1 (by have:=N5.out;omega) gE.out.gd w' (abJ.below hb));have q1:z1<=c8:=aa;have q2:¬z1=c8:=by have:=ja.out;omega
     have q3:z1<=m8:=aa;clear abG fG bY vw aV hy rk abI abJ AL;go_upto_region 18 with(go_at_call 90;go_must (refine(dM p g false true rfl _ H8.out.1.pa).mono ?_);rintro e w9 ⟨rfl,rfl⟩);clear H7 xA vM DA;go_region_with (go_at_call 154;go_must (first|((with_reducible refine(NL.out _ (by first|exact(aB _ w8).drew|exact gq.out.2)).mono ?_);rintro e w9 ⟨t1,rfl,qW,jI,nt⟩;first|(have HF:=ae (af jI (af (gq.out.1.below nt) (gq.out.2.trans (nt.mono gq.out.2.size)))))|(have dX:=ae (af jI (((aB w8.heap.size w8).drew).trans (nt.mono (ai _))))))|((with_reducible refine(FQ.out _ (by first|exact(aB _ w8).drew|exact dX.out.2)).mono ?_);rintro e w9 ⟨t2,rfl,qW,jI,nt⟩;first|(have HF:=ae (af (dX.out.1.below nt) (af jI (dX.out.2.trans (nt.mono dX.out.2.size)))))|(have gq:=ae (af jI (((aB w8.heap.size w8).drew).trans (nt.mono (ai _))))))))
     all_goals
      go_wp2_with fail
      go_simp
      refine eY (wM rfl _ _ _) rfl ?_
      exact⟨_,_,k8,false,rfl,abF.out.below HF.out.2.2,λ _=>⟨t1,t2,rfl,rfl,HF.out.1,HF.out.2.1⟩⟩
end
section
open Go.RowKit Go.Lib
theorem aoA (n:Nat)(h:n<65536):n^^^(n^^^65535)=65535:=by rw[<-Nat.xor_assoc,Nat.xor_self,Nat.zero_xor]
theorem aoB {w:World}{B size n:Nat}{e:TypeId}{v:Value}{xs:List Value}(h:w.ownsRow B e size v n xs)(hv:v.ownBlock=none):v= .slice none 0 0:=by
 rcases h.2 with⟨e2,_⟩|⟨k,cap,cur,e2,_⟩
 ·exact e2
 ·rw[e2]at hv;cases hv
theorem aoC {s t:ByteArray}{a n:Nat}(hn:t.size=n)(h:((bH s.toList).drop (8*a)).take (8*n)=bH t.toList)(ha:a+n<=s.size):s.extract a (a+n)=t:=by
 apply ma;rw[tf,zM]
 have e:fS ((c_ s).drop a|>.take n)=fS (c_ t):=by
  rw[WU,WV _ _ (by rw[o_];omega)];exact h
 have e2:=EV _ _ (λ x hx=>IZ s x (Cu (s6 hx))) (IZ t) e;unfold c_ at e2;rw[<-List.map_drop,<-List.map_take]at e2;have e3:=congrArg (List.map UInt8.ofNat) e2;simp only[yi]at e3;have e4:(UInt8.ofNat∘UInt8.toNat)=id:=by funext u;simp
 rw[e4,List.map_id,List.map_id]at e3;exact e3
def abK (w:World)(p g b:Nat)(s:ByteArray)(U:List Bool)(S S':Rs)(e:Ending)(w':World):Prop:=
 ∃(k':Nat) (dB:Bool) (r':Option Nat),e= .returned (.tuple #[])/\b8 w' p g s k' dB/\cT U (bH s.toList) [] k' dB/\eD w' b r' (if dB then S else S')/\KX (X4 p g b none) w w'/\(r'=none∨∃k,r'=some k/\w.heap.size<=k)/\(dB=true->r'=none)
theorem aoD (U:List Bool)(t:ByteArray)(n k p g b:Nat)(S:Rs)(s:ByteArray)(hs:s.size<=1000000000)(hn:t.size=n)(iR:n<=65535)(hk:k=3)(pF:S.out=[])(kS:n<=S.most)(fy:S.most<=1000000000)(w:World)(hP:b8 w p g s k false)(hR:eD w b none S)
 (hA:fu U (bH s.toList) (List.replicate 5 false++(aH n 16++(aH (n^^^65535) 16++(bH t.toList++[])))) k):
 Calls Tryz.prog 96 #[.pointer (some ⟨b,0,none⟩),.pointer (some ⟨p,0,none⟩)] w (abK w p g b s U S {S with out:=c_ t}):=by
 subst hk;have cq:(bH s.toList).length=8*s.size:=by rw[pP,aD]
 have sM:n^^^65535<65536:=py (n:=16) aa aa;have DB:=Px n (n^^^65535) aa aa;rw[aoA n aa]at DB;obtain⟨q,hq⟩:∃q,n^^^65535=q:=⟨_,rfl⟩;rw[hq]at sM DB hA;have h3:=hA.le;rw[cq]at h3;have lq:=hA.next (by rw[cq];simp;omega)
 have sq:=ae (show fu U (bH s.toList) (aH n 16++(aH q 16++(bH t.toList++[]))) 8 from lq);have HS:=ae hs;have HQ:=ae (af sM hn);have cS:=ae cq;have HR:=ae hR;have HP:=ae hP;have avv:=ae pF;have c0:=Bk.cell_ hP.pa 0 _ rfl;have lJ:=Bk.lt hP.pa;have Fz:=Bk.lt hP.rr;have vA:=hP.ne;have h8:8<=8*s.size:=aa;clear hA lq hs sM hn cq hR hP hq h3 pF;go_enter Tryz.func96,Tryz.ntmps96;go_upto_region 2 with(first|(go_at_call 148;go_must (refine(amv g s 3 w HP.out.rr aa).mono ?_);rintro e w1 ⟨rfl,gN,im⟩;have H1:=ae (show ri U (aH n 16++(aH q 16++(bH t.toList++[]))) s p g w w1 8 false from⟨⟨(im.block p lJ (by simp;exact vA)).trans HP.out.pa,gN,h8⟩,cT.live sq.out,eV.sJ im⟩);clear gN im c0)|(go_at_call 47;go_must (first|(refine(ue U _ q 16 65535 k2 p g eE s HS.out aa HQ.out.1 aa w w2 H2.out.2).mono ?_;rintro e w3 ⟨y,k3,nj,rfl,hy,yZ, -,Ba, -⟩;have H3:=ae (af (show nj=false->eE=false/\y=q from yZ) Ba);clear yZ Ba)|(refine(ue U _ n 16 65535 8 p g false s HS.out aa aa aa w w1 H1.out).mono ?_;rintro e w2 ⟨x,k2,eE,rfl,hx,fN, -,iw, -⟩;have H2:=ae (af (show eE=false->false=false/\x=n from fN) iw);clear fN iw))));have HZ:=ae H3.out.2;have HV:=ae (show nj=false->x=n/\y=q from λ h=>⟨(H2.out.1 (H3.out.1 h).1).2,(H3.out.1 h).2⟩);have mA:=ae (HR.out.ly HP.out HZ.out.fr);clear H1 H2 H3
 cases nj with
 |true=>
  go_wp2_with (go_at_call 90;go_must (refine(dM p g true false rfl _ HZ.out.pt.pa).mono ?_);rintro e w6 ⟨rfl,rfl⟩);exact eY (eQ rfl _ _ _) rfl ⟨k3,true,none,rfl,HZ.out.pt,cT.dead (HZ.out.st.2 rfl),mA.out,KX.nh HZ.out.fr,.inl rfl,λ _=>rfl⟩
 |false=>
  obtain⟨rfl,rfl⟩:=HV.out rfl;have DV:=ae (HZ.out.st.1 rfl)
  have mh:k3=40:=by
   obtain⟨d,e,hd⟩:=DV.out.split;obtain⟨d2,e2,fj⟩:=sq.out.split;have:=congrArg List.length (e.symm.trans e2);simp only[ag,fi]at this;omega
  subst mh;have GL:=Bk.cell_ HZ.out.pt.pa 0 _ rfl;have CQ:((65535:Int)==65535)=true:=aj;go_upto_region 5 with(go_at_call 90;go_must (refine(dM p g false true rfl _ HZ.out.pt.pa).mono ?_);rintro e w6 ⟨rfl,rfl⟩);by_cases qt:5+x<=s.size
  ·have Sz:=DV.out.part (by rw[cS.out,pP,aD,HQ.out.2];omega);have SA:=DV.out.next (by rw[cS.out,pP,aD,HQ.out.2];omega)
   rw[pP,aD,HQ.out.2]at Sz SA;have hex:=aoC (a:=5) HQ.out.2 Sz qt;have HX:=ae (af hex SA);have DC:=amw g s 40 x w3 HZ.out.pt.rr HS.out qt;rw[show(40+7)/8=5 from rfl,hex]at DC;have I0:=ae DC;obtain⟨v,hB,aw,cK⟩:=mA.out;have vB:=aoB aw cK;subst vB;have HB:=ae hB;have b3:=hB.cell_ 3 (.slice none 0 0) rfl;have b4:=hB.cell_ 4 (.int .i64 (S.most:Nat)) rfl;have Jd:b≠p:=λ e=>iK HZ.out.pt.pa hB aA e.symm;have fM:b≠g:=λ e=>iK HZ.out.pt.rr hB aA e.symm;have abL:g≠p:=λ e=>HZ.out.pt.ne e.symm;have F_:=ae (af Jd (af fM abL));have NM:=hB.lt;obtain⟨mo,vE⟩:∃mo,S.most=mo:=⟨_,rfl⟩;rw[vE]at b4 kS fy;have m1:IntKind.i64.wrap ((mo:Int)-0)=(mo:Int):=by rw[aE];omega
   have m2:¬(mo:Int)<(x:Int):=aa;have RO:=ae hex;clear Sz SA hex DC hB aw cK vE Jd abL;go_upto_region 9 with(go_at_call 149;go_must (refine I0.out.mono ?_);rintro e w6 ⟨rfl,nU,rl⟩;have H6:=ae (af nU rl);have abM:=(ED (rl.block b NM (by simp;exact fM))).trans b3;have aoE:=(ED (rl.block b NM (by simp;exact fM))).trans b4;clear nU rl b3 b4);go_quiet (fail);have H7:=ae (show b8 (w6.drewN nq) p g s (8*(5+x)) false/\Bk (w6.drewN nq) b 90 (S.row (.slice none 0 0))/\eV w (w6.drewN nq) p g from⟨⟨(H6.out.2.block p (Bk.lt HZ.out.pt.pa) (by simp;exact λ e=>F_.out.2.2 e.symm)).trans HZ.out.pt.pa,H6.out.1,aa⟩,(H6.out.2.block b NM (by simp;exact fM)).trans HB.out,(HZ.out.fr.trans (eV.sJ H6.out.2)).trans ⟨rfl,rfl,rfl,ai _,λ _ _ _ _=>rfl,.inl rfl⟩⟩);have cd:t.size=x:=HQ.out.2;have zm:=ae cd;have aoF:(w6.drewN nq).cell? ⟨b,3,none⟩=some (.slice none 0 0):=abM;have f37:=(show Bk (w6.drewN nq) b 90 (S.row (.slice none 0 0))from H7.out.2.1).frozen 3;clear abM aoE m1 H6 HZ DV mA NM HB RO I0 cd GL;generalize w6.drewN nq=w7 at*;obtain⟨i,hi,z0,z1,z2⟩:=info_parts ZJ;have HI:=ae (af hi (af z0 (af z1 z2)));clear hi z0 z1 z2;have HOW:=ae (jD w7 w.heap.size 5 1);go_wp2_with (at_builtin;go_must (refine wpList_append_own_string _ rfl (.tmp 43) (.tmp 44) 54 9 rfl w.heap.size 5 i Tryz.underlying54 Tryz.underlying9 HI.out.1 HI.out.2.1 HI.out.2.2.1 HI.out.2.2.2 (.slice none 0 0) 0 _ rfl HOW.out t rfl (by unfold maxLen;have:=zm.out;omega) (by have:=zm.out;omega) H7.out.2.2.size ?_);intro v2 w8 dk qV Rn;obtain⟨_,A2,c2,rfl,bT,fj,vw⟩:=Sl.own dk;clear Rn vw;have iO:Below w7.heap.size w7 w8:=⟨qV.os,qV.tape,qV.output,qV.size,λ k hk=>qV.block k hk nofun⟩;have eU:=Bk.aL H7.out.2.1 iO;have d3:=eU.cell_ 3 _ rfl;have e3:=eU.frozen 3;have H8:=ae (af dk (af iO eU));clear dk qV iO eU aoF f37);have abN:∀j,(Value.slice A2 (0+t.size) c2).ownBlock=some j->w.heap.size<=j:=λ j hj=>(H8.out.1.lt j hj).1;have ei:(c_ t).length=0+t.size:=by rw[o_];omega
   have sL:p≠b:=λ e=>F_.out.1 e.symm;have fc:g≠b:=λ e=>F_.out.2.1 e.symm;have eh:KX (X4 p g b none) w (w8.setCell ⟨b,3,none⟩ (.slice A2 (0+t.size) c2)):=((KX.nh (r:=none) (b:=b) H7.out.2.2).trans (KX.pQ (X:=X4 p g b none) H8.out.2.1) λ _ _ h=>h).trans (KX.pR (X:=X4 p g b none) w8 b 3 _ (.inr (.inr (.inl rfl)))) λ _ _ h=>h;have SB:=H7.out.1.below H8.out.2.1
   have bY:eD (w8.setCell ⟨b,3,none⟩ (.slice A2 (0+t.size) c2)) b (Value.slice A2 (0+t.size) c2).ownBlock {S with out:=c_ t}:=by
    refine⟨.slice A2 (0+t.size) c2,H8.out.2.2.aP 3 _,?_,rfl⟩;show World.ownsRow _ _ _ _ _ (c_ t).length (bv (c_ t));rw[ei,show bv (c_ t)=[]++strCells t by rw[ZK,List.nil_append];unfold bv c_ aJ;rw[yi];rfl];exact(MT H8.out.1).kept (row:=some b) (aY _ b 3 _) (.inr (fx H8.out.1 H8.out.2.2 aA))
   simp only[jd]at bY eh abN
   exact eY (eQ rfl _ _ _) rfl ⟨8*(5+x),false,_,rfl,⟨SB.pa.far sL _,SB.rr.far fc _,SB.le⟩,cT.live (by have:=HX.out.2;rwa [show 40+8*x=8*(5+x)by omega]at this),bY,eh,(by
    cases yY:(Value.slice A2 t.size c2).ownBlock with
    |none=>exact .inl rfl
    |some j=>exact .inr ⟨j,rfl,abN j yY⟩),nofun⟩
  ·have iL:=DV.out.short (by rw[cS.out,pP,aD,HQ.out.2];omega);have jN:=ae iL;have cN:=Bk.cell_ HZ.out.pt.pa 1 _ rfl;have avw:=Bk.frozen HZ.out.pt.pa 1;clear iL;go_wp2_with (go_at_call 149;go_must (refine(amx g s 40 x w3 HZ.out.pt.rr HS.out aa aa aa).mono ?_);rintro e w6 ⟨rfl,rfl⟩);exact eY (eQ rfl _ _ _) rfl ⟨40,true,none,rfl,⟨Bk.aP HZ.out.pt.pa 1 (.bool true),HZ.out.pt.rr.far (by simp;exact λ e=>HZ.out.pt.ne e.symm) _,HZ.out.pt.le⟩,cT.dead jN.out,eD.ly mA.out HZ.out.pt (eV.Dy (aY w3 p 1 _)),(KX.nh (HZ.out.fr.trans (eV.Dy (aY w3 p 1 _)))),.inl rfl,λ _=>rfl⟩
end
section
open Go.RowKit
def SC (w:World)(p g b:Nat)(r:Option Nat)(s:ByteArray)(U:List Bool)(S:Rs)(last:Bool)(lit aq:List Nat)(e:Ending)(w':World):Prop:=
 ∃(k':Nat) (dB:Bool) (t u:Nat),e= .returned (.tuple #[])/\b8 w' p g s k' dB/\cT U (bH s.toList) [] k' dB/\eD w' b r (if dB then S else {S with last:=last,inside:=true,lv:=.pointer (some ⟨t,0,none⟩),dv:=.pointer (some ⟨u,0,none⟩)})/\(dB=false->dA w' t lit/\dA w' u aq)/\KX (X4 p g b r) w w'
theorem dA.grown {w w':World}{t b:Nat}{ls:List Nat}{cs:Array Value}(h:dA w t ls)(hB:Bk w b 90 cs)(hg:w.grownBy w' (some b)):dA w' t ls:=by
 obtain⟨v,hT,ho⟩:=h;exact⟨v,(hg.block t hT.lt (λ e=>iK hT hB aA (cG e))).trans hT,Dw ho λ k hk=>hg.block k (ho.lt k hk).2 (λ e=>fx ho hB aA (by rw[hk,e]))⟩
theorem SE {w:World}{p g b k:Nat}{r:Option Nat}{S:Rs}{s:ByteArray}{sh last ins:Bool}{v:Value}{lv dv:Value}(hP:b8 w p g s k sh)(hB:Bk w b 90 (S.row v))(aw:w.ownsRow 0 5 1 v S.out.length (bv S.out))(hr:v.ownBlock=r):
 ∀w',w'=(((w.setCell ⟨b,7,none⟩ (.bool last)).setCell ⟨b,6,none⟩ (.bool ins)).setCell ⟨b,8,none⟩ lv).setCell ⟨b,9,none⟩ dv->b8 w' p g s k sh/\eD w' b r {S with last:=last,inside:=ins,lv:=lv,dv:=dv}/\w.grownBy w' (some b):=by
 rintro w' rfl;have sL:p≠b:=iK hP.pa hB aA;have fc:g≠b:=iK hP.rr hB aA;have h1:=hB.aP 7 (.bool last);have h2:=h1.aP 6 (.bool ins);have h3:=h2.aP 8 lv;have h4:=h3.aP 9 dv;have hg:=((aY w b 7 (.bool last)).trans (aY _ b 6 (.bool ins))).trans ((aY _ b 8 lv).trans (aY _ b 9 dv));refine⟨⟨(((Bk.far hP.pa sL _).far sL _).far sL _).far sL _,(((Bk.far hP.rr fc _).far fc _).far fc _).far fc _,hP.le⟩,⟨v,h4,?_,hr⟩,hg⟩;exact aw.kept hg (.inr (fx aw hB aA))
theorem aoG (U:List Bool)(last:Bool)(k p g b:Nat)(r:Option Nat)(S:Rs)(s:ByteArray)(hs:s.size<=1000000000)(w:World)(hP:b8 w p g s k false)(hR:eD w b r S)(hS:cT U (bH s.toList) (aH (ca last) 1++(aH 1 2++[])) k false):
 Calls Tryz.prog 49 #[.pointer (some ⟨b,0,none⟩),.pointer (some ⟨p,0,none⟩)] w (SC w p g b r s U S last ic kN):=by
 have H0:=ae (show ri U (aH (ca last) 1++(aH 1 2++[])) s p g w w k false from⟨hP,hS,PW.refl⟩);have HP:=ae hP;have HR:=ae hR;have HS:=ae hs;have cI:ca last<2:=by cases last<;>decide
 have HL:=ae cI;clear hP hR hS hs cI;go_enter Tryz.func49,Tryz.ntmps49;go_upto_region 2 with(go_at_call 47;go_must (first|(refine(ue U _ 1 2 3 k1 p g lQ s HS.out aa aa aa w w1 H1.out.2).mono ?_;rintro e w2 ⟨y,k2,eE,rfl,hy,fN, -,iw, -⟩;have H2:=ae (af (show eE=false->lQ=false/\y=1 from fN) iw);clear fN iw)|(refine(ue U _ (ca last) 1 1 k p g false s HS.out aa HL.out aa w w H0.out).mono ?_;rintro e w1 ⟨x,k1,lQ,rfl,hx,eM, -,cY, -⟩;have H1:=ae (af (show lQ=false->false=false/\x=ca last from eM) cY);clear eM cY)));have HV:=ae (show eE=false->x=ca last/\y=1 from λ h=>⟨(H1.out.1 (H2.out.1 h).1).2,(H2.out.1 h).2⟩);have HZ:=ae H2.out.2;have iN:=ae (HR.out.ly HP.out HZ.out.fr);clear H0 H1 H2 HR
 cases eE with
 |true=>
  go_wp2_with (go_at_call 90;go_must (refine(dM p g true false rfl _ HZ.out.pt.pa).mono ?_);rintro e w6 ⟨rfl,rfl⟩);exact eY (eQ rfl _ _ _) rfl ⟨k2,true,0,0,rfl,HZ.out.pt,HZ.out.st,iN.out,nofun,KX.nh HZ.out.fr⟩
 |false=>
  obtain⟨rfl,rfl⟩:=HV.out rfl;go_wp2_with (first|(go_at_call 90;go_must (first|(refine(dM p g false true rfl _ H3.out.2.1.pa).mono ?_;rintro e w6 ⟨rfl,rfl⟩)|(refine(dM p g false true rfl _ HZ.out.pt.pa).mono ?_;rintro e w6 ⟨rfl,rfl⟩)))|(go_at_call 97;go_must (refine(an8 w2).mono ?_);rintro e w3 ⟨t,u,rfl,ht,hu,aO⟩;have H3:=ae (af (af ht hu) (af (HZ.out.pt.below aO) (af (iN.out.below aO) (HZ.out.fr.trans (PW.pQ aO)))));obtain⟨v,hB,aw,cK⟩:=H3.out.2.2.1;have f6:=hB.frozen 6;have f7:=hB.frozen 7;have f8:=hB.frozen 8;have f9:=hB.frozen 9;have c6:=hB.cell_ 6 (.bool S.inside) rfl;have c7:=hB.cell_ 7 (.bool S.last) rfl;have c8:=hB.cell_ 8 S.lv rfl;have c9:=hB.cell_ 9 S.dv rfl;have H4:=ae (af hB (af aw cK));clear ht hu aO hB aw cK));have HA:=ae (HZ.out.st.1 rfl);have Je:(((ca last:Nat):Int)==1)=last:=by cases last<;>rfl
  refine eY (eQ rfl _ _ _) rfl ?_;rw[Je];obtain⟨a1,a2,a3⟩:=SE (last:=last) (ins:=true) (lv:=.pointer (some ⟨t,0,none⟩)) (dv:=.pointer (some ⟨u,0,none⟩)) H3.out.2.1 H4.out.1 H4.out.2.1 H4.out.2.2 _ rfl;exact⟨k2,false,t,u,rfl,a1,cT.live (HA.out),a2,λ _=>⟨dA.grown H3.out.1.1 H4.out.1 a3,dA.grown H3.out.1.2 H4.out.1 a3⟩,(KX.nh H3.out.2.2.2).trans (KX.sJ a3 (X:=X4 p g b r) (.inr (.inr (.inl rfl)))) λ _ _ h=>h⟩
theorem aoH (U:List Bool)(last:Bool)(lit aq lens sorted:List Nat)(bq:NI lit aq lens sorted)(k p g b:Nat)(r:Option Nat)(S:Rs)(s:ByteArray)(hs:s.size<=1000000000)(w:World)(hP:b8 w p g s k false)(hR:eD w b r S)(hS:cT U (bH s.toList) (aH (ca last) 1++(aH 2 2++(NH lit aq lens sorted++[]))) k false):
 Calls Tryz.prog 49 #[.pointer (some ⟨b,0,none⟩),.pointer (some ⟨p,0,none⟩)] w (SC w p g b r s U S last lit aq):=by
 have H0:=ae (show ri U (aH (ca last) 1++(aH 2 2++(NH lit aq lens sorted++[]))) s p g w w k false from⟨hP,hS,PW.refl⟩);have HP:=ae hP;have HR:=ae hR;have HS:=ae hs;have cI:ca last<2:=by cases last<;>decide
 have HL:=ae cI;clear hP hR hS hs cI;go_enter Tryz.func49,Tryz.ntmps49;go_upto_region 2 with(go_at_call 47;go_must (first|(refine(ue U _ 2 2 3 k1 p g lQ s HS.out aa aa aa w w1 H1.out.2).mono ?_;rintro e w2 ⟨y,k2,eE,rfl,hy,fN, -,iw, -⟩;have H2:=ae (af (show eE=false->lQ=false/\y=2 from fN) iw);clear fN iw)|(refine(ue U _ (ca last) 1 1 k p g false s HS.out aa HL.out aa w w H0.out).mono ?_;rintro e w1 ⟨x,k1,lQ,rfl,hx,eM, -,cY, -⟩;have H1:=ae (af (show lQ=false->false=false/\x=ca last from eM) cY);clear eM cY)));have HV:=ae (show eE=false->x=ca last/\y=2 from λ h=>⟨(H1.out.1 (H2.out.1 h).1).2,(H2.out.1 h).2⟩);have HZ:=ae H2.out.2;have iN:=ae (HR.out.ly HP.out HZ.out.fr);clear H0 H1 H2 HR
 cases eE with
 |true=>
  go_wp2_with (go_at_call 90;go_must (refine(dM p g true false rfl _ HZ.out.pt.pa).mono ?_);rintro e w6 ⟨rfl,rfl⟩);exact eY (eQ rfl _ _ _) rfl ⟨k2,true,0,0,rfl,HZ.out.pt,cT.dead (HZ.out.st.2 rfl),iN.out,nofun,KX.nh HZ.out.fr⟩
 |false=>
  obtain⟨rfl,rfl⟩:=HV.out rfl;go_upto_region 12 with(first|(go_at_call 90;go_must (refine(dM p g false true rfl _ HZ.out.pt.pa).mono ?_);rintro e w6 ⟨rfl,rfl⟩)|(go_at_call 98;go_must (refine(aon U [] lit aq lens sorted k2 p g s HS.out bq w2 ⟨HZ.out.pt,HZ.out.st,PW.refl⟩).mono ?_);rintro e w3 ⟨v1,v2,k3,nj,rfl,qY,abO⟩));have eh:=HZ.out.fr.trans qY.fr;have Ga:=iN.out.ly HZ.out.pt qY.fr;have HC:=ae (af qY (af abO (af Ga eh)));clear qY abO Ga eh
  cases nj with
  |true=>
   go_wp2_with (go_at_call 90;go_must (refine(dM p g true false rfl _ HC.out.1.pt.pa).mono ?_);rintro e w6 ⟨rfl,rfl⟩);exact eY (eQ rfl _ _ _) rfl ⟨k3,true,0,0,rfl,HC.out.1.pt,HC.out.1.st,HC.out.2.2.1,nofun,KX.nh HC.out.2.2.2⟩
  |false=>
   obtain⟨t,u,rfl,rfl,ht,hu⟩:=HC.out.2.1 rfl;have H3:=ae (af (af ht hu) (af HC.out.1.pt (af HC.out.2.2.1 HC.out.2.2.2)));have HA:=ae (HC.out.1.st.1 rfl);obtain⟨v,hB,aw,cK⟩:=H3.out.2.2.1;have f6:=hB.frozen 6;have f7:=hB.frozen 7;have f8:=hB.frozen 8;have f9:=hB.frozen 9;have c6:=hB.cell_ 6 (.bool S.inside) rfl;have c7:=hB.cell_ 7 (.bool S.last) rfl;have c8:=hB.cell_ 8 S.lv rfl;have c9:=hB.cell_ 9 S.dv rfl;have H4:=ae (af hB (af aw cK));clear ht hu hB aw cK HC;go_wp2_with (go_at_call 90;go_must (refine(dM p g false true rfl _ H3.out.2.1.pa).mono ?_);rintro e w6 ⟨rfl,rfl⟩);have Je:(((ca last:Nat):Int)==1)=last:=by cases last<;>rfl
   refine eY (eQ rfl _ _ _) rfl ?_;rw[Je];obtain⟨a1,a2,a3⟩:=SE (last:=last) (ins:=true) (lv:=.pointer (some ⟨t,0,none⟩)) (dv:=.pointer (some ⟨u,0,none⟩)) H3.out.2.1 H4.out.1 H4.out.2.1 H4.out.2.2 _ rfl;exact⟨k3,false,t,u,rfl,a1,cT.live (HA.out),a2,λ _=>⟨dA.grown H3.out.1.1 H4.out.1 a3,dA.grown H3.out.1.2 H4.out.1 a3⟩,(KX.nh H3.out.2.2.2).trans (KX.sJ a3 (X:=X4 p g b r) (.inr (.inr (.inl rfl)))) λ _ _ h=>h⟩
theorem aoI (U:List Bool)(last:Bool)(t:ByteArray)(n:Nat)(hn:t.size=n)(iR:n<=65535)(k p g b:Nat)(S:Rs)(eR:k=0)(pF:S.out=[])(kS:n<=S.most)(fy:S.most<=1000000000)(s:ByteArray)(hs:s.size<=1000000000)(w:World)(hP:b8 w p g s k false)(hR:eD w b none S)(hS:cT U (bH s.toList) (aH (ca last) 1++(aH 0 2++(List.replicate 5 false++(aH n 16++(aH (n^^^65535) 16++(bH t.toList++[])))))) k false):
 Calls Tryz.prog 49 #[.pointer (some ⟨b,0,none⟩),.pointer (some ⟨p,0,none⟩)] w (abK w p g b s U S {S with out:=c_ t,last:=last,inside:=false,lv:=.pointer none,dv:=.pointer none}):=by
 have H0:=ae (show ri U (aH (ca last) 1++(aH 0 2++(List.replicate 5 false++(aH n 16++(aH (n^^^65535) 16++(bH t.toList++[])))))) s p g w w k false from⟨hP,hS,PW.refl⟩);have aoJ:=ae (hS.1 rfl);have HP:=ae hP;have HR:=ae hR;have HS:=ae hs;have cI:ca last<2:=by cases last<;>decide
 have HL:=ae cI;clear hP hR hS hs cI;go_enter Tryz.func49,Tryz.ntmps49;go_upto_region 2 with(go_at_call 47;go_must (first|(refine(ue U _ 0 2 3 k1 p g lQ s HS.out aa aa aa w w1 H1.out.2).mono ?_;rintro e w2 ⟨y,k2,eE,rfl,hy,fN, -,iw, -⟩;have H2:=ae (af (show eE=false->lQ=false/\y=0 from fN) iw);clear fN iw)|(refine(ue U _ (ca last) 1 1 k p g false s HS.out aa HL.out aa w w H0.out).mono ?_;rintro e w1 ⟨x,k1,lQ,rfl,hx,eM, -,cY, -⟩;have H1:=ae (af (show lQ=false->false=false/\x=ca last from eM) cY);clear eM cY)));have HV:=ae (show eE=false->x=ca last/\y=0 from λ h=>⟨(H1.out.1 (H2.out.1 h).1).2,(H2.out.1 h).2⟩);have HZ:=ae H2.out.2;have iN:=ae (HR.out.ly HP.out HZ.out.fr);clear H0 H1 H2 HR
 cases eE with
 |true=>
  go_wp2_with (go_at_call 90;go_must (refine(dM p g true false rfl _ HZ.out.pt.pa).mono ?_);rintro e w6 ⟨rfl,rfl⟩);exact eY (eQ rfl _ _ _) rfl ⟨k2,true,none,rfl,HZ.out.pt,cT.dead (HZ.out.st.2 rfl),iN.out,KX.nh HZ.out.fr,.inl rfl,λ _=>rfl⟩
 |false=>
  obtain⟨rfl,rfl⟩:=HV.out rfl;have HA:=ae (HZ.out.st.1 rfl)
  have bI:k2=3:=by
   obtain⟨d,e,hd⟩:=HA.out.split;obtain⟨d2,e2,fj⟩:=aoJ.out.split;have:=congrArg List.length (e.symm.trans e2);simp only[ag,fi]at this;omega
  have cm:=ae (aoD U t n k2 p g b S s HS.out hn iR bI pF kS fy w2 HZ.out.pt iN.out HA.out);clear hn iR bI pF kS fy;go_upto_region 12 with(first|(go_at_call 90;go_must (refine(dM p g false true rfl _ HZ.out.pt.pa).mono ?_);rintro e w6 ⟨rfl,rfl⟩)|(go_at_call 96;go_must (refine cm.out.mono ?_);rintro e w3 ⟨k3,nj,r3,rfl,h1,h2,h3,h4,h5,h6⟩));have eh:KX (X4 p g b none) w w3:=(KX.nh HZ.out.fr).trans h4 λ _ _ h=>h
  have dL:r3=none∨∃k,r3=some k/\w.heap.size<=k:=by
   rcases h5 with e|⟨j,e,hj⟩
   ·exact .inl e
   ·exact .inr ⟨j,e,b_ HZ.out.fr.size hj⟩
  have HC:=ae (af h1 (af h2 (af h3 (af eh (af dL h6)))));clear h1 h2 h3 h4 h5 h6 eh dL cm
  cases nj with
  |true=>
   go_wp2_with (go_at_call 90;go_must (refine(dM p g true false rfl _ HC.out.1.pa).mono ?_);rintro e w6 ⟨rfl,rfl⟩);exact eY (eQ rfl _ _ _) rfl ⟨k3,true,r3,rfl,HC.out.1,HC.out.2.1,HC.out.2.2.1,HC.out.2.2.2.1,HC.out.2.2.2.2.1,λ _=>HC.out.2.2.2.2.2 trivial⟩
  |false=>
   obtain⟨v,hB,aw,cK⟩:=HC.out.2.2.1;simp only[rP,if_false]at hB aw;have f6:=hB.frozen 6;have f7:=hB.frozen 7;have f8:=hB.frozen 8;have f9:=hB.frozen 9;have c6:=hB.cell_ 6 (.bool S.inside) rfl;have c7:=hB.cell_ 7 (.bool S.last) rfl;have c8:=hB.cell_ 8 S.lv rfl;have c9:=hB.cell_ 9 S.dv rfl;have H4:=ae (af hB (af aw cK));clear hB aw cK;go_wp2_with (go_at_call 90;go_must (refine(dM p g false true rfl _ HC.out.1.pa).mono ?_);rintro e w6 ⟨rfl,rfl⟩);have Je:(((ca last:Nat):Int)==1)=last:=by cases last<;>rfl
   refine eY (eQ rfl _ _ _) rfl ?_;rw[Je];obtain⟨a1,a2,a3⟩:=SE (last:=last) (ins:=false) (lv:=.pointer none) (dv:=.pointer none) HC.out.1 H4.out.1 H4.out.2.1 H4.out.2.2 _ rfl;exact⟨k3,false,r3,rfl,a1,HC.out.2.1,a2,HC.out.2.2.2.1.trans (KX.sJ a3 (X:=X4 p g b none) (.inr (.inr (.inl rfl)))) λ _ _ h=>h,HC.out.2.2.2.2.1,nofun⟩
structure Qs where
 buf:ByteArray
 bit:Nat
 used:Nat
 out:List Nat
 most:Nat
 told:Nat
 inside:Bool
 last:Bool
 done:Bool
 tb:Option (List Nat×List Nat)
 fresh:Bool
def Qs.rs (Q:Qs)(lv dv:Value):Rs:=⟨Q.buf,Q.bit,Q.used,Q.out,Q.most,Q.told,Q.inside,Q.last,lv,dv,Q.done⟩
def DW (w:World)(lv dv:Value)(tb:Option (List Nat×List Nat)):Prop:=∀l d,tb=some (l,d)->∃t u,lv= .pointer (some ⟨t,0,none⟩)/\dv= .pointer (some ⟨u,0,none⟩)/\dA w t l/\dA w u d
def RQ (w:World)(b:Nat)(r:Option Nat)(Q:Qs):Prop:=∃lv dv,eD w b r (Q.rs lv dv)/\DW w lv dv Q.tb/\(Q.fresh=true->r=none)
def NN (w:World)(p g b:Nat)(r:Option Nat)(s:ByteArray)(U:List Bool)(Q Q':Qs)(e:Ending)(w':World):Prop:=
 ∃(k':Nat) (dB:Bool) (r':Option Nat),e= .returned (.tuple #[])/\b8 w' p g s k' dB/\cT U (bH s.toList) [] k' dB/\RQ w' b r' (if dB then Q else Q')/\KX (X4 p g b r) w w'/\(r'=r∨∃k,r'=some k/\w.heap.size<=k)
theorem dA.kx {w w':World}{t p g b k:Nat}{r:Option Nat}{ls:List Nat}{s:ByteArray}{sh:Bool}{S:Rs}(h:dA w t ls)(hP:b8 w p g s k sh)(hR:eD w b r S)(hk:KX (X4 p g b r) w w'):dA w' t ls:=by
 obtain⟨v,hT,ho⟩:=h;obtain⟨v2,hB,aw,cK⟩:=hR;refine⟨v,hT.kx hk (λ e=>?_),FK ho hk λ j hj e=>?_⟩
 ·rcases e with e|e|e|e
  ·exact iK hT hP.pa aA e
  ·exact iK hT hP.rr aA e
  ·exact iK hT hB aA e
  ·exact fx aw hT aA (by rw[cK,<-e])
 ·rcases e with e|e|e|e
  ·exact fx ho hP.pa aA (by rw[hj,e])
  ·exact fx ho hP.rr aA (by rw[hj,e])
  ·exact fx ho hB aA (by rw[hj,e])
  ·rcases al3 ho aw aA with h1|h1
   ·rw[h1]at hj;cases hj
   ·exact h1 (by rw[hj,cK,<-e])
theorem DW.kx {w w':World}{p g b k:Nat}{r:Option Nat}{s:ByteArray}{sh:Bool}{S:Rs}{lv dv:Value}{tb:Option (List Nat×List Nat)}(h:DW w lv dv tb)(hP:b8 w p g s k sh)(hR:eD w b r S)(hk:KX (X4 p g b r) w w'):DW w' lv dv tb:=λ l d e=>by
 obtain⟨t,u,h1,h2,h3,h4⟩:=h l d e;exact⟨t,u,h1,h2,h3.kx hP hR hk,h4.kx hP hR hk⟩
def zn (u:List Bool)(Q Q':Qs):Prop:=∀(U:List Bool) (p g b k:Nat) (r:Option Nat) (s:ByteArray) (w:World),s.size<=1000000000->k=Q.bit->b8 w p g s k false->RQ w b r Q->cT U (bH s.toList) u k false->
 Calls Tryz.prog (if Q.inside then 48 else 49) #[.pointer (some ⟨b,0,none⟩),.pointer (some ⟨p,0,none⟩)] w (NN w p g b r s U Q Q')
theorem SF {w w':World}{p g b k:Nat}{r:Option Nat}{s:ByteArray}{sh:Bool}{U:List Bool}{Q Q':Qs}{lv dv:Value}{e:Ending}(hP:b8 w p g s k sh)(hR:eD w b r (Q.rs lv dv))(ht:DW w lv dv Q.tb)(hf:Q.fresh=false)(aoK:Q'.fresh=false)(E':Q'.tb=Q.tb)
 (h:M7 w p g b r s U (Q.rs lv dv) (Q'.rs lv dv) e w'):NN w p g b r s U Q Q' e w':=by
 obtain⟨k',dB,r',h1,h2,h3,h4,h5,h6⟩:=h;refine⟨k',dB,r',h1,h2,h3,?_,h5,h6⟩;have jI:=ht.kx hP hR h5
 cases dB with
 |true=>exact⟨lv,dv,h4,jI,λ h=>by have h:Q.fresh=true:=h;rw[hf]at h;cases h⟩
 |false=>exact⟨lv,dv,h4,(by show DW w' lv dv Q'.tb;rw[E'];exact jI),λ h=>by have h:Q'.fresh=true:=h;rw[aoK]at h;cases h⟩
theorem aoL (lit aq:List Nat)(y:Nat)(Q:Qs)(hi:Q.inside=true)(hf:Q.fresh=false)(oS:Q.tb=some (lit,aq))(hl:lit.length<=320)(hg:dh lit)(hy:y<256)(h1:0<lit.getD y 0)(kS:Q.out.length+1<=Q.most)(fy:Q.most<=1000000000):zn (bW lit y) Q {Q with out:=Q.out++[y]}:=by
 intro U p g b k r s w hs hk hP hR hS;rw[if_pos hi];obtain⟨lv,dv,hR,ht,_⟩:=hR;obtain⟨t,u,e1,e2,h3,h4⟩:=ht lit aq oS;refine(amR U lit y k p g t b r (Q.rs lv dv) s hs hl hg hy (mU h1) h1 e1 kS fy w h3 hP hR hS).mono ?_;intro e w' h;exact SF (Q:=Q) (Q':={Q with out:=Q.out++[y]}) hP hR ht hf hf rfl h
theorem aoM (lit aq:List Nat)(ln d:Nat)(Q:Qs)(hi:Q.inside=true)(hf:Q.fresh=false)(oS:Q.tb=some (lit,aq))(hl:lit.length<=320)(hg:dh lit)(cI:aq.length<=320)(dU:dh aq)(IU:3<=ln)(Rz:ln<=258)(jT:1<=d)(RA:d<=Q.out.length)(fj:d<=4096)(h1:0<lit.getD (dD ln).1 0)(h2:0<aq.getD (dJ d).1 0)(kS:Q.out.length+ln<=Q.most)(fy:Q.most<=1000000000):
 zn (bW lit (dD ln).1++(aH (dD ln).2.2 (dD ln).2.1++(bW aq (dJ d).1++aH (dJ d).2.2 (dJ d).2.1))) Q {Q with out:=nL d ln Q.out}:=by
 intro U p g b k r s w hs hk hP hR hS;rw[if_pos hi];obtain⟨lv,dv,hR,ht,_⟩:=hR;obtain⟨t,u,e1,e2,h3,h4⟩:=ht lit aq oS;refine(amW U lit aq ln d k p g t u b r (Q.rs lv dv) s hs hl hg cI dU IU Rz jT RA fj h1 h2 e1 e2 kS fy w h3 h4 hP hR hS).mono ?_;intro e w' h;exact SF (Q:=Q) (Q':={Q with out:=nL d ln Q.out}) hP hR ht hf hf rfl h
theorem step_end (lit aq:List Nat)(Q:Qs)(hi:Q.inside=true)(hf:Q.fresh=false)(oS:Q.tb=some (lit,aq))(hl:lit.length<=320)(hg:dh lit)(h1:0<lit.getD 256 0):zn (bW lit 256) Q {Q with inside:=false}:=by
 intro U p g b k r s w hs hk hP hR hS;rw[if_pos hi];obtain⟨lv,dv,hR,ht,_⟩:=hR;obtain⟨t,u,e1,e2,h3,h4⟩:=ht lit aq oS;refine(amQ U lit k p g t b r (Q.rs lv dv) s hs hl hg (mU h1) h1 e1 w h3 hP hR hS).mono ?_;intro e w' h;exact SF (Q:=Q) (Q':={Q with inside:=false}) hP hR ht hf hf rfl h
theorem abP {w w':World}{p g b k:Nat}{r:Option Nat}{s:ByteArray}{sh last:Bool}{U:List Bool}{Q:Qs}{lv dv:Value}{lit aq:List Nat}{e:Ending}(hP:b8 w p g s k sh)(hR:eD w b r (Q.rs lv dv))(ht:DW w lv dv Q.tb)(hf:Q.fresh=true->r=none)
 (h:SC w p g b r s U (Q.rs lv dv) last lit aq e w'):NN w p g b r s U Q {Q with last:=last,inside:=true,tb:=some (lit,aq),fresh:=false} e w':=by
 obtain⟨k',dB,t,u,h1,h2,h3,h4,h5,h6⟩:=h;refine⟨k',dB,r,h1,h2,h3,?_,h6,.inl rfl⟩
 cases dB with
 |true=>exact⟨lv,dv,h4,ht.kx hP hR h6,hf⟩
 |false=>
  refine⟨_,_,h4,λ l d e=>?_,nofun⟩
  cases e
  exact⟨t,u,rfl,rfl,(h5 rfl).1,(h5 rfl).2⟩
theorem aoN (last:Bool)(Q:Qs)(hi:Q.inside=false):zn (yC last) Q {Q with last:=last,inside:=true,tb:=some (ic,kN),fresh:=false}:=by
 intro U p g b k r s w hs hk hP hR hS;rw[if_neg (by rw[hi];simp)];obtain⟨lv,dv,hR,ht,hf⟩:=hR;refine(aoG U last k p g b r (Q.rs lv dv) s hs w hP hR (by rw[bV];exact hS)).mono ?_;intro e w' h;exact abP hP hR ht hf h
theorem aoO (last:Bool)(lit aq lens sorted:List Nat)(bq:NI lit aq lens sorted)(Q:Qs)(hi:Q.inside=false):zn (Ak last lit aq lens sorted) Q {Q with last:=last,inside:=true,tb:=some (lit,aq),fresh:=false}:=by
 intro U p g b k r s w hs hk hP hR hS;rw[if_neg (by rw[hi];simp)];obtain⟨lv,dv,hR,ht,hf⟩:=hR;refine(aoH U last lit aq lens sorted bq k p g b r (Q.rs lv dv) s hs w hP hR (by rw[bV];exact hS)).mono ?_;intro e w' h;exact abP hP hR ht hf h
theorem aoP (t:ByteArray)(kB:t.size<=65535)(Q:Qs)(hi:Q.inside=false)(hb:Q.bit=0)(hf:Q.fresh=true)(pF:Q.out=[])(kS:t.size<=Q.most)(fy:Q.most<=1000000000):zn (nM (c_ t)) Q {Q with out:=c_ t,last:=true,inside:=false,tb:=none,fresh:=false}:=by
 intro U p g b k r s w hs hk hP hR hS;rw[if_neg (by rw[hi];simp)];obtain⟨lv,dv,hR,ht,Fa⟩:=hR;obtain rfl:=Fa hf;refine(aoI U true t t.size rfl kB k p g b (Q.rs lv dv) (hk.trans hb) pF kS fy s hs w hP hR (by unfold nM at hS;rw[o_]at hS;rw[bV];exact hS)).mono ?_;rintro e w' ⟨k',dB,r',h1,h2,h3,h4,h5,h6,h7⟩;refine⟨k',dB,r',h1,h2,h3,?_,h5,h6⟩
 cases dB with
 |true=>exact⟨lv,dv,h4,ht.kx hP hR h5,λ _=>h7 rfl⟩
 |false=>exact⟨_,_,h4,nofun,nofun⟩
def SG (m:Nat):Qs:=⟨⟨#[]⟩,0,0,[],m,0,false,false,false,none,true⟩
theorem aoQ (m:Nat)(w:World):Calls Tryz.prog 13 #[.int .i64 (m:Nat)] w λ e w'=>∃b,e= .returned (.pointer (some ⟨b,0,none⟩))/\w.heap.size<=b/\RQ w' b none (SG m)/\Below w.heap.size w w':=by
 have hm:(if(0:Int)<(m:Int)then(m:Int)else 0)=(m:Int):=by split<;>omega
 have rZ:max (m:Int) 0=(m:Int):=aa;go_enter Tryz.func13,Tryz.ntmps13;go_wp2_with fail;try go_simp
 try go_wp2_with fail
 go_ret;have hB:=Bk.new w 90 (((SG m).rs (.pointer none) (.pointer none)).row (.slice none 0 0));exact⟨_,rfl,ai _,⟨.pointer none,.pointer none,⟨.slice none 0 0,hB,jD _ _ _ _,rfl⟩,nofun,λ _=>rfl⟩,(aB _ w).alloc (ai _) _⟩
theorem aoR (b:Nat)(r:Option Nat)(Q:Qs)(hd:Q.done=true)(hu:Q.used<=1000000000)(hb:Q.bit<8)(w:World)(hR:RQ w b r Q):Calls Tryz.prog 14 #[.pointer (some ⟨b,0,none⟩)] w λ e w'=>e= .returned (.tuple #[.int .i64 ((if 0<Q.bit then Q.used+1 else Q.used:Nat):Int),.bool true])/\Below w.heap.size w w':=by
 obtain⟨lv,dv,⟨v,hB,aw,cK⟩,_,_⟩:=hR;have c1:=hB.cell_ 1 (.int .i64 (Q.bit:Nat)) rfl;have c2:=hB.cell_ 2 (.int .i64 (Q.used:Nat)) rfl;have DX:=hB.cell_ 11 (.bool Q.done) rfl;rw[hd]at DX;obtain⟨x,hx⟩:∃x,Q.bit=x:=⟨_,rfl⟩;obtain⟨y,hy⟩:∃y,Q.used=y:=⟨_,rfl⟩;rw[hx]at c1⊢;rw[hy]at c2 hu⊢;clear hB aw cK hx hy;by_cases h0:(0:Int)<(x:Int)
 ·have vK:(if 0<x then y+1 else y)=y+1:=if_pos aa;rw[vK];clear vK;go_enter Tryz.func14,Tryz.ntmps14;go_wp2_with fail;refine eX (wM rfl _ _ _) rfl ?_;exact⟨rfl,aB _ _⟩
 ·have vK:(if 0<x then y+1 else y)=y:=if_neg aa;rw[vK];clear vK;go_enter Tryz.func14,Tryz.ntmps14;go_wp2_with fail;refine eX (wM rfl _ _ _) rfl ?_;exact⟨rfl,aB _ _⟩
