import Derived.Test.YtajokjbmpjjoiaaGreatDoorP01
import Derived.BigRegion
import Derived.Deep.AppendLies
import Derived.Deep.Cut
import Derived.Deep.CutBlock
import Derived.Deep.CutRange
import Derived.Deep.DeepBigQuietO
import Derived.Deep.DeepMust
import Derived.Deep.OwnRows
import Derived.Deep.RegionHeld3
import Derived.Deep.RegionLaw
import Derived.Deep.RegionWith
import Derived.Laws.Rows
import Derived.Laws.Tables
import Derived.ScopeJumps
import Derived.Test.YtajokjbmpjjoiaaGreatDoorProg
import Derived.WalkMore
set_option maxRecDepth 20000
set_option maxHeartbeats 0
set_option linter.unusedVariables false
namespace Go.Proofs.YtajokjbmpjjoiaaGreatDoor
section
def vnat:Value->Nat
 | .int _ i=>i.toNat
 |_=>0
def jK:Value->Nat
 | .slice _ n _=>n
 |_=>0
end
section
open Go.RowKit
def nv (l:List Nat):List Value:=l.map λ k=>Value.int .i64 (k:Nat)
theorem II (l:List Nat):(nv l).length=l.length:=by unfold nv;rw[eG]
theorem IJ (l:List Nat)(i:Nat)(h:i<l.length):(nv l)[i]? =some (.int .i64 (l.getD i 0:Nat)):=by
 unfold nv;rw[eH,a_,aZ h];rfl
theorem Fv (a b:List Nat):nv (a++b)=nv a++nv b:=by unfold nv;rw[ka]
theorem Ra (l:List Nat):∀u∈nv l,u.oneCell'=true:=λ u hu=>by
 unfold nv at hu;obtain⟨k,_,rfl⟩:=kJ.1 hu;rfl
theorem alw (l:List Nat)(i x:Nat):(nv l).set i (.int .i64 (x:Nat))=nv (l.set i x):=by unfold nv;rw[zQ]
theorem Y7 (l:List Nat)(k:Nat):(nv l).drop k=nv (l.drop k):=by unfold nv;rw[List.map_drop]
theorem alx {l:List Nat}(h:nv l=[]):l=[]:=dP (by have:=II l;rw[h]at this;simpa using this.symm)
theorem Rd.num {w:World}{A:Option Addr}{l:List Nat}(h:Rd w A (nv l)){i:Nat}(hi:i<l.length):
 ∃b o,A=some ⟨b,o,none⟩/\w.cell? ⟨b,o+i,none⟩=some (.int .i64 (l.getD i 0:Nat)):=by
 obtain⟨b,o,e,hc⟩:=h (λ e=>by have:=alx e;rw[this]at hi;simp at hi);exact⟨b,o,e,hc i _ (IJ l i hi)⟩
theorem below_setRow {w w':World}{B:Nat}(h:Below B w w'){g:Nat}(hg:B<=g)(cs:Array Value):Below B w (w'.setRow g cs):=
 h.trans ⟨rfl,rfl,rfl,by simp[World.setRow],λ k hk=>by simp only[World.setRow];rw[zG,if_neg aa]⟩
def dz (f:Nat->Nat):Array Value:=((List.range 16).map λ n=>Value.int .i64 (f n:Nat)).toArray
theorem pL (f:Nat->Nat):(dz f).size=16:=by simp[dz]
theorem vg (f:Nat->Nat)(i:Nat)(h:i<16):(dz f)[i]? =some (.int .i64 (f i:Nat)):=by
 unfold dz;rw[gW,eH,List.getElem?_range h];rfl
theorem Rb (f:Nat->Nat)(k x:Nat):(dz f).setIfInBounds k (.int .i64 (x:Nat))=dz (λ n=>if n=k then x else f n):=by
 apply Array.ext_getElem?;intro i;rw[Array.getElem?_setIfInBounds];by_cases hi:i<16
 ·rw[vg (λ n=>if n=k then x else f n) i hi];split
  ·rename_i h;subst h;rw[if_pos (by rw[pL];exact hi)];simp
  ·rename_i h;rw[vg _ i hi,if_neg (λ e=>h e.symm)]
 ·have e1:(dz λ n=>if n=k then x else f n)[i]? =none:=Array.getElem?_eq_none (by rw[pL];omega);have e2:(dz f)[i]? =none:=Array.getElem?_eq_none (by rw[pL];omega);rw[e1,e2];split
  ·rw[if_neg (by rw[pL];omega)]
  ·rfl
theorem Rc (f:Nat->Nat):(dz f).all (·.oneCell')=true:=by
 unfold dz;rw[Cy,nF];intro x hx;obtain⟨k,_,rfl⟩:=kJ.1 hx;rfl
theorem MM:dz (λ _=>0)=#[.int .i64 0,.int .i64 0,.int .i64 0,.int .i64 0,.int .i64 0,.int .i64 0,.int .i64 0,.int .i64 0,.int .i64 0,.int .i64 0,.int .i64 0,.int .i64 0,.int .i64 0,.int .i64 0,.int .i64 0,.int .i64 0]:=ah
theorem IK {f g:Nat->Nat}(h:∀n,n<16->f n=g n):dz f=dz g:=by
 unfold dz;congr 1;exact Ct λ n hn=>by rw[h n (List.mem_range.1 hn)]
def pM (ls:List Nat)(n:Nat):Nat:=(ls.filter λ x=>decide (x=n)).length
theorem Y8 (ls:List Nat)(n:Nat):pM ls n<=ls.length:=List.length_filter_le _ _
theorem Y9 (ls:List Nat)(i n:Nat)(h:i<ls.length):pM (ls.take (i+1)) n=pM (ls.take i) n+if n=ls.getD i 0 then 1 else 0:=by
 unfold pM;rw[eu,kI,ag,a_,aZ h];simp only[Option.toList_some,ye,oJ,Cr];by_cases e:n=ls[i]
 ·subst e;simp
 ·have:¬(ls[i]=n):=λ h=>e h.symm;simp[this,e]
theorem Re (ls:List Nat)(n:Nat):aR ls n=if n=0 then 0 else pM ls n:=rfl
theorem MN (ls:List Nat)(n:Nat):aR ls n<=ls.length:=by
 rw[Re];split
 ·omega
 ·exact Y8 _ _
theorem MO:(Tryz.prog.info? 322).map (·.size)=some 16:=ah
theorem MP {P:Program}{fn:Func}{p q:Tmp}{ty:TypeId}(h:fn.results=#[.cell p ty,.tmp q])(tmps:Array Value)(w:World)(g:Nat)(t:TypeId)(cs:Array Value)(fr:Nat×Nat)(d:TypeDesc)(v:Value)
 (hp:tmps.getD p undef= .pointer (some ⟨g,0,none⟩))(hq:tmps.getD q undef=v)(hg:w.heap[g]? =some (.cells cs t fr))
 (hu:P.underlying ty=some d)(hd:(match d with| .struct _| .array _ _=>true|_=>false)=true)(hi:(P.info? ty).map (·.size)=some cs.size):
 (results fn tmps).run P w= .ok (.tuple #[.agg cs,v]) w:=by
 have Fw:tmps[p]?.getD undef= .pointer (some ⟨g,0,none⟩):=by simpa using hp
 have aly:tmps[q]?.getD undef=v:=by simpa using hq
 simp[results,h,Fw,aly,asAddr,run_loadVar_row w g t ty cs fr d hg hu hd hi]
theorem Y' (ls:List Nat)(A:Option Addr)(m c:Nat)(hl:ls.length=m)(hm:m<=320)(Dj:∀x∈ls,x<=15)(w:World)(hr:Rd w A (nv ls)):
 Calls Tryz.prog 220 #[.slice A m c] w λ e w'=>e= .returned (.tuple #[.agg (dz (aR ls)),.bool true])/\Below w.heap.size w w':=by
 have HL:=ae hl;have HR:=ae hr;have alz:=ae Dj;have iq:¬(320:Int)<(m:Int):=aa;clear hl hr Dj;go_enter Tryz.func220,Tryz.ntmps220;go_wp2_with fail;go_loopw [13] (λ vi wr=>∃i:Nat,vi= .int .i64 (i:Nat)/\i<=m/\Hid (Bk wr (w.heap.size+1) 322 (dz (pM (ls.take i))))/\(∃z,Hid (Bk wr w.heap.size 322 z/\z.size=16))/\Hid (Below w.heap.size w wr)) (λ vi _=>m-vnat vi)
 case atStart=>
  have h3:=((aB w.heap.size w).alloc (ai _) (.cells (dz (λ _=>0)) 322)).alloc aj (.cells (dz (λ _=>0)) 322);have h1:=(Bk.new w 322 (dz (λ _=>0))).alloc (.cells (dz (λ _=>0)) 322);have h2:=Bk.new (w.alloc (.cells (dz (λ _=>0)) 322)) 322 (dz (λ _=>0));rw[lY]at h2;have hs:=pL (λ _=>0);have e:dz (pM (ls.take 0))=dz (λ _=>0):=IK λ n _=>by simp[pM]
  rw[<-MM];exact⟨0,rfl,aa,ae (by rw[e];exact h2),⟨_,ae ⟨h1,hs⟩⟩,ae h3⟩
 case round=>
  obtain⟨i,rfl,hi,HB,⟨z,HZ⟩,cS⟩:=hrel;by_cases ao:(i:Int)<(m:Int)
  ·have cP:i<ls.length:=by rw[HL.out];omega
   obtain⟨b,o,rfl,hc⟩:=(HR.out.below cS.out).num cP;obtain⟨x,hx⟩:∃x,ls.getD i 0=x:=⟨_,rfl⟩;have Dl:x<=15:=by rw[<-hx,a_,aZ cP];exact alz.out _ (mN cP)
   rw[hx]at hc;obtain⟨y,hy⟩:∃y,pM (ls.take i) x=y:=⟨_,rfl⟩;have xE:y<=320:=by rw[<-hy];exact b_ (Y8 _ _) (by rw[ba];omega)
   have c0:=(HB.out.cell x).trans (vg _ x aa);rw[hy]at c0;have f0:=HB.out.frozen x;have CQ:¬(x:Int)<0:=aa;have auL:¬(15:Int)<(x:Int):=aa;have HY:=ae (af hx hy);have auM:i<m:=aa;clear hx hy cP;go_wp2_with fail;go_roundw
   case rel=>
    refine⟨i+1,by first|rfl|go_num,aa,ae ?_,⟨z,ae ⟨HZ.out.1.far aj _,HZ.out.2⟩⟩,ae (cS.out.setCell (p:=⟨w.heap.size+1,x,none⟩) aj _)⟩;have h:=HB.out.aP x (.int .i64 ((y+1:Nat):Int));rw[Rb]at h;rw[IK (g:=λ n=>if n=x then y+1 else pM (ls.take i) n) λ n _=>by rw[Y9 _ _ _ (by rw[HL.out];omega),HY.out.1];have hy:=HY.out.2;split<;>simp_all];exact h
   case measure=>simp[vnat];omega
  ·obtain rfl:i=m:=aa
   have Ds:Bk (wr.setCell ⟨w.heap.size+1,0,none⟩ (.int .i64 0)) (w.heap.size+1) 322 (dz (aR ls)):=by
    have h:=HB.out.aP 0 (.int .i64 ((0:Nat):Int));rw[Rb,bQ (by rw[HL.out];omega),IK (g:=aR ls) λ n _=>by rw[Re]]at h;exact h
   have Y_:Bk (wr.setCell ⟨w.heap.size+1,0,none⟩ (.int .i64 0)) w.heap.size 322 z:=HZ.out.1.far aj _;have cq:Below w.heap.size w (wr.setCell ⟨w.heap.size+1,0,none⟩ (.int .i64 0)):=cS.out.setCell (p:=⟨w.heap.size+1,0,none⟩) aj _;have c0:=(HB.out.cell 0).trans (vg _ 0 aa);have f0:=HB.out.frozen 0;have HP:=ae (af Ds (af Y_ cq));clear Ds Y_ cq;obtain⟨C,hC⟩:∃C,dz (aR ls)=C:=⟨_,rfl⟩;have Dt:C.size=16:=by rw[<-hC];exact pL _
   have xy:=ae (show C.all (·.oneCell')=true by rw[<-hC];exact Rc _);have HI:=ae (show(Tryz.prog.info? 322).map (·.size)=some C.size by rw[Dt];exact MO);have Rf:=ae (show z.size=C.size by rw[HZ.out.2,Dt]);rw[hC]at HP;have HC:=ae hC;clear hC Dt;go_wp2_with (first|(refine qk rfl 322 _ rfl (w.heap.size+1) rfl 322 C (0,0) _ HP.out.1 Tryz.underlying322 rfl HI.out ?_)|(refine nG rfl 322 _ _ rfl w.heap.size C rfl rfl 322 z HP.out.2.1 HI.out Rf.out xy.out ?_));rw[HC.out];refine eX (MP Tryz.results220 _ _ w.heap.size 322 C (0,0) _ _ rfl rfl (kd _ w.heap.size z C 322 (0,0) HP.out.2.1) Tryz.underlying322 rfl HI.out) rfl ⟨rfl,?_⟩;refine HP.out.2.2.trans ⟨rfl,rfl,rfl,by simp[World.setRow],λ k hk=>?_⟩;simp only[World.setRow];rw[zG,if_neg aa]
theorem Za (c:Nat->Nat):∀n,gK c n<=((2^n:Nat):Int)
 |0=>by simp[gK]
 |n+1=>by
  have:=Za c n;rw[gK,Nat.pow_succ];omega
theorem Zb {k:Nat}(h:k<=15):2^k<=32768:=by
 have:=px (n:=2) aa h;simpa using this
theorem Zc (f:Nat->Nat)(z:Int)(hz:gK f 15=z)(h0:0<=z)(hf:∀n,f n<=320)(w:World):
 Calls Tryz.prog 221 #[.agg (dz f)] w λ e w'=>e= .returned (.int .i64 z)/\Below w.heap.size w w':=by
 have HZ:=ae hz;have HG:Hid (∀i,i<16->(dz f)[i]? =some (.int .i64 (f i:Nat))):=ae λ i hi=>vg f i hi;have HF:=ae hf;have HI:=ae (show(Tryz.prog.info? 322).map (·.size)=some (dz f).size by rw[pL];exact MO);have cD:=ae (Bk.new w 322 (dz f));have cq:Below w.heap.size w (w.alloc (.cells (dz f) 322)):=(aB _ _).alloc (ai _) _;have lk:∀k,k<=15->0<=gK f k:=λ k hk=>We (m:=15) (by rw[hz];exact h0) hk;have Zd:=ae lk;clear hz hf lk;generalize dz f=C at*;go_enter Tryz.func221,Tryz.ntmps221;go_wp2_with fail;generalize w.alloc (.cells C 322)=w1 at*;go_loop [3,8] (λ vn vi=>∃k:Nat,vi= .int .i64 (k:Nat)/\k<=15/\vn= .int .i64 (gK f k)) (λ _ vi=>15-vnat vi)
 case atStart=>exact⟨0,rfl,aa,rfl⟩
 case round=>
  obtain⟨k,rfl,hk,rfl⟩:=hrel;have h1:=Zd.out k hk;have h2:=Za f k;have h3:=Zb hk;by_cases ao:(k:Int)<15
  ·have c0:=(cD.out.cell (1+k)).trans (HG.out (1+k) aa);have h4:=Zd.out (k+1) aa;have HS:=ae (show gK f (k+1)=2*gK f k-f (1+k)by rw[gK,Nat.add_comm 1 k]);obtain⟨x,hx⟩:∃x,f (1+k)=x:=⟨_,rfl⟩;obtain⟨y,hy⟩:∃y,gK f k=y:=⟨_,rfl⟩;have h5:=HF.out (1+k);rw[HS.out]at h4;rw[hx]at c0 h5 h4 HS;rw[hy]at h1 h2 h4 HS;rw[hy];have Fx:y<=32768:=aa;clear hx hy h2 h3;have iT:¬2*y-(x:Int)<0:=aa;go_wp2_with fail;go_round
   case rel=>exact⟨k+1,by first|rfl|go_num,aa,by rw[HS.out]⟩
   case measure=>simp[vnat];omega
  ·obtain rfl:k=15:=aa;go_wp2_with fail;go_ret;exact⟨by rw[HZ.out];rfl,cq⟩
def jq (ls:List Nat):List Nat:=(List.range ls.length).map λ s=>if ls.getD s 0=0 then 0 else iU ls s
theorem tT (ls:List Nat):(jq ls).length=ls.length:=by simp[jq]
theorem Ze (ls:List Nat)(s:Nat)(h:s<ls.length):(jq ls).getD s 0=if ls.getD s 0=0 then 0 else iU ls s:=by
 unfold jq;rw[a_,eH,List.getElem?_range h];rfl
def pN (ls:List Nat)(i:Nat):List Nat:=(jq ls).take i++List.replicate (ls.length-i) 0
theorem alA (ls:List Nat):pN ls 0=List.replicate ls.length 0:=by simp[pN]
theorem alB (ls:List Nat):pN ls ls.length=jq ls:=by
 unfold pN;rw[gy,yj,bV,bQ (by rw[tT];omega)]
theorem alC (ls:List Nat)(i:Nat)(h:i<=ls.length):(pN ls i).length=ls.length:=by
 unfold pN;rw[ag,ba,tT,cA];omega
theorem Zf (ls:List Nat)(i x:Nat)(h:i<ls.length)(hx:(jq ls).getD i 0=x):pN ls (i+1)=(pN ls i).set i x:=by
 subst hx;have hl:((jq ls).take i).length=i:=by rw[ba,tT];omega
 unfold pN
 rw[qi _ _ aa,hl,gy,show ls.length-i=(ls.length-(i+1))+1 by omega,qg,bL,
  eu,aN,a_,aZ (show i<(jq ls).length by rw[tT];exact h)]
 rfl
theorem alD (ls:List Nat)(i:Nat)(h:i<ls.length)(hx:(jq ls).getD i 0=0):pN ls (i+1)=pN ls i:=by
 rw[Zf ls i 0 h hx];refine List.ext_getElem? λ j=>?_;rw[zO];split
 ·rename_i e;subst e;have hl:((jq ls).take i).length=i:=by rw[ba,tT];omega
  unfold pN;rw[lf aa,hl,gy];rw[show ls.length-i=(ls.length-(i+1))+1 by omega,qg];simp[tT];omega
 ·rfl
def nd (ls:List Nat)(i n:Nat):Nat:=ko (aR ls) n+if n=0 then 0 else pM (ls.take i) n
theorem Zg (ls:List Nat)(i:Nat)(h1:ls.getD i 0≠0):iU ls i=nd ls i (ls.getD i 0):=by
 unfold iU nd yz;rw[if_neg h1];rfl
theorem alE (ls:List Nat)(i n:Nat)(h:i<ls.length):nd ls (i+1) n=if n=ls.getD i 0/\n≠0 then nd ls i n+1 else nd ls i n:=by
 unfold nd;by_cases hn:n=0
 ·rw[if_pos hn,if_pos hn,if_neg aa]
 ·rw[if_neg hn,if_neg hn,Y9 ls i n h];by_cases he:n=ls.getD i 0
  ·rw[if_pos he,if_pos ⟨he,hn⟩];omega
  ·rw[if_neg he,if_neg (λ h=>he h.1)];omega
theorem Zh {ls:List Nat}(hg:dh ls)(n:Nat)(hn:n<=15):ko (aR ls) n+aR ls n<=32768:=by
 have h1:=hg.free hn;rw[GY (aR ls) rfl n]at h1;have h2:=Zb hn;unfold nI at h1;omega
theorem alF (ls:List Nat)(i n:Nat):pM (ls.take i) n<=pM ls n:=by
 unfold pM;exact(List.Sublist.filter _ (List.take_sublist _ _)).length_le
theorem Zi {ls:List Nat}(hg:dh ls)(i n:Nat)(hn:n<=15):nd ls i n<=32768:=by
 have h1:=Zh hg n hn;unfold nd;by_cases h:n=0
 ·rw[if_pos h];omega
 ·rw[if_neg h];have:=alF ls i n;rw[Re,if_neg h]at h1;omega
def Zj (l:List Nat)(w:World)(e:Ending)(w':World):Prop:=
 ∃A c,e= .returned (.tuple #[.slice A l.length c,.int .i64 0])/\l.length<=c/\c<=maxLen/\Rd w' A (nv l)/\(∀ad,A=some ad->w.heap.size<=ad.block)/\Below w.heap.size w w'
theorem alG (n:Nat):(madeCells #[Value.int .i64 0] n).toList=nv (List.replicate n 0):=by
 rw[toList_madeCells_one];unfold nv;rw[List.map_replicate];rfl
structure nV (w wr:World)(f x:Nat->Nat)(b o:Nat):Prop where
 bc:Bk wr b 322 (dz f)
 bn:Bk wr o 322 (dz x)
 lt:w.heap.size<=b/\b<o
 bl:Below w.heap.size w wr
theorem nV.Zk {w wr:World}{f x:Nat->Nat}{b o:Nat}(h:nV w wr f x b o)(k y:Nat):nV w (wr.setCell ⟨o,k,none⟩ (.int .i64 (y:Nat))) f (λ n=>if n=k then y else x n) b o:=by
 have h1:=h.bn.aP k (.int .i64 (y:Nat));rw[Rb]at h1;exact⟨h.bc.far (by have:=h.lt;simp;omega) _,h1,h.lt,h.bl.setCell (p:=⟨o,k,none⟩) (by have:=h.lt;simp;omega) _⟩
theorem nV.drew {w wr:World}{f x:Nat->Nat}{b o:Nat}(h:nV w wr f x b o):nV w wr.drew f x b o:=⟨h.bc,h.bn,h.lt,h.bl.drew⟩
theorem nV.congr {w wr:World}{f x y:Nat->Nat}{b o:Nat}(h:nV w wr f x b o)(e:∀n,n<16->x n=y n):nV w wr f y b o:=⟨h.bc,by rw[<-IK e];exact h.bn,h.lt,h.bl⟩
theorem nV.far {w wr:World}{f x:Nat->Nat}{b o g:Nat}(h:nV w wr f x b o)(hg:o<g)(k:Nat)(u:Value):nV w (wr.setCell ⟨g,k,none⟩ u) f x b o:=
 ⟨h.bc.far (by have:=h.lt;simp;omega) _,h.bn.far (by simp;omega) _,h.lt,h.bl.setCell (p:=⟨g,k,none⟩) (by have:=h.lt;simp;omega) _⟩
def qT (ls:List Nat)(k:Nat):Nat->Nat:=λ n=>if n<=k then ko (aR ls) n else 0
theorem alH (ls:List Nat):∀n,n<16->(λ _=>0:Nat->Nat) n=qT ls 1 n:=λ n _=>by
 unfold qT;split
 ·have:n=0∨n=1:=aa;rcases this with rfl|rfl<;>simp[ko,aR]
 ·rfl
theorem alI (ls:List Nat)(k:Nat):∀n,n<16->(λ n=>if n=k+1 then 2*(ko (aR ls) k+aR ls k)else qT ls k n) n=qT ls (k+1) n:=λ n _=>by
 simp only[qT];by_cases h:n=k+1
 ·rw[if_pos h,if_pos aa,h];rfl
 ·rw[if_neg h];by_cases h2:n<=k
  ·rw[if_pos h2,if_pos aa]
  ·rw[if_neg h2,if_neg aa]
theorem alJ (ls:List Nat):∀n,n<16->qT ls 15 n=nd ls 0 n:=λ n h=>by
 unfold qT nd;rw[if_pos aa];split<;>simp[pM]
def dF (w:World)(g:Nat)(l:List Nat):Prop:=∃cs:Array Value,Bk w g 3 cs/\cs.toList=nv l
theorem dF.cell {w:World}{g:Nat}{l:List Nat}(h:dF w g l)(i:Nat)(hi:i<l.length):w.cell? ⟨g,i,none⟩=some (.int .i64 (l.getD i 0:Nat)):=by
 obtain⟨cs,h1,h2⟩:=h;rw[h1.cell,<-rM,h2,IJ l i hi]
theorem dF.frozen {w:World}{g:Nat}{l:List Nat}(h:dF w g l)(i:Nat):w.frozen? ⟨g,i,none⟩=false:=by
 obtain⟨cs,h1,h2⟩:=h;exact h1.frozen i
theorem dF.aP {w:World}{g:Nat}{l:List Nat}(h:dF w g l)(i x:Nat):dF (w.setCell ⟨g,i,none⟩ (.int .i64 (x:Nat))) g (l.set i x):=by
 obtain⟨cs,h1,h2⟩:=h;exact⟨_,h1.aP i _,by rw[yc,h2,alw]⟩
theorem dF.far {w:World}{g:Nat}{l:List Nat}(h:dF w g l){p:Addr}(hp:g≠p.block)(u:Value):dF (w.setCell p u) g l:=by
 obtain⟨cs,h1,h2⟩:=h;exact⟨cs,h1.far hp u,h2⟩
theorem dF.aL {w w':World}{g:Nat}{l:List Nat}(h:dF w g l)(hb:Below w.heap.size w w'):dF w' g l:=by
 obtain⟨cs,h1,h2⟩:=h;exact⟨cs,h1.aL hb,h2⟩
theorem dF.made (w:World)(n:Nat):dF (w.alloc (.cells (madeCells #[Value.int .i64 0] n) 3)) w.heap.size (List.replicate n 0):=⟨_,Bk.new w _ _,alG n⟩
theorem dF.rd {w:World}{g:Nat}{l:List Nat}(h:dF w g l):Rd w (some ⟨g,0,none⟩) (nv l):=λ _=>by
 obtain⟨cs,h1,h2⟩:=h;exact⟨g,0,rfl,λ j u hj=>by rw[jd,h1.cell,<-rM,h2];exact hj⟩
theorem xF:(Tryz.prog.info? 3).map (λ i=>(i.zero,i.size,i.bytes))=some (some (.int .i64 0),1,8):=ah
theorem alK (ls:List Nat)(A:Option Addr)(m c:Nat)(hl:ls.length=m)(hm:m<=320)(hg:dh ls)(w:World)(hr:Rd w A (nv ls)):
 Calls Tryz.prog 297 #[.slice A m c] w (Zj (jq ls) w):=by
 have mixed:Tryz.prog.follows Departure.mixedOrders=true:=ah
 have mu:Hid (∀w',Below w.heap.size w w'->Calls Tryz.prog 220 #[.slice A m c] w' λ e bO=>e= .returned (.tuple #[.agg (dz (aR ls)),.bool true])/\Below w'.heap.size w' bO):=
  ae λ w' hb=>Y' ls A m c hl hm hg.le w' (hr.below hb)
 obtain⟨z,hz⟩:∃z,gK (aR ls) 15=z:=⟨_,rfl⟩;have CF:0<=z:=by rw[<-hz];exact hg.free (ai _)
 have sE:Hid (∀w',Calls Tryz.prog 221 #[.agg (dz (aR ls))] w' λ e bO=>e= .returned (.int .i64 z)/\Below w'.heap.size w' bO):=
  ae λ w'=>Zc (aR ls) z hz CF (λ n=>b_ (MN ls n) aa) w'
 have alL:¬z<0:=aa;have HI:=ae (show(Tryz.prog.info? 322).map (·.size)=some (dz (aR ls)).size by rw[pL];exact MO);have HS:=ae (pL (aR ls));have HO:=ae (Rc (aR ls));have HL:=ae hl;have HR:=ae hr;have Rg:=ae hg;obtain⟨C,hC⟩:∃C,dz (aR ls)=C:=⟨_,rfl⟩;rw[hC]at mu sE HI HS HO;have HC:=ae hC;have vh:=run_make_row' (P:=Tryz.prog) 79 3 (.int .i64 0) 8 Tryz.underlying79 xF rfl .i64 .i64 m aa aa;clear hl hr hg hz hC;go_enter Tryz.func297,Tryz.ntmps297;go_wp2_with fail;(with_reducible refine(mu.out _ (aB _ _)).mono ?_);rintro e w1 ⟨rfl,au⟩;have dN:=Bk.new w1 322 (dz λ _=>0);rw[MM]at dN;have uZ:=ae dN;clear dN;go_upto_region 4 with(refine nG rfl 322 _ _ rfl w1.heap.size C rfl rfl 322 _ uZ.out HI.out (by rw[HS.out];rfl) HO.out ?_);have aC:Below w.heap.size w ((w1.alloc (.cells #[.int .i64 0,.int .i64 0,.int .i64 0,.int .i64 0,.int .i64 0,.int .i64 0,.int .i64 0,.int .i64 0,.int .i64 0,.int .i64 0,.int .i64 0,.int .i64 0,.int .i64 0,.int .i64 0,.int .i64 0,.int .i64 0] 322)).setRow w1.heap.size C):=below_setRow (bl au ((aB _ _).alloc (ai _) _)) au.size C;have cC:Bk ((w1.alloc (.cells #[.int .i64 0,.int .i64 0,.int .i64 0,.int .i64 0,.int .i64 0,.int .i64 0,.int .i64 0,.int .i64 0,.int .i64 0,.int .i64 0,.int .i64 0,.int .i64 0,.int .i64 0,.int .i64 0,.int .i64 0,.int .i64 0] 322)).setRow w1.heap.size C) w1.heap.size 322 C:=kd _ w1.heap.size _ C 322 (0,0) uZ.out;have aG:=au.size;have H2:=ae (af cC (af aC aG));clear aC cC au uZ aG mu;generalize(w1.alloc (.cells #[.int .i64 0,.int .i64 0,.int .i64 0,.int .i64 0,.int .i64 0,.int .i64 0,.int .i64 0,.int .i64 0,.int .i64 0,.int .i64 0,.int .i64 0,.int .i64 0,.int .i64 0,.int .i64 0,.int .i64 0,.int .i64 0] 322)).setRow w1.heap.size C=w2 at*;generalize w1.heap.size=b at*;go_upto_region 6 with(first|(refine qk rfl 322 _ rfl b rfl 322 C (0,0) _ H2.out.1 Tryz.underlying322 rfl HI.out ?_)|(go_at_call 221;go_must ((with_reducible refine(sE.out _).mono ?_));rintro e w3 ⟨rfl,aO⟩))
 have Zl:nV w (w3.alloc (.cells #[.int .i64 0,.int .i64 0,.int .i64 0,.int .i64 0,.int .i64 0,.int .i64 0,.int .i64 0,.int .i64 0,.int .i64 0,.int .i64 0,.int .i64 0,.int .i64 0,.int .i64 0,.int .i64 0,.int .i64 0,.int .i64 0] 322)) (aR ls) (qT ls 1) b w3.heap.size:=by
  refine⟨?_,?_,⟨H2.out.2.2,?_⟩,?_⟩
  ·rw[HC.out];exact(H2.out.1.aL aO).alloc _
  ·rw[<-IK (alH ls),MM];exact Bk.new w3 _ _
  ·exact ur H2.out.1.lt aO.size
  ·exact bl (bl H2.out.2.1 aO) ((aB _ _).alloc (ai _) _)
 have H4:=ae Zl;clear Zl aO H2 sE HI HS HO HC;go_wp2_with fail;generalize w3.alloc (.cells #[.int .i64 0,.int .i64 0,.int .i64 0,.int .i64 0,.int .i64 0,.int .i64 0,.int .i64 0,.int .i64 0,.int .i64 0,.int .i64 0,.int .i64 0,.int .i64 0,.int .i64 0,.int .i64 0,.int .i64 0,.int .i64 0] 322)=w4 at*;generalize w3.heap.size=o at*;go_loopw [7] (λ vn wr=>∃k:Nat,vn= .int .i64 (k:Nat)/\1<=k/\k<=15/\Hid (nV w wr (aR ls) (qT ls k) b o)) (λ vn _=>15-vnat vn)
 case atStart=>exact⟨1,rfl,aa,aa,H4⟩
 case round=>
  clear H4;obtain⟨k,rfl,oP,bI,HK⟩:=hrel;by_cases ao:(k:Int)<15
  ·have c0:=(HK.out.bn.cell k).trans (vg _ k aa);have c1:=(HK.out.bc.cell k).trans (vg _ k aa);rw[show qT ls k k=ko (aR ls) k by unfold qT;rw[if_pos (ai _)]]at c0;obtain⟨old,hold⟩:∃old,qT ls k (k+1)=old:=⟨_,rfl⟩;have c2:=(HK.out.bn.cell (k+1)).trans (vg _ (k+1) aa);rw[hold]at c2;have f2:=HK.out.bn.frozen (k+1);have jW:=Zh Rg.out k bI;obtain⟨x,hx⟩:∃x,ko (aR ls) k=x:=⟨_,rfl⟩;obtain⟨y,hy⟩:∃y,aR ls k=y:=⟨_,rfl⟩;rw[hx]at c0 jW;rw[hy]at c1 jW;have AV:=ae (af hx hy);have m1:IntKind.i64.wrap ((k:Int)+1)=(k:Int)+1:=by rw[aE];omega
   have t1:((k:Int)+1).toNat=k+1:=aa;have l1:(0:Int)<=(k:Int)+1:=aa;have l2:(k:Int)+1<16:=aa;have l3:(k:Int)<16:=aa;clear hx hy hold;go_wp2_with fail;go_big_region_o;all_goals go_wp2_with fail
   all_goals go_roundw
   case rel=>
    refine⟨k+1,by first|rfl|go_num,aa,aa,ae ?_⟩;have h:=(HK.out.Zk (k+1) (2*(x+y))).drew.congr (y:=qT ls (k+1)) (λ n hn=>by rw[<-AV.out.1,<-AV.out.2];exact alI ls k n hn);rw[show((x:Int)+(y:Int))*2=((2*(x+y):Nat):Int)by omega];exact h
   case measure=>simp[vnat];omega
  ·obtain rfl:k=15:=aa;go_wp2_with fail;have Zm:dF (wr.alloc (.cells (madeCells #[Value.int .i64 0] m) 3)) wr.heap.size (pN ls 0):=by rw[alA,HL.out];exact dF.made wr m
   have Zn:nV w (wr.alloc (.cells (madeCells #[Value.int .i64 0] m) 3)) (aR ls) (nd ls 0) b o:=
    (show nV w (wr.alloc (.cells (madeCells #[Value.int .i64 0] m) 3)) (aR ls) (qT ls 15) b o from⟨HK.out.bc.alloc _,HK.out.bn.alloc _,HK.out.lt,HK.out.bl.alloc HK.out.bl.size _⟩).congr (alJ ls)
   have alM:o<wr.heap.size:=HK.out.bn.lt;have H5:=ae (af Zm Zn);clear Zm Zn HK;generalize wr.alloc (.cells (madeCells #[Value.int .i64 0] m) 3)=w5 at*;generalize wr.heap.size=g at*;go_loopw [43] (λ vi wr=>∃i:Nat,vi= .int .i64 (i:Nat)/\i<=m/\Hid (dF wr g (pN ls i)/\nV w wr (aR ls) (nd ls i) b o)) (λ vi _=>m-vnat vi)
   case atStart=>exact⟨0,rfl,aa,H5⟩
   case round=>
    clear H5;obtain⟨i,rfl,hi,HX⟩:=hrel;by_cases fO:(i:Int)<(m:Int)
    ·have cP:i<ls.length:=by rw[HL.out];omega
     obtain⟨bb,oo,rfl,hc⟩:=(HR.out.below HX.out.2.bl).num cP;obtain⟨x,hx⟩:∃x,ls.getD i 0=x:=⟨_,rfl⟩;have Dl:x<=15:=by rw[<-hx,a_,aZ cP];exact Rg.out.le _ (mN cP)
     rw[hx]at hc
     have cm:=ae (show∀n,n<16->(if x=0 then nd ls i n else if n=x then nd ls i x+1 else nd ls i n)=nd ls (i+1) n from λ n _=>by
      rw[alE ls i n cP,hx];by_cases h0:x=0
      ·rw[if_pos h0,if_neg aa]
      ·rw[if_neg h0];by_cases hn:n=x
       ·rw[if_pos hn,if_pos aa,hn]
       ·rw[if_neg hn,if_neg (λ h=>hn h.1)])
     have Fy:=ae (Ze ls i cP);have iJ:=ae cP;have MQ:=ae (alC ls i aa);by_cases iF:x=0
     ·subst iF;have HE:=ae (alD ls i cP (by rw[Fy.out,hx];rfl));clear hx cP;go_wp2_with fail;go_roundw
      case rel=>exact⟨i+1,by first|rfl|go_num,aa,ae ⟨by rw[HE.out];exact HX.out.1,HX.out.2.congr λ n hn=>by have:=cm.out n hn;simpa using this⟩⟩
      case measure=>simp[vnat];omega
     ·obtain⟨y,hy⟩:∃y,nd ls i x=y:=⟨_,rfl⟩;have Fx:=Zi Rg.out i x Dl;rw[hy]at Fx;have HE:=ae (Zf ls i y cP (by rw[Fy.out,hx,if_neg iF,Zg ls i (by rw[hx];exact iF),hx,hy]));have c0:=(HX.out.2.bn.cell x).trans (vg _ x aa);rw[hy]at c0;have f0:=HX.out.2.bn.frozen x;have c1:=HX.out.1.cell i (by rw[MQ.out];exact cP);have f1:=HX.out.1.frozen i;have MR:(0:Int)<(x:Int):=aa;have HY:=ae hy;have pO:=ae iF;clear hx cP hy iF;go_wp2_with fail;go_roundw
      case rel=>
       refine⟨i+1,by first|rfl|go_num,aa,ae ⟨?_,?_⟩⟩
       ·rw[HE.out];exact(HX.out.1.aP i y).far (by simp;omega) _
       ·have h:=((HX.out.2.far alM i (.int .i64 (y:Nat))).Zk x (y+1)).congr (y:=nd ls (i+1)) λ n hn=>by
         have:=cm.out n hn;rw[if_neg pO.out,HY.out]at this;exact this
        exact h
      case measure=>simp[vnat];omega
    ·obtain rfl:i=m:=aa;have e:pN ls i=jq ls:=by rw[<-HL.out];exact alB ls
     have hr:=HX.out.1.rd;rw[e]at hr;have Fz:w.heap.size<=g:=by have:=HX.out.2.lt;omega
     have hlen:(jq ls).length=i:=by rw[tT,HL.out]
     have HF:=ae (af hr (af Fz hlen));clear hr Fz hlen e;go_wp2_with fail;go_ret2;refine⟨some ⟨g,0,none⟩,i,?_,by rw[HF.out.2.2];exact ai _,by unfold maxLen;omega,HF.out.1,λ ad h=>?_,HX.out.2.bl⟩
     ·rw[HF.out.2.2];rfl
     ·cases h;exact HF.out.2.1
end
section
open Go.RowKit
def aX (l:List Bool):List UInt8:=(fR l).map UInt8.ofNat
theorem Du (l:List Bool):(aX l).length=(l.length+7)/8:=by unfold aX;rw[eG,Li]
theorem alN:aX []=[]:=by unfold aX;simp[fR]
theorem alO (l:List Bool)(b:Bool)(h:l.length%8=0):aX (l++[b])=aX l++[if b then 1 else 0]:=by
 unfold aX;rw[ahc l b h,ka]
 cases b<;>rfl
theorem alP (l:List Bool)(b:Bool)(h:l.length%8≠0):
 ∃(A:List UInt8) (x:Nat),aX l=A++[UInt8.ofNat x]/\A.length=l.length/8/\x<2^(l.length%8)/\aX (l++[b])=A++[UInt8.ofNat (x+(if b then 1 else 0)*2^(l.length%8))]:=by
 obtain⟨A,x,h1,h2,h3,h4⟩:=ahd l b h;refine⟨A.map UInt8.ofNat,x,?_,by rw[eG,h2],h3,?_⟩
 ·unfold aX;rw[h1,ka];rfl
 ·unfold aX;rw[h4,ka];rfl
def jr (l:List Bool):List Bool:=l++List.replicate (jR l.length) false
theorem FA (l:List Bool):(jr l).length=8*((l.length+7)/8):=by unfold jr jR;rw[ag,cA];omega
theorem alQ (l:List Bool)(h:l.length%8=0):jr l=l:=by
 unfold jr;rw[show jR l.length=0 by unfold jR;omega,yj,bV]
theorem alR (l:List Bool):fR (jr l)=fR l:=by
 refine EV _ _ (uH _) (uH _) ?_;rw[tE,tE,show jR (jr l).length=0 by rw[FA];unfold jR;omega,yj,bV];rfl
theorem alS (l:List Bool):aX (jr l)=aX l:=by unfold aX;rw[alR]
def bH (s:List UInt8):List Bool:=fS (s.map UInt8.toNat)
theorem pP (s:List UInt8):(bH s).length=8*s.length:=by unfold bH;rw[uG,eG]
theorem alT (l:List Bool)(s:List UInt8)(h:l.length%8=0):aX (l++bH s)=aX l++s:=by
 have e:fR (l++bH s)=fR l++s.map UInt8.toNat:=by
  refine EV _ _ (uH _) (λ x hx=>?_) ?_
  ·rcases fE.1 hx with hx|hx
   ·exact uH _ x hx
   ·obtain⟨u,_,rfl⟩:=kJ.1 hx;exact gT u
  ·rw[tE,CU,tE,show jR l.length=0 by unfold jR;omega,yj,bV,
    show jR (l++bH s).length=0 by rw[ag,pP];unfold jR;omega,yj,bV]
   rfl
 unfold aX;rw[e,ka,yi];congr 1;conv=>rhs;rw[<-List.map_id s]
 exact Ct λ u _=>by simp
theorem Zo (x k:Nat)(c:Nat)(h:x<2^k):x|||(c*2^k)=x+c*2^k:=by
 rw[Nat.or_comm,ld,<-Nat.two_pow_add_eq_or_of_lt h,Nat.add_comm]
theorem Zp:∀(n v:Nat),aH v (n+1)=aH v n++[decide (v/2^n%2=1)]
 |0,v=>by simp[aH]
 |n+1,v=>by
  rw[aH,Zp n (v/2),aH,gU,Nat.pow_succ,ld (2^n) 2,Eu]
theorem Zq:∀(n v j:Nat),j<n->(msb v n).take (j+1)=(msb v n).take j++[decide (v/2^(n-1-j)%2=1)]
 |0,_,_,h=>by omega
 |n+1,v,0,_=>by simp[msb]
 |n+1,v,j+1,h=>by
  rw[msb,uu,uu,Zq n v j aa,gU,show n+1-1-(j+1)=n-1-j by omega]
theorem Zr (v i:Nat):v/2^i%2=ca (decide (v/2^i%2=1)):=by
 have:v/2^i%2=0∨v/2^i%2=1:=aa;rcases this with h|h<;>simp[h,ca]
theorem MS {P:Program}{ops:Array Oper}{rest:List Oper}{o:Oper}{a:Act}{w:World}{Q:Exit->Act->World->Prop}(d_:o.guard=none)(t:TypeId)(parts:Array (Nat×Operand))(ho:o.op= .build t parts)(Ip:Array (Nat×Value))(v:Value)(hv:(parts.map λ (i,x)=>(i,a.eval x))=Ip)
 (hr:∀w:World,(Instr.build t Ip).run P w= .ok v w)(h:wpList P ops Q rest (a.put o.dst v) w):wpList P ops Q (o::rest) a w:=
 wpList_plain d_ λ K hK=>by
  unfold Oper.wp execOp;simp only[ho,hv,dZ,hr,Result.andThen_ok];exact hK _ _ h
structure PW (w w':World)(g:Nat)(r r':Option Nat):Prop where
 os:w'.os=w.os
 tape:w'.tape=w.tape
 output:w'.output=w.output
 size:w.heap.size<=w'.heap.size
 block:∀k,k<w.heap.size->k≠g->some k≠r->w'.heap[k]? =w.heap[k]?
 row:r'=r∨∃k,r'=some k/\w.heap.size<=k
section
variable {w w' bO:World} {g:Nat} {r r' AW:Option Nat}
theorem PW.refl:PW w w g r r:=⟨rfl,rfl,rfl,ai _,λ _ _ _ _=>rfl,.inl rfl⟩
theorem PW.pQ (h:Below w.heap.size w w'):PW w w' g r r:=⟨h.os,h.tape,h.output,h.size,λ k hk _ _=>h.block k hk,.inl rfl⟩
theorem PW.trans (h:PW w w' g r r')(h2:PW w' bO g r' AW):PW w bO g r AW:=by
 refine⟨h2.os.trans h.os,h2.tape.trans h.tape,h2.output.trans h.output,b_ h.size h2.size,λ k hk hg hr=>?_,?_⟩
 ·refine(h2.block k (ur hk h.size) hg ?_).trans (h.block k hk hg hr);rcases h.row with e|⟨j,e,hj⟩
  ·rw[e];exact hr
  ·rw[e];intro e2;cases e2;omega
 ·rcases h2.row with e|⟨j,e,hj⟩
  ·rw[e];exact h.row
  ·exact .inr ⟨j,e,b_ h.size hj⟩
theorem PW.pR (w:World)(g i:Nat)(u:Value)(r:Option Nat):PW w (w.setCell ⟨g,i,none⟩ u) g r r:=
 ⟨rfl,rfl,rfl,by simp[World.setCell],λ k _ hg _=>Eo w _ u k hg,.inl rfl⟩
theorem PW.alU (w:World)(g b i:Nat)(u:Value):PW w (w.setCell ⟨b,i,none⟩ u) g (some b) (some b):=
 ⟨rfl,rfl,rfl,by simp[World.setCell],λ k _ _ hr=>Eo w _ u k (λ e=>hr (by rw[e])),.inl rfl⟩
theorem PW.drew (w:World)(g:Nat)(r:Option Nat):PW w w.drew g r r:=⟨rfl,rfl,rfl,ai _,λ _ _ _ _=>rfl,.inl rfl⟩
theorem PW.below {B:Nat}(h:PW w w' g r r')(hB:B<=w.heap.size)(hg:B<=g)(hr:∀k,r=some k->B<=k):Below B w w':=
 ⟨h.os,h.tape,h.output,h.size,λ k hk=>h.block k aa aa (λ e=>by have:=hr k e.symm;omega)⟩
def nf (g:Nat)(r:Option Nat)(A:Option Addr)(xs:List Value):Prop:=xs≠[]->∀ad,A=some ad->ad.block≠g/\some ad.block≠r
theorem nf.step {A:Option Addr}{xs:List Value}(h:nf g r A xs)(hr:Rd w A xs)(hp:PW w w' g r r'):nf g r' A xs:=λ hn ad hA=>by
 refine⟨(h hn ad hA).1,?_⟩;rcases hp.row with e|⟨k,e,hk⟩
 ·rw[e];exact(h hn ad hA).2
 ·rw[e];intro e2;obtain⟨b,o,e3,hc⟩:=hr hn;rw[hA]at e3
  cases e3
  cases xs with
  |nil=>exact hn rfl
  |cons x xs=>
   have:=cQ w _ (hc 0 x rfl)
   cases e2
   simp only at this hk;omega
theorem Rd.pw {A:Option Addr}{xs:List Value}(h:Rd w A xs)(ho:nf g r A xs)(hp:PW w w' g r r'):Rd w' A xs:=λ hn=>by
 obtain⟨b,o,e,hc⟩:=h hn;refine⟨b,o,e,λ j u hj=>?_⟩;have sF:=hc j u hj;have ao:=cQ w _ sF;have h2:=ho hn _ e;have hb:=hp.block b ao h2.1 h2.2;simp only[World.cell?]at sF⊢;rw[hb];exact sF
theorem nf.old {A:Option Addr}{xs:List Value}(h:Rd w A xs)(hg:w.heap.size<=g)(hr:∀k,r=some k->w.heap.size<=k):nf g r A xs:=λ hn ad hA=>by
 obtain⟨b,o,e,hc⟩:=h hn
 cases xs with
 |nil=>exact absurd rfl hn
 |cons x xs=>
  have:=cQ w _ (hc 0 x rfl);rw[hA]at e
  cases e
  simp at this⊢;exact⟨aa,λ e=>by have:=hr _ e.symm;omega⟩
theorem nf.fresh {A:Option Addr}{xs:List Value}(h:∀ad,A=some ad->w.heap.size<=ad.block)(hg:g<w.heap.size)(hr:∀k,r=some k->k<w.heap.size):nf g r A xs:=λ _ ad hA=>by
 have:=h ad hA;exact⟨aa,λ e=>by have:=hr _ e.symm;omega⟩
theorem Bk.pw {k:Nat}{t:TypeId}{cs:Array Value}(h:Bk w k t cs)(hg:k≠g)(hr:some k≠r)(hp:PW w w' g r r'):Bk w' k t cs:=(hp.block k h.lt hg hr).trans h
end
theorem Zs {w:World}{e:TypeId}{size n B:Nat}{v:Value}{xs:List Value}(h:w.ownsRow 0 e size v n xs)(hb:∀k,v.ownBlock=some k->B<=k):w.ownsRow B e size v n xs:=by
 refine⟨h.1,?_⟩;rcases h.2 with e1|⟨g,cap,cur,e1,_,h2⟩
 ·exact .inl e1
 ·exact .inr ⟨g,cap,cur,e1,hb g (by rw[e1];rfl),h2⟩
theorem MT {w:World}{e:TypeId}{size n B:Nat}{v:Value}{xs:List Value}(h:w.ownsRow B e size v n xs):w.ownsRow 0 e size v n xs:=by
 refine⟨h.1,?_⟩;rcases h.2 with e1|⟨g,cap,cur,e1,_,h2⟩
 ·exact .inl e1
 ·exact .inr ⟨g,cap,cur,e1,gV _,h2⟩
def eO (w:World)(g:Nat)(r:Option Nat)(l:List Bool):Prop:=
 ∃v,Bk w g 254 #[v,.int .i64 (l.length:Nat)]/\w.ownsRow 0 5 1 v (aX l).length (aJ (aX l))/\v.ownBlock=r/\r≠some g
section
variable {w w':World} {g:Nat} {r:Option Nat} {l:List Bool}
theorem eO.lt (h:eO w g r l):g<w.heap.size/\∀k,r=some k->k<w.heap.size:=by
 obtain⟨v,h1,h2,h3,h4⟩:=h;exact⟨h1.lt,λ k hk=>(h2.lt k (h3.trans hk)).2⟩
theorem eO.same (h:eO w g r l)(hg:w'.heap[g]? =w.heap[g]?)(hr:∀k,r=some k->w'.heap[k]? =w.heap[k]?):eO w' g r l:=by
 obtain⟨v,h1,h2,h3,h4⟩:=h;refine⟨v,hg.trans h1,⟨h2.1,?_⟩,h3,h4⟩;rcases h2.2 with e|⟨k,cap,cur,e,h5,h6,h7⟩
 ·exact .inl e
 ·exact .inr ⟨k,cap,cur,e,h5,(hr k (by rw[<-h3,e];rfl)).trans h6,h7⟩
theorem eO.below (h:eO w g r l)(hb:Below w.heap.size w w'):eO w' g r l:=h.same (hb.block g h.lt.1) λ k hk=>hb.block k (h.lt.2 k hk)
theorem eO.drew (h:eO w g r l):eO w.drew g r l:=h.same rfl λ _ _=>rfl
theorem eO.new (w:World):eO (w.alloc (.cells #[.slice none 0 0,.int .i64 0] 254)) w.heap.size none []:=
 ⟨.slice none 0 0,Bk.new w _ _,by rw[alN];exact jD _ _ _ _,rfl,aj⟩
end
end
section
open Go.RowKit
theorem Rh:El Tryz.prog 54 5 1 1:=El.kg (z:=.int .u8 0) Tryz.underlying54 ah aA (by rfl)
theorem Ri {P:Program}(w:World){ops:Array Oper}{rest:List Oper}{o:Oper}{a:Act}{Q:Exit->Act->World->Prop}(d_:o.guard=none)(s x:Operand)(t:TypeId)
 (ho:o.op= .call {callee:=.builtin .append,args:=#[s,x],argTypes:=#[t,t]})
 (e:TypeId)(size bytes:Nat)(jF:El P t e size bytes)
 (v:Value)(n:Nat)(xs:List Value)(aw:w.ownsRow 0 e size v n xs)(hs:a.eval s=v)(C:Array Value)
 (hx:a.eval x= .slice (some ⟨w.heap.size,0,none⟩) 1 1)(hC:C.size=size)(h1:∀u∈C.toList,u.oneCell'=true)
 (kh:n+1<=maxLen)(iQ:(n+1)*bytes<=140737488355328)
 (h:∀g' cap w',w'.ownsRow 0 e size (.slice (some ⟨g',0,none⟩) (n+1) cap) (n+1) (xs++C.toList)->(∀g,PW w w' g v.ownBlock (some g'))->g'<w'.heap.size->wpList P ops Q rest (a.put o.dst (.slice (some ⟨g',0,none⟩) (n+1) cap)) w'):wpList P ops Q (o::rest) a (w.alloc (.cells C e)):=by
 obtain⟨ht,aG,i,z,hi,hz,lE,nH,lh⟩:=jF;refine wpList_append_lies (w.alloc (.cells C e)) d_ s x t ho 0 e i z size bytes ht hi hz lE nH lh aG v n xs hs (aw.alloc _) ⟨w.heap.size,0,none⟩ 1 1 C.toList hx (by simp[hC]) ?_ h1 aa kh iQ (gV _) _ rfl ?_
 ·intro j u hj;rw[lD,zF];simpa using hj
 ·intro g' cap w' h2 h3 h4 h5;refine h g' cap w' h2 (λ g=>⟨h3.os,h3.tape,h3.output,b_ aj h3.size,λ k hk _ hr=>(h3.block k (by simp;omega) hr).trans (wF w _ k hk),?_⟩) h5;rcases h4 with h4|h4
  ·exact .inl h4.symm
  ·exact .inr ⟨g',rfl,by rw[h4];simp⟩
def ir (w:World)(g:Nat)(r:Option Nat)(l:List Bool)(e:Ending)(w':World):Prop:=e= .returned (.tuple #[])/\∃r',eO w' g r' l/\PW w w' g r r'
theorem Zt {w:World}{g rb c N q n:Nat}{l:List Bool}{b:Bool}{A:List UInt8}{y z:UInt8}{X Y:Int}(hB:Bk w g 254 #[.slice (some ⟨rb,0,none⟩) n c,.int .i64 (N:Nat)])
 (aw:w.ownsRow 0 5 1 (.slice (some ⟨rb,0,none⟩) n c) n (aJ (A++[y])))(aS:g≠rb)(hq:A.length=q)(hl:l.length=N)(hz:aX (l++[b])=A++[z])(hX:X=z.toNat)(hY:Y=(N:Int)+1):
 eO ((w.setCell ⟨rb,q,none⟩ (.int .u8 X)).setCell ⟨g,1,none⟩ (.int .i64 Y)) g (some rb) (l++[b])/\PW w ((w.setCell ⟨rb,q,none⟩ (.int .u8 X)).setCell ⟨g,1,none⟩ (.int .i64 Y)) g (some rb) (some rb):=by
 subst hX hY hl hq;have hn:n=(aX (l++[b])).length:=by have:=aw.1;rw[je,ag]at this;rw[hz,ag];simp at this⊢;omega
 obtain⟨s1,s2⟩:=aw.stored A.length (.int .u8 (z.toNat:Int))
 have e:(aJ (A++[y])).set A.length (.int .u8 (z.toNat:Int))=aJ (A++[z]):=by
  unfold aJ;rw[ka,ka,qi _ _ aj];simp
 rw[e,<-hz]at s1;have b1:Bk (w.setCell ⟨rb,A.length,none⟩ (.int .u8 (z.toNat:Int))) g 254 #[.slice (some ⟨rb,0,none⟩) n c,.int .i64 (l.length:Nat)]:=hB.far (by simpa using aS) _;have b2:=b1.aP 1 (.int .i64 ((l.length:Int)+1));refine⟨⟨.slice (some ⟨rb,0,none⟩) n c,?_,?_,rfl,λ e=>aS (cG e).symm⟩,(PW.alU w g rb A.length _).trans (PW.pR _ g 1 _ _)⟩
 ·rw[ag];exact b2
 ·rw[<-hn];exact s1.kept (row:=some g) (aY _ g 1 _) (.inr (by simp[Value.ownBlock];exact λ e=>aS e.symm))
structure Zu (w wr:World)(g:Nat)(r:Option Nat)(rb c N n:Nat)(X:List UInt8):Prop where
 bk:Bk wr g 254 #[.slice (some ⟨rb,0,none⟩) n c,.int .i64 (N:Nat)]
 own:wr.ownsRow 0 5 1 (.slice (some ⟨rb,0,none⟩) n c) n (aJ X)
 ne:g≠rb
 pw:PW w wr g r (some rb)
theorem alV (b:Bool)(m:Nat)(h:m<8):((ca b:Nat):Int)*2^m=((ca b*2^m:Nat):Int):=by push_cast;rfl
theorem alW (x y:Nat)(hx:x<256)(hy:y<256):bits .or .u8 (x:Int) (y:Int)=((x|||y:Nat):Int):=by
 have h:x|||y<256:=uw (n:=8) hx hy;show IntKind.u8.wrap ((BitVec.ofInt 8 (x:Int)|||BitVec.ofInt 8 (y:Int)).toNat:Int)=_;rw[BitVec.toNat_or,qf,qf,IntKind.wrap_u8];simp only[Nat.reducePow];rw[show((x:Int)%((256:Nat):Int)).toNat=x by omega,show((y:Int)%((256:Nat):Int)).toNat=y by omega];omega
theorem alX {m:Nat}(h:m<8):2^m<=128:=by
 have:=px (n:=2) aa (show m<=7 by omega);simpa using this
theorem Zw (x m:Nat)(b:Bool)(hm:m<8)(hx:x<2^m):bits .or .u8 (x:Int) (wrap64 (((ca b:Nat):Int)*2^m)%256)=((UInt8.ofNat (x+(if b then 1 else 0)*2^m)).toNat:Int):=by
 have h1:=alX hm;have h2:ca b=if b then 1 else 0:=rfl
 rw[<-h2,alV b m hm];have h3:ca b*2^m<=2^m:=by cases b<;>simp[ca]
 obtain⟨y,hy⟩:∃y,ca b*2^m=y:=⟨_,rfl⟩;have e1:wrap64 ((ca b*2^m:Nat):Int)%256=((ca b*2^m:Nat):Int):=by rw[hy]at h3⊢;unfold wrap64;omega
 rw[e1,alW x _ aa aa,Zo x m (ca b) hx,yb];rw[hy]at h3⊢;omega
theorem Zx (b:Bool)(g:Nat)(r:Option Nat)(l:List Bool)(w:World)(h:eO w g r l)(hl:l.length<=1000000000):
 Calls Tryz.prog 227 #[.pointer (some ⟨g,0,none⟩),.int .i64 (ca b:Nat)] w (ir w g r (l++[b])):=by
 have mixed:Tryz.prog.follows Departure.mixedOrders=true:=ah;obtain⟨v,hB,aw,cK,tU⟩:=h;have hlen:=Du l;obtain⟨N,hN⟩:∃N,l.length=N:=⟨_,rfl⟩;obtain⟨n,hn⟩:∃n,(aX l).length=n:=⟨_,rfl⟩;rw[hN]at hl hlen hB;rw[hn]at hlen aw;have HB:=ae hB;have HN:=ae hN;have HV:=ae (af cK tU);obtain⟨q,hq⟩:∃q,N/8=q:=⟨_,rfl⟩;obtain⟨m,hm⟩:∃m,N%8=m:=⟨_,rfl⟩;have wV:m<8:=aa;have c0:=hB.cell_ 0 v rfl;have c1:=hB.cell_ 1 (.int .i64 (N:Nat)) rfl;have f0:=hB.frozen 0;have f1:=hB.frozen 1;by_cases h8:m=0
 ·have Zy:=alO l b (by rw[hN,hm,h8]);subst h8;have Zz:n=q:=aa;have iq:(N:Int)%8=0:=aa;have HQ:=ae (af hq (af Zz (af Zy hn)));clear hB hN hlen hq hm cK tU Zy Zz hn wV;go_enter Tryz.func227,Tryz.ntmps227;go_upto_region 2 with(at_builtin;go_must (refine Ri _ rfl (.tmp 14) (.tmp 15) 54 rfl 5 1 1 Rh v n _ aw rfl _ rfl rfl (by intro u hu;simp at hu;subst hu;rfl) (by unfold maxLen;have:=HQ.out;omega) (by have:=HQ.out;omega) ?_);intro rb cap w2 dk MU fO;have MV:=HB.out.lt;have tV:v.ownBlock≠some g:=(by rw[HV.out.1];exact HV.out.2);have aC:w2.heap[g]? =w.heap[g]? :=(MU w.heap.size).block g MV aa (λ e=>tV e.symm);have cC:Bk w2 g 254 #[v,.int .i64 (N:Nat)]:=aC.trans HB.out;have d0:=cC.cell_ 0 v rfl;have d1:=cC.cell_ 1 (.int .i64 (N:Nat)) rfl;have e0:=cC.frozen 0;have e1:=cC.frozen 1);have MV:=HB.out.lt
  have aS:g≠rb:=λ e=>by
   rcases(MU w.heap.size).row with h|⟨k,h,hk⟩
   ·rw[HV.out.1,<-e]at h;exact HV.out.2 h.symm
   ·have:=cG h;omega
  have bF:Bk (w2.setCell ⟨g,0,none⟩ (.slice (some ⟨rb,0,none⟩) (n+1) cap)) g 254 #[.slice (some ⟨rb,0,none⟩) (n+1) cap,.int .i64 (N:Nat)]:=cC.aP 0 _
  have fJ:(w2.setCell ⟨g,0,none⟩ (.slice (some ⟨rb,0,none⟩) (n+1) cap)).ownsRow 0 5 1 (.slice (some ⟨rb,0,none⟩) (n+1) cap) (n+1) (aJ (aX l++[0])):=by
   rw[<-wN (aX l) 0 0 rfl];exact dk.kept (row:=some g) (aY _ g 0 _) (.inr (by simp[Value.ownBlock];exact λ e=>aS e.symm))
  have hM:Zu w (w2.setCell ⟨g,0,none⟩ (.slice (some ⟨rb,0,none⟩) (n+1) cap)) g r rb cap N (n+1) (aX l++[0]):=⟨bF,fJ,aS,by rw[<-HV.out.1];exact(MU g).trans (PW.pR _ g 0 _ _)⟩;clear bF fJ cC aC d0 d1 e0 e1 dk MU fO c0 c1 f0 f1 aw tV;generalize w2.setCell ⟨g,0,none⟩ (.slice (some ⟨rb,0,none⟩) (n+1) cap)=w3 at*;have c0:=hM.bk.cell_ 0 _ rfl;have c1:=hM.bk.cell_ 1 _ rfl;have f1:=hM.bk.frozen 1;have vp:(N:Int)/8=(q:Int):=by have:=HQ.out.1;omega
  have Rj:q<n+1:=by have:=HQ.out.2.1;omega
  have tW:(q:Int)<(n:Int)+1:=aa
  have cr:w3.cell? ⟨rb,q,none⟩=some (.int .u8 0):=by
   rw[hM.own.cellAt q aa,<-wN (aX l) 0 0 rfl,lf (by rw[je,HQ.out.2.2.2];have:=HQ.out.2.1;omega),je,HQ.out.2.2.2,HQ.out.2.1,gy];rfl
  have fr:=hM.own.frozenAt q;have HM:=ae hM;clear hM;go_big_region_o;all_goals go_wp2_with fail
  have hX:bits .or .u8 0 (wrap64 ((ca b:Nat):Int)%256)=(((if b then 1 else 0:UInt8)).toNat:Int):=by
   have h:=Zw 0 0 b aa aa;rw[Int.pow_zero,Int.mul_one]at h;refine Eq.trans h ?_
   cases b<;>rfl
  have hD:=Zt (b:=b) (A:=aX l) (y:=0) HM.out.bk HM.out.own HM.out.ne (by rw[HQ.out.2.2.2,HQ.out.2.1]) HN.out HQ.out.2.2.1 hX rfl;exact eY (eQ rfl _ _ _) rfl ⟨rfl,some rb,hD.1.drew,(HM.out.pw.trans hD.2).trans (PW.drew _ _ _)⟩
 ·obtain⟨A,x,ey,dI,FB,AX⟩:=alP l b (by rw[hN,hm];exact h8);rw[hN,hm]at FB;rw[hN,hq]at dI;have hx:x<256:=ur FB (by have:=px (n:=2) aa (show m<=8 by omega);simpa using this);have alY:A.length+1=n:=by rw[<-hn,ey,ag];rfl
  obtain⟨rb,cap,cur,rfl,_,dC,_⟩:=O3 aw aa;have aS:g≠rb:=λ e=>tU (by rw[<-cK,e];rfl);have mv:r=some rb:=cK.symm;have hM:Zu w w g r rb cap N n (A++[UInt8.ofNat x]):=⟨hB,by rw[<-ey];exact aw,aS,by rw[mv];exact PW.refl⟩;have vp:(N:Int)/8=(q:Int):=aa;have Dv:(N:Int)%8=(m:Int):=aa;have FC:((m:Int)==0)=false:=by simp;omega
  have iq:(0:Int)<=(m:Int):=aa;have rZ:(m:Int)<64:=aa;have tW:(q:Int)<(n:Int):=aa
  have cr:w.cell? ⟨rb,q,none⟩=some (.int .u8 (x:Nat)):=by
   rw[hM.own.cellAt q aa];unfold aJ;rw[ka,lf (by rw[eG];omega),eG,dI,gy];simp;omega
  have fr:=hM.own.frozenAt q;have HM:=ae hM;have alZ:=ae hm;have HQ:=ae (af dI (af FB (af AX hx)));clear hM hB aw hN hn hlen hq hm cK tU ey dI FB AX dC alY h8 mv;go_enter Tryz.func227,Tryz.ntmps227;go_upto_region 2 with fail;go_big_region_o;all_goals go_wp2_with fail
  have hX:=Zw x m b wV HQ.out.2.1;have AX:=HQ.out.2.2.1;rw[HN.out,alZ.out]at AX;have hD:=Zt (b:=b) (A:=A) (y:=UInt8.ofNat x) HM.out.bk HM.out.own HM.out.ne HQ.out.1 HN.out AX hX rfl;exact eY (eQ rfl _ _ _) rfl ⟨rfl,some rb,hD.1.drew,(HM.out.pw.trans hD.2).trans (PW.drew _ _ _)⟩
def qU (f:Nat->Nat)(v:Value):Array Value:=(dz f).push v
theorem al0 (f:Nat->Nat):Tryz.prog.built 324 [(0,.agg (dz f))]=some (qU f (.slice none 0 0)):=ah
theorem al1 (f:Nat->Nat)(v:Value)(i:Nat)(h:i<16):(qU f v)[i]? =some (.int .i64 (f i:Nat)):=by
 unfold qU;rw[Co,if_neg (by rw[pL];omega),vg f i h]
theorem FD (f:Nat->Nat)(v:Value):(qU f v)[16]? =some v:=by
 unfold qU;rw[Co,if_pos (by rw[pL])]
theorem al2 (f:Nat->Nat)(v u:Value):(qU f v).setIfInBounds 16 u=qU f u:=by
 apply Array.ext_getElem?;intro i;rw[Array.getElem?_setIfInBounds];by_cases h:16=i
 ·subst h;rw[if_pos rfl,if_pos (by unfold qU;rw[Array.size_push,pL];omega),FD]
 ·rw[if_neg h];unfold qU;rw[Co,Co,pL,if_neg (λ e=>h e.symm),if_neg (λ e=>h e.symm)]
def dA (w:World)(t:Nat)(ls:List Nat):Prop:=∃v,Bk w t 324 (qU (aR ls) v)/\w.ownsRow 0 3 1 v (ez ls 15).length (nv (ez ls 15))
theorem iK {w:World}{a b:Nat}{t u:TypeId}{cs ds:Array Value}(h:Bk w a t cs)(h2:Bk w b u ds)(hn:t≠u):a≠b:=λ e=>by
 subst e;unfold Bk at h h2;rw[h]at h2;have:=cG h2;simp only[Obj.cells.injEq]at this;exact hn this.2.1
theorem fx {w:World}{B size n b:Nat}{e u:TypeId}{v:Value}{xs:List Value}{ds:Array Value}(h:w.ownsRow B e size v n xs)(h2:Bk w b u ds)(hn:e≠u):v.ownBlock≠some b:=λ hb=>by
 rcases h.2 with⟨e1,_⟩|⟨g,cap,cur,e1,_,hg,_⟩
 ·rw[e1]at hb;cases hb
 ·rw[e1]at hb;exact iK (a:=g) (b:=b) (show Bk w g e cur from hg) h2 hn (cG hb)
theorem al3 {w:World}{B B' size al4 n m:Nat}{e u:TypeId}{v v':Value}{xs ys:List Value}(h:w.ownsRow B e size v n xs)(h2:w.ownsRow B' u al4 v' m ys)(hn:e≠u):v.ownBlock=none∨v.ownBlock≠v'.ownBlock:=by
 rcases h2.2 with⟨e1,_⟩|⟨g,cap,cur,e1,_,hg,_⟩
 ·subst e1
  cases hv:v.ownBlock with
  |none=>exact .inl rfl
  |some k=>exact .inr (by simp[Value.ownBlock])
 ·subst e1;exact .inr (fx h (show Bk w g u cur from hg) hn)
theorem Dw {w w':World}{B size n:Nat}{e:TypeId}{v:Value}{xs:List Value}(h:w.ownsRow B e size v n xs)(hk:∀k,v.ownBlock=some k->w'.heap[k]? =w.heap[k]?):w'.ownsRow B e size v n xs:=by
 refine⟨h.1,?_⟩;rcases h.2 with e1|⟨g,cap,cur,e1,h3,h4,h5⟩
 ·exact .inl e1
 ·exact .inr ⟨g,cap,cur,e1,h3,(hk g (by rw[e1];rfl)).trans h4,h5⟩
theorem dA.below {w w':World}{t:Nat}{ls:List Nat}(h:dA w t ls)(hb:Below w.heap.size w w'):dA w' t ls:=by
 obtain⟨v,h1,h2⟩:=h;exact⟨v,h1.aL hb,kL h2 hb⟩
theorem dA.lt {w:World}{t:Nat}{ls:List Nat}(h:dA w t ls):t<w.heap.size:=by obtain⟨v,h1,_⟩:=h;exact h1.lt
def pS (ls:List Nat)(n i:Nat):List Nat:=(List.range i).filter λ s=>decide (ls.getD s 0=n)
theorem al5 (ls:List Nat)(n i:Nat):pS ls n (i+1)=if ls.getD i 0=n then pS ls n i++[i]else pS ls n i:=by
 unfold pS;rw[List.range_succ,kI];by_cases h:ls.getD i 0=n
 ·rw[if_pos h];simp only[oJ,Cr,decide_eq_true_eq,if_pos h]
 ·rw[if_neg h];simp only[oJ,Cr,decide_eq_true_eq,if_neg h,bV]
theorem ZA (ls:List Nat)(n:Nat):pS ls n ls.length=CT ls n:=rfl
theorem ZB (ls:List Nat)(n i:Nat):(pS ls n i).length<=i:=by
 have:=List.length_filter_le (λ s=>decide (ls.getD s 0=n)) (List.range i);rwa [List.length_range]at this
theorem ZC (ls:List Nat)(n:Nat):ez ls (n+1)=ez ls n++CT ls (n+1):=rfl
theorem ZD (ls:List Nat):∀n,(ez ls n).length<=n*ls.length
 |0=>by simp[ez]
 |n+1=>by
  have h1:=ZD ls n;have h2:=ZB ls (n+1) ls.length;rw[ZA]at h2;rw[ZC,ag,Nat.succ_mul];omega
theorem Rk (c:Nat->Nat)(h:∀n,2<=n->c n=0):∀n,ll c (n+1)=c 1
 |0=>by simp[ll]
 |n+1=>by rw[ll,Rk c h n,h (n+2) aa];rfl
theorem al6 {ls:List Nat}(hg:dh ls):gK (aR ls) 15=0∨(ez ls 15).length=0∨((ez ls 15).length=1/\aR ls 1=1):=by
 rcases hg.room with h|⟨_,h1,h2⟩|h
 ·left;rw[PH ls hg.le,h];rfl
 ·right;right;exact⟨by rw[ET,Rk _ h2 14,h1],h1⟩
 ·right;left;rw[ET,Rk _ (λ n _=>h n) 14,h 1]
structure MW (w wr:World)(f:Nat->Nat)(b t:Nat)(v:Value)(l:List Nat):Prop where
 bc:Bk wr b 322 (dz f)
 bt:Bk wr t 324 (qU f v)
 own:wr.ownsRow w.heap.size 3 1 v l.length (nv l)
 lt:w.heap.size<=b/\w.heap.size<=t
 bl:Below w.heap.size w wr
def al7 (ls:List Nat)(w:World)(e:Ending)(w':World):Prop:=∃t,e= .returned (.tuple #[.pointer (some ⟨t,0,none⟩),.int .i64 0])/\w.heap.size<=t/\dA w' t ls/\Below w.heap.size w w'
theorem yW:El Tryz.prog 79 3 1 8:=El.kg (z:=.int .i64 0) Tryz.underlying79 xF aA (by rfl)
theorem Rl (ls:List Nat)(A:Option Addr)(m c:Nat)(hl:ls.length=m)(hm:m<=320)(hg:dh ls)(w:World)(hr:Rd w A (nv ls)):
 Calls Tryz.prog 152 #[.slice A m c] w (al7 ls w):=by
 have mu:Hid (∀w',Below w.heap.size w w'->Calls Tryz.prog 220 #[.slice A m c] w' λ e bO=>e= .returned (.tuple #[.agg (dz (aR ls)),.bool true])/\Below w'.heap.size w' bO):=
  ae λ w' hb=>Y' ls A m c hl hm hg.le w' (hr.below hb)
 obtain⟨z,hz⟩:∃z,gK (aR ls) 15=z:=⟨_,rfl⟩;have CF:0<=z:=by rw[<-hz];exact hg.free (ai _)
 have sE:Hid (∀w',Calls Tryz.prog 221 #[.agg (dz (aR ls))] w' λ e bO=>e= .returned (.int .i64 z)/\Below w'.heap.size w' bO):=
  ae λ w'=>Zc (aR ls) z hz CF (λ n=>b_ (MN ls n) aa) w'
 have alL:¬z<0:=aa;have HI:=ae (show(Tryz.prog.info? 322).map (·.size)=some (dz (aR ls)).size by rw[pL];exact MO);have HS:=ae (pL (aR ls));have HO:=ae (Rc (aR ls));have HL:=ae hl;have HR:=ae hr;have sB:=ae (al6 hg);have HZ:=ae hz;have il:∀w:World,(Instr.build 324 #[(0,.agg (dz (aR ls)))]).run Tryz.prog w= .ok (.agg (qU (aR ls) (.slice none 0 0))) w:=λ w=>run_build w _ _ _ (al0 (aR ls));have pT:=ae il;obtain⟨C,hC⟩:∃C,dz (aR ls)=C:=⟨_,rfl⟩;obtain⟨D,hD⟩:∃D,qU (aR ls) (.slice none 0 0)=D:=⟨_,rfl⟩;rw[hC]at mu sE HI HS HO;rw[hC,hD]at pT;have HC:=ae (af hC hD);clear hl hr hg hz hC hD il;go_enter Tryz.func152,Tryz.ntmps152;go_wp2_with fail;(with_reducible refine(mu.out _ (aB _ _)).mono ?_);rintro e w1 ⟨rfl,au⟩;have dN:=Bk.new w1 322 (dz λ _=>0);rw[MM]at dN;have uZ:=ae dN;clear dN;go_upto_region 4 with(refine nG rfl 322 _ _ rfl w1.heap.size C rfl rfl 322 _ uZ.out HI.out (by rw[HS.out];rfl) HO.out ?_);have aC:Below w.heap.size w ((w1.alloc (.cells #[.int .i64 0,.int .i64 0,.int .i64 0,.int .i64 0,.int .i64 0,.int .i64 0,.int .i64 0,.int .i64 0,.int .i64 0,.int .i64 0,.int .i64 0,.int .i64 0,.int .i64 0,.int .i64 0,.int .i64 0,.int .i64 0] 322)).setRow w1.heap.size C):=below_setRow (bl au ((aB _ _).alloc (ai _) _)) au.size C;have cC:Bk ((w1.alloc (.cells #[.int .i64 0,.int .i64 0,.int .i64 0,.int .i64 0,.int .i64 0,.int .i64 0,.int .i64 0,.int .i64 0,.int .i64 0,.int .i64 0,.int .i64 0,.int .i64 0,.int .i64 0,.int .i64 0,.int .i64 0,.int .i64 0] 322)).setRow w1.heap.size C) w1.heap.size 322 C:=kd _ w1.heap.size _ C 322 (0,0) uZ.out;have aG:=au.size;have H2:=ae (af cC (af aC aG));clear aC cC au uZ aG mu;generalize(w1.alloc (.cells #[.int .i64 0,.int .i64 0,.int .i64 0,.int .i64 0,.int .i64 0,.int .i64 0,.int .i64 0,.int .i64 0,.int .i64 0,.int .i64 0,.int .i64 0,.int .i64 0,.int .i64 0,.int .i64 0,.int .i64 0,.int .i64 0] 322)).setRow w1.heap.size C=w2 at*;generalize w1.heap.size=b at*;go_upto_region 5 with(first|(refine qk rfl 322 _ rfl b rfl 322 C (0,0) _ H2.out.1 Tryz.underlying322 rfl HI.out ?_)|(refine MS rfl 324 _ rfl _ (.agg D) ?_ pT.out ?_;go_must (simp only[zP,List.map_cons,List.map_nil];rfl)))
 have hW:MW w (w2.alloc (.cells D 324)) (aR ls) b w2.heap.size (.slice none 0 0) []:=by
  refine⟨?_,?_,jD _ _ _ _,⟨H2.out.2.2,H2.out.2.1.size⟩,bl H2.out.2.1 ((aB _ _).alloc (ai _) _)⟩
  ·rw[HC.out.1];exact H2.out.1.alloc _
  ·rw[HC.out.2];exact Bk.new w2 _ _
 have HW:=ae hW;clear hW H2;generalize w2.alloc (.cells D 324)=w3 at*;generalize w2.heap.size=t at*;go_wp2_with fail;go_loopw [7] (λ vn wr=>∃(n:Nat) (v:Value),vn= .int .i64 ((n+1:Nat))/\n<=15/\Hid (MW w wr (aR ls) b t v (ez ls n))) (λ vn _=>16-vnat vn)
 case atStart=>exact⟨0,_,rfl,aa,HW⟩
 case round=>
  clear HW;obtain⟨n,v,rfl,hn,HX⟩:=hrel;by_cases ao:n<15
  ·have MX:(n:Int)+1<=15:=aa;go_wp2_with fail;go_loopw [28] (λ vi wr=>∃(i:Nat) (v:Value),vi= .int .i64 (i:Nat)/\i<=m/\Hid (MW w wr (aR ls) b t v (ez ls n++pS ls (n+1) i))) (λ vi _=>m-vnat vi)
   case atStart=>exact⟨0,v,rfl,aa,ae (by rw[show pS ls (n+1) 0=[]from rfl,bV];exact HX.out)⟩
   case round=>
    clear HX;obtain⟨i,v,rfl,hi,HX⟩:=hrel;by_cases fO:(i:Int)<(m:Int)
    ·have cP:i<ls.length:=by rw[HL.out];omega
     obtain⟨bb,oo,rfl,hc⟩:=(HR.out.below HX.out.bl).num cP;obtain⟨x,hx⟩:∃x,ls.getD i 0=x:=⟨_,rfl⟩;rw[hx]at hc;have cm:=ae (al5 ls (n+1) i)
     have gj:=ae (show(ez ls n++pS ls (n+1) i).length<=6000 by
      rw[ag];have h1:=ZD ls n;have h2:=ZB ls (n+1) i;have h3:n*ls.length<=15*320:=yf aa (by rw[HL.out];omega);omega)
     by_cases CQ:x=n+1
     ·have HE:=ae (show pS ls (n+1) (i+1)=pS ls (n+1) i++[i]by rw[cm.out,hx,if_pos CQ]);subst CQ;obtain⟨L,hL⟩:∃L,ez ls n++pS ls (n+1) i=L:=⟨_,rfl⟩;have ZE:=ae (show ez ls n++pS ls (n+1) (i+1)=L++[i]by rw[HE.out,<-aN,hL]);rw[hL]at HX gj;have c0:=HX.out.bt.cell_ 16 v (FD _ _);have f0:=HX.out.bt.frozen 16;clear hx hL cP;go_wp2_with (at_builtin;go_must (refine Ri _ rfl (.tmp 40) (.tmp 42) 79 rfl 3 1 8 yW v L.length (nv L) (MT HX.out.own) rfl _ rfl rfl (by intro u hu;simp at hu;subst hu;rfl) (by unfold maxLen;have:=gj.out;omega) (by have:=gj.out;omega) ?_);intro g' cap w5 yV MY auN;have al8:=fx HX.out.own HX.out.bt aA;have bE:w5.heap[t]? =wr.heap[t]? :=(MY wr.heap.size).block t HX.out.bt.lt (by have:=HX.out.bt.lt;omega) (λ e=>al8 e.symm);have dw:Bk w5 t 324 (qU (aR ls) v):=bE.trans HX.out.bt;have d0:=dw.cell_ 16 v (FD _ _);have e0:=dw.frozen 16)
      have al9:MW w (w5.setCell ⟨t,16,none⟩ (.slice (some ⟨g',0,none⟩) (L.length+1) cap)) (aR ls) b t (.slice (some ⟨g',0,none⟩) (L.length+1) cap) (L++[i]):=by
       have Rm:=fx HX.out.own HX.out.bc aA;have sG:Bk w5 b 322 (dz (aR ls)):=((MY wr.heap.size).block b HX.out.bc.lt (by have:=HX.out.bc.lt;omega) (λ e=>Rm e.symm)).trans HX.out.bc;have L8:b≠t:=iK HX.out.bc HX.out.bt aA
       have ho:w5.ownsRow 0 3 1 (.slice (some ⟨g',0,none⟩) (L.length+1) cap) (L++[i]).length (nv (L++[i])):=by
        rw[Fv,ag];exact yV
       have MJ:(Value.slice (some ⟨g',0,none⟩) (L.length+1) cap).ownBlock≠some t:=fx ho dw aA
       have auO:w.heap.size<=g':=by
        rcases(MY wr.heap.size).row with e|⟨j,e,hj⟩
        ·exact(HX.out.own.lt g' e.symm).1
        ·have:=cG e;have:=HX.out.bl.size;omega
       refine⟨sG.far L8 _,?_,?_,HX.out.lt,?_⟩
       ·have:=dw.aP 16 (.slice (some ⟨g',0,none⟩) (L.length+1) cap);rwa [al2]at this
       ·exact(Zs ho (λ k hk=>by have:=cG hk;simp at this;omega)).kept (row:=some t) (aY _ t 16 _) (.inr MJ)
       ·exact(HX.out.bl.trans ((MY wr.heap.size).below HX.out.bl.size (by have:=HX.out.bl.size;omega) λ k hk=>(HX.out.own.lt k hk).1)).setCell (p:=⟨t,16,none⟩) HX.out.lt.2 _
      go_roundw
      case rel=>exact⟨_,_,.int .i64 ((i:Int)+1),⟨i+1,by first|rfl|go_num,aa,_,ae (by rw[ZE.out];exact al9)⟩,rfl,rfl,rfl⟩
      case measure=>simp[vnat];omega
     ·have HE:=ae (show pS ls (n+1) (i+1)=pS ls (n+1) i by rw[cm.out,hx,if_neg CQ]);have auP:((x:Int)==(n:Int)+1)=false:=by simp;omega
      clear hx cP;go_wp2_with fail;go_roundw
      case rel=>exact⟨i+1,v,by first|rfl|go_num,aa,ae (by rw[HE.out];exact HX.out)⟩
      case measure=>simp[vnat];omega
    ·obtain rfl:i=m:=aa;go_wp2_with fail;go_roundw
     case rel=>exact⟨n+1,v,by first|rfl|go_num,aa,ae (by rw[ZC,<-ZA,HL.out];exact HX.out)⟩
     case measure=>simp[vnat];omega
  ·obtain rfl:n=15:=aa;obtain⟨L,hL⟩:∃L,ez ls 15=L:=⟨_,rfl⟩;have ZE:=ae hL;rw[hL]at HX sB;obtain⟨q,hq⟩:∃q,L.length=q:=⟨_,rfl⟩;obtain⟨_,A0,c0,rfl,cR,bT,bY⟩:=Sl.own HX.out.own;have pU:Hid (∀w',Below wr.heap.size wr w'->dA w' t ls/\Below w.heap.size w w'/\w.heap.size<=t):=ae λ w' hb=>⟨dA.below ⟨_,HX.out.bt,by rw[hL];exact MT HX.out.own⟩ hb,bl HX.out.bl hb,HX.out.lt.2⟩;have d16:=HX.out.bt.cell_ 16 _ (FD _ _);have b1:=(HX.out.bc.cell 1).trans (vg _ 1 aa);obtain⟨y,hy⟩:∃y,aR ls 1=y:=⟨_,rfl⟩;rw[hy]at b1;have vq:Bk wr b 322 C:=by rw[<-HC.out.1];exact HX.out.bc
   have lx:=ae vq;rw[hq]at HX d16 sB cR
   have ama:=ae (show z=0∨q=0∨(q=1/\y=1)by
    have h:=sB.out;rw[HZ.out]at h;rcases h with h|h|h
    ·exact .inl h
    ·exact .inr (.inl h)
    ·exact .inr (.inr ⟨h.1,by rw[<-hy];exact h.2⟩))
   clear hL hq bY hy sB HX vq;by_cases lI:q=0
   ·subst lI;go_wp2_with (first|(refine qk rfl 322 _ rfl b rfl 322 C (0,0) _ lx.out Tryz.underlying322 rfl HI.out ?_)|(go_at_call 221;go_must ((with_reducible refine(sE.out _).mono ?_));rintro e w6 ⟨rfl,b9⟩))
    all_goals
     go_ret2
     have hF:=pU.out _ b9
     exact⟨t,rfl,hF.2.2,hF.1,hF.2.1⟩
   ·by_cases dN:z=0
    ·subst dN;go_wp2_with (first|(refine qk rfl 322 _ rfl b rfl 322 C (0,0) _ lx.out Tryz.underlying322 rfl HI.out ?_)|(go_at_call 221;go_must ((with_reducible refine(sE.out _).mono ?_));rintro e w6 ⟨rfl,b9⟩))
     all_goals
      go_ret2
      have hF:=pU.out _ b9
      exact⟨t,rfl,hF.2.2,hF.1,hF.2.1⟩
    ·obtain⟨rfl,rfl⟩:q=1/\y=1:=by
      rcases ama.out with h|h|h
      ·exact absurd h dN
      ·exact absurd h lI
      ·exact h
     clear lI;go_wp2_with (first|(refine qk rfl 322 _ rfl b rfl 322 C (0,0) _ lx.out Tryz.underlying322 rfl HI.out ?_)|(go_at_call 221;go_must ((with_reducible refine(sE.out _).mono ?_));rintro e w6 ⟨rfl,b9⟩))
     all_goals
      go_ret2
      have hF:=pU.out _ b9
      exact⟨t,rfl,hF.2.2,hF.1,hF.2.1⟩
def IL (a b:Nat):Int:=if a<b then-1 else if b<a then 1 else 0
def intOf:Value->Int
 | .int _ i=>i
 |_=>0
theorem FE (x:Nat)(w:World):Calls Tryz.prog 374 #[.int .i64 (x:Nat)] w λ e w'=>e= .returned (.bool false)/\w=w':=by
 have h:((x:Int) !=(x:Int))=false:=aj;go_enter Tryz.func374,Tryz.ntmps374;go_wp2_with fail;go_ret;exact⟨aj,rfl⟩
theorem ZF (x y:Nat)(w:World):Calls Tryz.prog 350 #[.int .i64 (x:Nat),.int .i64 (y:Nat)] w λ e w'=>e= .returned (.int .i64 (IL x y))/\w=w':=by
 unfold IL;by_cases h1:x<y
 ·rw[if_pos h1];have h2:(x:Int)<(y:Int):=aa;go_enter Tryz.func350,Tryz.ntmps350;go_wp2_with (go_at_call 374;go_must (first|(refine(FE x _).mono ?_)|(refine(FE y _).mono ?_));rintro e w1 ⟨rfl,rfl⟩);go_ret;exact⟨rfl,rfl⟩
 ·rw[if_neg h1];have h2:¬(x:Int)<(y:Int):=aa;by_cases h3:y<x
  ·rw[if_pos h3];have h4:(y:Int)<(x:Int):=aa;go_enter Tryz.func350,Tryz.ntmps350;go_wp2_with (go_at_call 374;go_must (first|(refine(FE x _).mono ?_)|(refine(FE y _).mono ?_));rintro e w1 ⟨rfl,rfl⟩);go_ret;exact⟨rfl,rfl⟩
  ·rw[if_neg h3];have h4:¬(y:Int)<(x:Int):=aa;go_enter Tryz.func350,Tryz.ntmps350;go_wp2_with (go_at_call 374;go_must (first|(refine(FE x _).mono ?_)|(refine(FE y _).mono ?_));rintro e w1 ⟨rfl,rfl⟩);go_ret;exact⟨rfl,rfl⟩
theorem amb (x:Nat)(hx:x<=1000000000)(w:World):Calls Tryz.prog 346 #[.int .i64 (x:Nat)] w λ e w'=>e= .returned (.bool false)/\w=w':=by
 have h1:¬(x:Int)<0:=aa;have h2:¬(4294967296:Int)<(x:Int):=aa;have h3:decide ((x:Int)<0)=false:=ct h1;have h4:decide ((4294967296:Int)<(x:Int))=false:=ct h2;go_enter Tryz.func346,Tryz.ntmps346;go_wp2_with fail;go_ret;exact⟨by simp_all,rfl⟩
theorem amc (l:List Nat)(hl:∀x∈l,x<=1000000000)(A:Option Addr)(n c:Nat)(hn:l.length=n)(fk:n<=1000)(w:World)(hr:Rd w A (nv l)):
 Calls Tryz.prog 372 #[.slice A n c,.func (.func 346) #[] #[]] w λ e w'=>e= .returned (.int .i64 (-1))/\Below w.heap.size w w':=by
 have HN:=ae hn;have HR:=ae hr;have HL:=ae hl;clear hn hr hl;go_enter Tryz.func372,Tryz.ntmps372;go_wp2_with fail;go_loopw [8] (λ v8 wr=>∃i:Nat,v8= .int .i64 (i:Nat)/\i<=n/\wr=w) (λ v8 _=>n-vnat v8)
 case atStart=>exact⟨0,rfl,aa,rfl⟩
 case round=>
  obtain⟨i,rfl,hi,rfl⟩:=hrel;by_cases ao:(i:Int)<(n:Int)
  ·obtain⟨b,o,rfl,hc⟩:=HR.out.num (i:=i) (by rw[HN.out];omega);obtain⟨x,hx⟩:∃x,l.getD i 0=x:=⟨_,rfl⟩;have ng:x<=1000000000:=HL.out x (by rw[<-hx,a_,aZ (by rw[HN.out];omega)];exact mN _);rw[hx]at hc;clear hx;go_wp2_with (go_at_call 346;go_must (refine(amb x ng _).mono ?_);rintro e w1 ⟨rfl,rfl⟩);go_roundw
   case rel=>exact⟨i+1,by first|rfl|go_num,aa,by first|rfl|trivial⟩
   case measure=>simp[vnat];omega
  ·go_wp2_with fail;go_ret;exact⟨rfl,aB _ _⟩
theorem amd (l:List Nat)(hl:∀x∈l,x<=1000000000)(A:Option Addr)(n c:Nat)(hn:l.length=n)(fk:n<=1000)(w:World)(hr:Rd w A (nv l)):
 Calls Tryz.prog 347 #[.slice A n c,.func (.func 346) #[] #[]] w λ e w'=>e= .returned (.bool false)/\Below w.heap.size w w':=by
 have HI:=ae (amc l hl A n c hn fk w hr);clear hl hn hr;go_enter Tryz.func347,Tryz.ntmps347;go_wp2_with fail;(with_reducible refine HI.out.mono ?_);rintro e w1 ⟨rfl,hb⟩;have HB:=ae hb;clear hb;go_wp2_with fail;go_ret;exact⟨rfl,HB.out⟩
