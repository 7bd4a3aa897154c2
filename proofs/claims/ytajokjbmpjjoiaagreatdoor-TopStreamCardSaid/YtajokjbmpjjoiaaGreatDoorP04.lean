import Derived.Test.YtajokjbmpjjoiaaGreatDoorP00
import Derived.Test.YtajokjbmpjjoiaaGreatDoorP03
import Derived.Lib.IndexBytes
import Derived.Lib.IndexLaws
import Derived.LoopIn
import Derived.LoopNIn
import Derived.OwnWalkIn
import Derived.Shelf.Abstract
import Derived.Shelf.RegionOpen
import Derived.TacticsInMore
set_option maxRecDepth 20000
set_option maxHeartbeats 0
set_option linter.unusedVariables false
namespace Go.Proofs.YtajokjbmpjjoiaaGreatDoor
section
open Go.RowKit
def oY (a:List (List UInt8)×List UInt8)(c:UInt8):List (List UInt8)×List UInt8:=if c=47 then(a.1++[a.2],[])else(a.1,a.2++[c])
def sj (p:List UInt8):List (List UInt8)×List UInt8:=p.foldl oY ([],[])
def nQ (p:List UInt8):List (List UInt8):=(sj p).1++[(sj p).2]
theorem aiy (p:List UInt8)(c:UInt8):sj (p++[c])=oY (sj p) c:=by unfold sj;rw[rT];rfl
theorem aiz (r:List UInt8):∀(L:List (List UInt8)) (s:List UInt8),r.foldl oY (L,s)=(L++(r.foldl oY ([],s)).1,(r.foldl oY ([],s)).2):=by
 induction r with
 |nil=>intro L s;simp
 |cons c r ih=>
  intro L s;simp only[kH,oY];by_cases hc:c=47
  ·rw[if_pos hc,if_pos hc,ih,ih ([]++[s])];simp
  ·rw[if_neg hc,if_neg hc,ih]
theorem Xb (b:List UInt8)(h:∀x∈b,x≠47):∀(L:List (List UInt8)) (s:List UInt8),b.foldl oY (L,s)=(L,s++b):=by
 induction b with
 |nil=>intro L s;simp
 |cons c b ih=>
  intro L s;simp only[kH,oY];rw[if_neg (h c aj),ih (λ x hx=>h x (by simp[hx]))];simp
theorem aiA (p:List UInt8)(h:∀x∈p,x≠47):nQ p=[p]:=by
 unfold nQ sj;rw[Xb p h];rfl
theorem aiB (b r:List UInt8)(h:∀x∈b,x≠47):nQ (b++47::r)=b::nQ r:=by
 unfold nQ sj;rw[rT,Xb b h,kH];simp only[oY,if_pos];rw[aiz];simp
theorem aiC (p:List UInt8):(Lib.indexByte p 47= -1/\(∀x∈p,x≠47))∨∃i:Nat,Lib.indexByte p 47=i/\i<p.length/\(∀x∈p.take i,x≠47)/\p=p.take i++47::p.drop (i+1):=by
 by_cases h:Lib.indexByte p 47= -1
 ·refine .inl ⟨h,λ x hx e=>?_⟩;obtain⟨k,hk⟩:=zJ.1 hx;exact Lib.indexByte_none h k (by rw[hk,e])
 ·have hg:=Lib.indexByte_ge p 47;obtain⟨i,hi⟩:∃i:Nat,Lib.indexByte p 47=i:=⟨(Lib.indexByte p 47).toNat,aa⟩;obtain⟨h1,h2⟩:=Lib.indexByte_some hi;obtain⟨ao,h3⟩:=fX.1 h1;refine .inr ⟨i,hi,ao,λ x hx e=>?_,?_⟩
  ·obtain⟨k,hk⟩:=zJ.1 hx;rw[mL]at hk;split at hk
   ·rename_i Ax;exact h2 k Ax (by rw[hk,e])
   ·cases hk
  ·rw[<-h3,<-qj ao,gI]
def xm (x:List UInt8):Bool:=decide (¬(x=[]∨x=[46]∨x=[46,46]))
def qD (p:List UInt8):Bool:=decide (p≠[]/\p.length<=4096/\(∀x∈p,x≠0)/\∀x∈nQ p,xm x=true)
def sk (s:ByteArray):List ByteArray:=(nQ s.toList).map av
theorem aiD (s:ByteArray)(h:∀x∈s.toList,x≠47):sk s=[s]:=by unfold sk;rw[aiA _ h];simp[kf]
theorem aiE (s:ByteArray)(i:Nat)(ao:i<s.size)(h:∀x∈s.toList.take i,x≠47)(he:s.toList=s.toList.take i++47::s.toList.drop (i+1)):sk s=s.extract 0 i::sk (s.extract (i+1) s.size):=by
 unfold sk;rw[he,aiB _ _ h,List.map_cons,tg,<-rW,kf]
end
section
open Go.RowKit Go.Shelf
attribute [local go_sem] Oper.semAt_some
theorem toList_data (s:ByteArray):s.data.toList=s.toList:=(kY s).symm
def P9 (s:ByteArray)(e:Ending):Prop:=
 ((∀x∈s.toList,x≠47)/\e= .returned (.tuple #[.string s,.string ⟨#[]⟩,.bool false]))∨
 ∃i:Nat,i<s.size/\(∀x∈s.toList.take i,x≠47)/\s.toList=s.toList.take i++47::s.toList.drop (i+1)/\e= .returned (.tuple #[.string (s.extract 0 i),.string (s.extract (i+1) s.size),.bool true])
theorem aiF (s:ByteArray)(w:World)(hs:s.size<=9223372036854775807):
 Calls Tryz.prog 224 #[.string s,.string ⟨#[47]⟩] w λ e w'=>P9 s e/\Below w.heap.size w w':=by
 rcases aiC s.toList with⟨h,hn⟩|⟨i,h,ao,hn,he⟩
 ·rw[<-toList_data]at h;have H:=ae hn;clear hn;go_enter Tryz.func224,Tryz.ntmps224;go_wp2_with (go_at_call 223;refine(Tryz.stringslite_Index_one s 47 _).mono ?_;rintro e w' ⟨rfl,rfl⟩;rw[h]);go_ret3;exact⟨.inl ⟨H.out,rfl⟩,aB _ _⟩
 ·rw[<-toList_data]at h;have H:=ae (af hn he);rw[aD]at ao;clear hn he;have c1:(0:Int)<=↑i:=aa;have c2:(↑i:Int)<=↑s.size:=aa;have c3:(0:Int)<=((i+1:Nat):Int):=aa;have c4:((i+1:Nat):Int)<=↑s.size:=aa;go_enter Tryz.func224,Tryz.ntmps224;go_wp2_with (go_at_call 223;refine(Tryz.stringslite_Index_one s 47 _).mono ?_;rintro e w' ⟨rfl,rfl⟩;rw[h]);have hw:IntKind.i64.wrap ((i:Int)+1)=((i+1:Nat):Int):=by rw[aE];omega
  go_quiet (fail);go_wp2;go_ret3;exact⟨.inr ⟨i,ao,H.out.1,H.out.2,rfl⟩,below_drewN (aB _ _) _⟩
theorem aiG (s:ByteArray)(w:World)(hs:s.size<=9223372036854775807):
 Calls Tryz.prog 157 #[.string s,.string ⟨#[47]⟩] w λ e w'=>P9 s e/\Below w.heap.size w w':=by
 refine Calls.mono (R:=λ e w'=>(∃a b c,e= .returned (.tuple #[.string a,.string b,.bool c])/\P9 s e)/\Below w.heap.size w w') ?_ (λ e w' h=>by obtain⟨⟨a,b,c,_,hc⟩,hb⟩:=h;exact⟨hc,hb⟩);go_enter Tryz.func157,Tryz.ntmps157;go_wp2_with fail;refine(aiF s _ hs).mono ?_;rintro e w1 ⟨hc,hb⟩
 have he:∃a b c,e= .returned (.tuple #[.string a,.string b,.bool c]):=by
  rcases hc with⟨_,h⟩|⟨i,_,_,_,h⟩<;>exact⟨_,_,_,h⟩
 obtain⟨a,b,c,rfl⟩:=he;have Hc:=ae hc;clear hc;go_wp2_with fail;go_ret3;exact⟨⟨a,b,c,rfl,Hc.out⟩,hb⟩
def P' (B:Nat)(w:World):Nat:=match w.cell? ⟨B,0,none⟩with
 |some (.string s)=>s.size+1
 |_=>0
theorem Xc {B:Nat}{w:World}{s:ByteArray}(h:Bk w B 9 #[.string s]):P' B w=s.size+1:=by
 unfold P';rw[show w.cell? ⟨B,0,none⟩=some (.string s)from h.cell 0]
theorem aiH {Bn B:Nat}{I:List ByteArray->World->Prop}(h:oW Bn B I){s:List ByteArray}{W W':World}(hs:I s W)(hb:Below W.heap.size W W'):I s W':=
 h s W W' hs ⟨none,⟨hb.os,hb.tape,hb.output,hb.size,λ k hk _=>hb.block k hk⟩,λ r e=>by cases e⟩
theorem aiI {Bn B:Nat}{I:List ByteArray->World->Prop}(h:oW Bn B I){s:List ByteArray}{W:World}(v:Value)(hs:I s W):I s (W.setCell ⟨Bn,0,none⟩ v):=
 h s W _ hs ⟨some Bn,aY W Bn 0 v,λ r e=>by cases e;exact .inl rfl⟩
theorem aiJ (n:Nat)(p:ByteArray)(hp:p.size<=9223372036854775807)(Bn:Nat):
 Xa Tryz.prog n 156 #[.pointer (some ⟨Bn,0,none⟩)] Bn (some (.cells #[.string p] 9 (0,0))) (sk p):=by
 intro l J Jx W hW hJ at7 hY h0;have yJ:Bk W Bn 9 #[.string p]:=hW;have Xd:oW Bn W.heap.size J:=hJ;refine callsIn_of_wp Tryz.func156 rfl trivial ?_;simp only[Tryz.ntmps156,pv,aU,cL,Nat.reduceAdd,Nat.reduceSub,Array.replicate_succ,Array.replicate_zero,List.push_toArray,List.append_toArray,List.nil_append,gU];have ao:=yJ.lt;gi_wp2;gi_loopw [3] (λ _ wr=>∃(pre:List ByteArray) (r:ByteArray),sk p=pre++sk r/\r.size<=9223372036854775807/\Bk wr Bn 9 #[.string r]/\J pre wr) (λ _ wr=>P' Bn wr)
 case atStart=>exact⟨[],p,rfl,hp,yJ,h0⟩
 case round=>
  obtain⟨pre,r,hx,hr,hB,P_⟩:=hrel;have r0:wr.cell? ⟨Bn,0,none⟩=some (.string r):=hB.cell 0;gi_wp2_with fail;refine⟨trivial,λ h=>(by cases h),(callsIn_wide.2 (aiG r wr hr)).mono ?_⟩;rintro e w1 ⟨hc,hb⟩;have Xe:=aiH Xd P_ hb;have ku:=hB.aL hb;have dH:=hb.size;rcases hc with⟨hn,rfl⟩|⟨i,hi,hn,he,rfl⟩
  ·have qw:=aiD r hn;rw[qw]at hx;clear hn hb P_ hB r0;obtain⟨fn,tmps,assign,body,hy,hR⟩:=hY pre r w1 Xe (by rw[hx];exact List.prefix_refl _);gi_wp2;refine⟨λ h=>(by cases h),hR.mono ?_⟩;rintro e W3 (⟨rfl,Qa,mh⟩|⟨rfl,Qb⟩)
   ·gi_wp2;refine eX (eQ rfl _ _ _) rfl ?_;exact⟨⟨_,rfl⟩,.inl (by rw[hx];exact Qa)⟩
   ·gi_wp2;refine eX (eQ rfl _ _ _) rfl ?_;exact⟨⟨_,rfl⟩,.inr ⟨_,Qb⟩⟩
  ·have qw:=aiE r i hi hn he;rw[qw]at hx;have hz:(r.extract (i+1) r.size).size<=9223372036854775807:=by rw[<-aD,tg,cw,aD];omega
   have hm:(r.extract (i+1) r.size).size+1<r.size+1:=by rw[<-aD,tg,cw,aD];omega
   clear hn he hb P_ qw;obtain⟨fn,tmps,assign,body,hy,hR⟩:=hY pre (r.extract 0 i) w1 Xe (by rw[hx];exact⟨sk (r.extract (i+1) r.size),aj⟩);generalize r.extract 0 i=x at*;generalize r.extract (i+1) r.size=r2 at*;gi_wp2;refine⟨λ h=>(by cases h),hR.mono ?_⟩;rintro e W3 (⟨rfl,Qa,mh⟩|⟨rfl,Qb⟩)
   ·have bF:Bk W3 Bn 9 #[.string r]:=mh.trans ku;have r3:W3.cell? ⟨Bn,0,none⟩=some (.string r):=bF.cell 0;have f3:=bF.frozen 0;have aiK:=aiI Xd (.string r2) Qa;have eZ:Bk (W3.setCell ⟨Bn,0,none⟩ (.string r2)) Bn 9 #[.string r2]:=bF.aP 0 _;have aua:(W3.setCell ⟨Bn,0,none⟩ (.string r2)).heap.size=W3.heap.size:=aj;gi_wp2;go_roundw
    case rel=>exact⟨pre++[x],r2,by rw[hx];simp,hz,eZ,aiK⟩
    case measure=>rw[Xc eZ,Xc hB];exact hm
   ·gi_wp2;refine eX (eQ rfl _ _ _) rfl ?_;exact⟨⟨_,rfl⟩,.inr ⟨_,Qb⟩⟩
attribute [local go_sem] Oper.semAt_some
theorem aiL (p:ByteArray)(w:World):
 Calls Tryz.prog 101 #[.string p] w λ e w'=>e= .returned (.func (.func 156) #[] #[.pointer (some ⟨w.heap.size,0,none⟩)])/\w'=w.alloc (.cells #[.string p] 9):=by
 go_enter Tryz.func101,Tryz.ntmps101;go_wp2;go_ret;exact⟨rfl,rfl⟩
theorem Xf (p:List UInt8):decide (0<=Lib.indexByte p 0)=decide (∃x∈p,x=0):=by
 rw[CD];have hg:=Lib.indexByte_ge p 0;constructor
 ·intro h;obtain⟨i,hi⟩:∃i:Nat,Lib.indexByte p 0=i:=⟨(Lib.indexByte p 0).toNat,aa⟩;exact⟨0,zJ.2 ⟨i,(Lib.indexByte_some hi).1⟩,rfl⟩
 ·rintro⟨x,hx,rfl⟩;apply Classical.byContradiction;intro h;obtain⟨k,hk⟩:=zJ.1 hx;exact Lib.indexByte_none aa k hk
theorem Xg {Bn B:Nat}(p:List ByteArray->Prop){I:List ByteArray->World->Prop}(h:oW Bn B I):oW Bn B (λ s W=>p s/\I s W):=λ s W W' hs ht=>⟨hs.1,h s W W' hs.2 ht⟩
theorem Xh {Bn B g yG:Nat}{t:TypeId}{cs:Array Value}{Hg:World}(hg:g≠Bn)(hn:yG<=Hg.heap.size)(kO:yG<=Bn)(hB:yG<=B):oW Bn B (λ _ W=>Bk W g t cs/\Below yG Hg W):=by
 refine aio (I:=λ _ W=>Bk W g t cs) ?_ hn kO hB;rintro s W W' hk ⟨row,hr,h⟩;refine(hr.block g hk.lt ?_).trans hk;intro e;rcases h g e.symm with h|⟨_,o,ho,hc⟩
 ·exact hg h
 ·rw[show W.heap[g]? =_ from hk]at ho;cases ho;cases hc
def fI (p:ByteArray):Int:=if qD p.toList then 0 else 5
theorem LU {p:ByteArray}(h:¬(p.toList≠[]/\p.toList.length<=4096/\(∀x∈p.toList,x≠0)/\∀x∈nQ p.toList,xm x=true)):fI p=5:=by
 unfold fI qD;rw[ct h];rfl
theorem aiM (p:ByteArray)(w:World)(hs:p.size<=9223372036854775807):
 Calls Tryz.prog 53 #[.string p] w λ e w'=>e= .returned (.int .i64 (fI p))/\Below w.heap.size w w':=by
 have gZ:=(aB w.heap.size w).alloc (ai _) (.cells #[.int .i64 0] 30);have qE:Bk (w.alloc (.cells #[.int .i64 0] 30)) w.heap.size 30 #[.int .i64 0]:=Bk.new _ _ _;obtain⟨k,hk⟩:∃k,fI p=k:=⟨_,rfl⟩;by_cases h1:p.size=0
 ·have H:=ae (show fI p=5 from LU (λ h=>h.1 (dP (by rw[aD];exact h1))));have hp:p=⟨#[]⟩:=ma (by rw[toList_nil];exact dP (by rw[aD];exact h1));subst hp;clear h1;go_enter Tryz.func53,Tryz.ntmps53;go_wp2_with fail;exact eX (v:=.int .i64 5) (by simp[results,Tryz.results53,go_sem]) rfl ⟨by rw[H.out],(aB w.heap.size w).alloc (ai _) _⟩
 ·have aS:(p.toList==([]:List UInt8))=false:=by
   rw[jE];intro e;rw[<-aD,e]at h1;exact h1 rfl
  by_cases h2:4096<(p.size:Int)
  ·have H:=ae (show fI p=5 from LU (λ h=>by have:=h.2.1;rw[aD]at this;omega));clear h1;go_enter Tryz.func53,Tryz.ntmps53;go_wp2_with fail;exact eX (v:=.int .i64 5) (by simp[results,Tryz.results53,go_sem]) rfl ⟨by rw[H.out],(aB w.heap.size w).alloc (ai _) _⟩
  ·by_cases h3:∃x∈p.toList,x=0
   ·have H:=ae (show fI p=5 from LU (λ h=>by obtain⟨x,hx,iF⟩:=h3;exact h.2.2.1 x hx iF));have hc:=fF h3;clear h1;go_enter Tryz.func53,Tryz.ntmps53;go_wp2_with (go_at_call 100;refine(Tryz.strings_Contains_one p 0 _).mono ?_;rintro e w' ⟨rfl,rfl⟩;rw[toList_data,Xf,hc]);exact eX (v:=.int .i64 5) (by simp[results,Tryz.results53,go_sem]) rfl ⟨by rw[H.out],(aB w.heap.size w).alloc (ai _) _⟩
   ·have hc:=ct h3;refine(callsIn_wide (n:=2)).1 ?_;refine callsIn_of_wp_marks Tryz.func53 rfl trivial ?_;simp only[Tryz.ntmps53,pv,aU,cL,Nat.reduceAdd,Nat.reduceSub,Array.replicate_succ,Array.replicate_zero,List.push_toArray,List.append_toArray,List.nil_append,gU];gi_wp2_with fail;refine⟨trivial,(callsIn_wide.2 (Tryz.strings_Contains_one p 0 _)).mono ?_⟩;rintro e w1 ⟨rfl,rfl⟩;rw[toList_data,Xf,hc];gi_wp2_with fail;refine⟨trivial,(callsIn_wide.2 (aiL p _)).mono ?_⟩;rintro e w1 ⟨rfl,rfl⟩;simp only[lY];gi_wp2_with fail;have iD:Bk ((w.alloc (.cells #[.int .i64 0] 30)).alloc (.cells #[.string p] 9)) w.heap.size 30 #[.int .i64 0]:=qE.alloc _
    have cY:Bk ((w.alloc (.cells #[.int .i64 0] 30)).alloc (.cells #[.string p] 9)) (w.heap.size+1) 9 #[.string p]:=by
     have h:=Bk.new (w.alloc (.cells #[.int .i64 0] 30)) 9 #[.string p];rw[lY]at h;exact h
    have au:=gZ.alloc aj (.cells #[.string p] 9);have dN:((w.alloc (.cells #[.int .i64 0] 30)).alloc (.cells #[.string p] 9)).heap.size=w.heap.size+2:=aj;generalize(w.alloc (.cells #[.int .i64 0] 30)).alloc (.cells #[.string p] 9)=w1 at*;have H1:=ae h1;have H3:=ae h3;clear h1 h3 hc gZ qE hk k
    refine aip (n:=2) rfl (enters_of Tryz.func156 ah rfl) rfl (w.heap.size+1) aa (sk p) (by rw[show w1.heap[w.heap.size+1]? =_ from cY];exact aiJ _ p hs _)
     (λ pre W=>(∀x∈pre,xm x.toList=true)/\(Bk W w.heap.size 30 #[.int .i64 0]/\Below w.heap.size w W))
     (λ c _ W=>(c= .ret/\fI p=5)/\(Bk W w.heap.size 30 #[.int .i64 5]/\Below w.heap.size w W))
     (Xg _ (Xh aa (ai _) aa aa))
     (λ c=>Xg _ (Xh aa (ai _) aa aa))
     ⟨aj,iD,au⟩
     (λ x=>{tmps:=#[.string p,undef,.pointer (some ⟨w.heap.size,0,none⟩),.string x,.string p,.bool false,.bool false,.string p,.int .i64 ↑p.size,.bool false,.bool false,.bool false,.string p,.bool false,.bool false,.string p,.func (.func 156) #[] #[.pointer (some ⟨w.heap.size+1,0,none⟩)],.string x,undef,undef,undef,undef,undef,undef,undef,undef,undef,undef],defers:=[]}) ?assign ?body ?done ?stop
    case assign=>
     intro l x W K hK;gi_wp2;exact hK
    case body=>
     rintro l pre x W ⟨yI,hR,hb⟩ hx aG;have r0:W.cell? ⟨w.heap.size,0,none⟩=some (.int .i64 0):=hR.cell 0;have r1:=hR.frozen 0
     have Qc:x.toList∈nQ p.toList:=by
      have:x∈sk p:=hx.subset aj;unfold sk at this;obtain⟨y,hy,rfl⟩:=kJ.1 this;rw[cn];exact hy
     by_cases ho:xm x.toList=true
     ·have h':¬(x.toList=[]∨x.toList=[46]∨x.toList=[46,46]):=fZ ho;have t1:(x.toList==([]:List UInt8))=false:=by rw[jE];intro e;exact h' (.inl e)
      have t2:(x.toList==([46]:List UInt8))=false:=by rw[jE];intro e;exact h' (.inr (.inl e))
      have t3:(x.toList==([46,46]:List UInt8))=false:=by rw[jE];intro e;exact h' (.inr (.inr e))
      clear h' Qc;gi_wp2;exact⟨(KeepsOthers.refl _).from _,rfl,λ y hy=>(fE.1 hy).elim (yI y) (λ e=>by simp at e;subst e;exact ho),hR,hb⟩
     ·have H:=ae (show fI p=5 from LU (λ h=>ho (h.2.2.2 _ Qc)))
      have qF:W_ (w.heap.size+1) w1.heap.size (λ pre W=>(∀x∈pre,xm x.toList=true)/\(Bk W w.heap.size 30 #[.int .i64 0]/\Below w.heap.size w W))
       (λ c _ W=>(c= .ret/\fI p=5)/\(Bk W w.heap.size 30 #[.int .i64 5]/\Below w.heap.size w W)) (pre++[x]) W .ret {tmps:=#[],defers:=[]} (W.setCell ⟨w.heap.size,0,none⟩ (.int .i64 5)):=
       ⟨(KeepsOthers.setCell _ _ _).from _,⟨rfl,H.out⟩,hR.aP 0 _,hb.setCell (p:=⟨w.heap.size,0,none⟩) (ai _) _⟩
      have h':x.toList=[]∨x.toList=[46]∨x.toList=[46,46]:=by
       apply Classical.byContradiction;intro h;exact ho (fF h)
      clear Qc;by_cases e1:x.toList=[]
      ·have t1:(x.toList==([]:List UInt8))=true:=by rw[beq_iff_eq];exact e1
       clear e1 h' ho;gi_wp2;exact qF
      ·have t1:(x.toList==([]:List UInt8))=false:=by rw[jE];exact e1
       by_cases e2:x.toList=[46]
       ·have t2:(x.toList==([46]:List UInt8))=true:=by rw[beq_iff_eq];exact e2
        clear e1 e2 h' ho;gi_wp2;exact qF
       ·have t2:(x.toList==([46]:List UInt8))=false:=by rw[jE];exact e2
        have t3:(x.toList==([46,46]:List UInt8))=true:=by rw[beq_iff_eq];exact(h'.resolve_left e1).resolve_left e2
        clear e1 e2 h' ho;gi_wp2;exact qF
    case done=>
     rintro D W hD ⟨fP,hR,hb⟩ hK
     have H:=ae (show fI p=0 by
      unfold fI qD;rw[fF];rfl;refine⟨λ e=>H1.out (by rw[<-aD,e];rfl),by rw[aD];omega,λ x hx e=>H3.out ⟨x,hx,e⟩,λ x hx=>?_⟩;have:=fP (av x) (by unfold sk;exact kJ.2 ⟨x,hx,rfl⟩);rwa [cn]at this)
     clear fP;have r0:W.cell? ⟨w.heap.size,0,none⟩=some (.int .i64 0):=hR.cell 0;have r1:=hR.frozen 0;have hK':=(KeepsOthers.setCell W ⟨w.heap.size,0,none⟩ (.int .i64 0)).same D _ hK rfl;have Ay:Bk (W.setCell ⟨w.heap.size,0,none⟩ (.int .i64 0)) w.heap.size 30 #[.int .i64 0]:=hR.aP 0 _;have aC:=hb.setCell (p:=⟨w.heap.size,0,none⟩) (ai _) (.int .i64 0);gi_wp2;refine⟨aj,.inl ⟨_,_,rfl,run_takeDeferred hK',?_⟩⟩;have qG:=cell_kept (Ay.cell 0) (grownBy_putObj' _ D (.deferred none)) (λ r e=>by cases e;exact⟨_,hK',rfl⟩);refine⟨.int .i64 0,?_,by rw[H.out],aC.trans (belowK_b (w:=w) (ai _) _ D _ _ aa hK' rfl rfl)⟩;simp[results,Tryz.f53,go_sem]at qG⊢;simp[qG]
    case stop=>
     rintro D c pre W hD ⟨⟨rfl,bq⟩,hR,hb⟩ hK;have H:=ae bq;clear bq;gi_wp2;refine⟨aj,.inl ⟨_,_,rfl,run_takeDeferred hK,?_⟩⟩;have qG:=cell_kept (hR.cell 0) (grownBy_putObj' _ D (.deferred none)) (λ r e=>by cases e;exact⟨_,hK,rfl⟩);refine⟨.int .i64 5,?_,by rw[H.out],hb.trans (belowK_b (w:=w) (ai _) _ D _ _ aa hK rfl rfl)⟩;simp[results,Tryz.f53,go_sem]at qG⊢;simp[qG]
end
section
open Go.RowKit
theorem Tryz.aiN:(Tryz.prog.info? 9).map (λ i=>(i.zero,i.size,i.bytes))=some (some (.string ⟨#[]⟩),1,16):=ah
theorem Xi:El Tryz.prog 27 9 1 16:=El.kg (z:=.string ⟨#[]⟩) Tryz.underlying27 Tryz.aiN aa rfl
def tv (L:List (List UInt8)):List Value:=L.map λ x=>Value.string (av x)
theorem Xj (L:List (List UInt8))(x:List UInt8):tv L++[Value.string (av x)]=tv (L++[x]):=by simp[tv]
theorem aiO (L:List (List UInt8)):(tv L).length=L.length:=by simp[tv]
theorem aiP (p:List UInt8):(sj p).1.length<=p.length/\(sj p).2.length<=p.length:=by
 suffices h:∀(p:List UInt8) (a:List (List UInt8)×List UInt8),(p.foldl oY a).1.length<=a.1.length+p.length/\(p.foldl oY a).2.length<=a.2.length+p.length from by have:=h p ([],[]);simp at this;exact this
 intro p;induction p with
 |nil=>intro a;simp
 |cons c p ih=>
  intro a;have:=ih (oY a c);unfold oY at this⊢;simp only[kH,aU];split at this
  ·rename_i hc;simp only[hc,if_true]at this⊢;simp at this⊢;omega
  ·rename_i hc;simp only[hc,if_false]at this⊢;simp at this⊢;omega
theorem aiQ (p:ByteArray)(w:World)(hs:p.size<=100000000):
 Calls Tryz.prog 64 #[.string p] w (rX w (nQ p.toList).length (tv (nQ p.toList))):=by
 go_enter Tryz.func64,Tryz.ntmps64;go_wp2_with fail;go_loopw [3,4,5] (λ v t i wr=>∃(k:Nat) (L:List (List UInt8)) (s:List UInt8),k<=p.size/\i= .int .i64 k/\Hid (sj (p.toList.take k)=(L,s))/\t= .string (av s)/\wr.ownsRow w.heap.size 9 1 v L.length (tv L)/\Below w.heap.size w wr) (λ _ _ i _=>p.size-(intOf i).toNat)
 case atStart=>exact⟨0,[],[],aa,rfl,ae rfl,rfl,jD _ _ _ _,aB _ _⟩
 case round=>
  obtain⟨k,L,s,hk,rfl,hf,rfl,aw,hb⟩:=hrel;have hle:=aiP (p.toList.take k);rw[hf.out,ba,aD]at hle;have lL:L.length<=100000000:=by have:=hle.1;simp at this;omega
  have cI:s.length<=100000000:=by have:=hle.2;simp at this;omega
  have aG:=hb.size;clear hle;by_cases ao:k<p.size
  ·have pJ:sj (p.toList.take (k+1))=oY (L,s) p[k]:=by
    rw[zI (by rw[aD];exact ao),aiy,hf.out,<-getElem_toList]
   by_cases hc:p[k]=47
   ·have H:=ae (show sj (p.toList.take (k+1))=(L++[s],[])by rw[pJ,oY,if_pos hc]);have yu:p[k].toNat=47:=by rw[hc];rfl
    clear pJ hc;go_wp2_with (at_builtin;go_must (refine lg wr rfl (.tmp 16) (.tmp 18) 27 rfl w.heap.size 9 1 16 Xi _ _ _ aw rfl _ rfl rfl (by intro u hu;simp at hu;subst hu;rfl) (by unfold maxLen;omega) aa aa ?_);intro v2 w2 dk aC)
    have fJ:w2.ownsRow w.heap.size 9 1 v2 (L++[s]).length (tv (L++[s])):=by
     rw[<-Xj,ag];exact dk
    go_roundw
    case rel=>exact⟨k+1,L++[s],[],aa,by go_num,H,rfl,fJ,hb.trans aC⟩
    case measure=>simp[intOf];omega
   ·have H:=ae (show sj (p.toList.take (k+1))=(L,s++[p[k]])by rw[pJ,oY,if_neg hc])
    have yu:¬p[k].toNat=47:=by
     intro e;exact hc (yg.1 (by rw[e];rfl))
    have hx:av s++p.extract k (k+1)=av (s++[p[k]]):=ma (by
     rw[CE,cn,cn,tf,qj (by rw[aD];exact ao),<-getElem_toList];simp;exact ao)
    have ff:¬(9223372036854775807<(av s).size+(p.extract k (k+1)).size):=by
     rw[cV,<-aD,tf,ba];omega
    clear pJ hc;go_wp2_with fail;go_roundw
    case rel=>exact⟨k+1,L,s++[p[k]],aa,by go_num,H,rfl,aw,hb⟩
    case measure=>simp[intOf];omega
  ·obtain rfl:k=p.size:=aa
   have H:nQ p.toList=L++[s]:=by
    have h:=hf.out;rw[bQ (by rw[aD];omega)]at h;unfold nQ;rw[h]
   have H':=ae H;clear H hf;go_wp2_with (at_builtin;go_must (refine lg wr rfl (.tmp 27) (.tmp 29) 27 rfl w.heap.size 9 1 16 Xi _ _ _ aw rfl _ rfl rfl (by intro u hu;simp at hu;subst hu;rfl) (by unfold maxLen;omega) aa aa ?_);intro v2 w2 dk aC);go_ret;rw[H'.out]
   have fJ:w2.ownsRow w.heap.size 9 1 v2 (L++[s]).length (tv (L++[s])):=by
    rw[<-Xj,ag];exact dk
   exact rX.own fJ (hb.trans aC) (ai _)
theorem aiR {p:ByteArray}(h1:1<=p.size)(h2:p.size<=4096)(h3:∀x∈p.toList,x≠0)(h4:∀x∈nQ p.toList,xm x=true):qD p.toList=true:=
 fF ⟨λ e=>by rw[<-aD,e]at h1;exact absurd h1 aA,by rw[aD];omega,h3,h4⟩
theorem LV {p:ByteArray}(h:¬(p.toList≠[]/\p.toList.length<=4096/\(∀x∈p.toList,x≠0)/\∀x∈nQ p.toList,xm x=true)):qD p.toList=false:=ct h
theorem aiS (p:ByteArray)(w:World)(hs:p.size<=100000000):
 Calls Tryz.prog 26 #[.string p] w λ e w'=>e= .returned (.bool (qD p.toList))/\Below w.heap.size w w':=by
 by_cases h1:(p.size:Int)<1
 ·have H:=ae (show qD p.toList=false from LV (λ h=>h.1 (dP (by rw[aD];omega))));go_enter Tryz.func26,Tryz.ntmps26;go_wp2;go_ret;exact⟨by rw[H.out];rfl,aB _ _⟩
 ·by_cases h2:4096<(p.size:Int)
  ·have H:=ae (show qD p.toList=false from LV (λ h=>by have:=h.2.1;rw[aD]at this;omega));go_enter Tryz.func26,Tryz.ntmps26;go_wp2;go_ret;exact⟨by rw[H.out];rfl,aB _ _⟩
  ·go_enter Tryz.func26,Tryz.ntmps26;go_wp2_with fail;go_loop [3] (λ i=>∃k:Nat,k<=p.size/\i= .int .i64 k/\Hid (∀x∈p.toList.take k,x≠0)) (λ i=>p.size-(intOf i).toNat)
   case atStart=>exact⟨0,aa,rfl,ae aj⟩
   case round=>
    obtain⟨k,hk,rfl,hf⟩:=hrel;by_cases ao:k<p.size
    ·by_cases hc:p[k]=0
     ·have H:=ae (show qD p.toList=false from LV (λ h=>h.2.2.1 p[k] (by rw[getElem_toList];exact mN _) hc));have yu:p[k].toNat=0:=by rw[hc];rfl
      clear hc;go_wp2_with fail;go_ret;exact⟨by rw[H.out];rfl,aB _ _⟩
     ·have H:=ae (show∀x∈p.toList.take (k+1),x≠0 by
       rw[zI (by rw[aD];exact ao),<-getElem_toList];intro x hx;rcases fE.1 hx with h|h
       ·exact hf.out x h
       ·simp at h;subst h;exact hc)
      have yu:¬p[k].toNat=0:=by
       intro e;exact hc (yg.1 (by rw[e];rfl))
      clear hc;go_wp2_with fail;go_round
      case rel=>exact⟨k+1,aa,by go_num,H⟩
      case measure=>simp[intOf];omega
    ·obtain rfl:k=p.size:=aa
     have H3:=ae (show∀x∈p.toList,x≠0 by
      have:=hf.out;rwa [bQ (by rw[aD];omega)]at this)
     clear hf;go_wp2_with fail;refine(aiQ p _ hs).mono ?_;rintro e w1 ⟨A,c,rfl,cR,bT,bY,eh,hb⟩;have hlen:(nQ p.toList).length<=9223372036854775807:=by unfold maxLen at bT;omega
     have HL:=ae hlen;obtain⟨Lp,E6⟩:∃Lp,nQ p.toList=Lp:=⟨_,rfl⟩;have HP:=ae E6;rw[E6]at bY cR hlen HL⊢;clear E6;go_wp2_with fail;go_loop [5] (λ i=>∃k:Nat,k<=Lp.length/\i= .int .i64 k/\Hid (∀x∈Lp.take k,xm x=true)) (λ i=>Lp.length-(intOf i).toNat)
     case atStart=>exact⟨0,aa,rfl,ae aj⟩
     case round=>
      obtain⟨k,Xk,rfl,hf⟩:=hrel;by_cases hl:k<Lp.length
      ·obtain⟨b,o,rfl,eT⟩:=bY.at_ (by rw[aiO];exact hl);obtain⟨x,hx⟩:∃x,av Lp[k]=x:=⟨_,rfl⟩;have oZ:Lp[k]=x.toList:=by rw[<-hx,cn]
       have aub:w1.cell? ⟨b,o+k,none⟩=some (.string x):=by
        rw[eT];simp[tv,hx]
       by_cases ho:xm x.toList=true
       ·have H:=ae (show∀y∈Lp.take (k+1),xm y=true by
         rw[zI hl];intro y hy;rcases fE.1 hy with h|h
         ·exact hf.out y h
         ·simp at h;subst h;rw[oZ];exact ho)
        have h':¬(x.toList=[]∨x.toList=[46]∨x.toList=[46,46]):=fZ ho;have t1:(x.toList==([]:List UInt8))=false:=by rw[jE];intro e;exact h' (.inl e)
        have t2:(x.toList==([46]:List UInt8))=false:=by rw[jE];intro e;exact h' (.inr (.inl e))
        have t3:(x.toList==([46,46]:List UInt8))=false:=by rw[jE];intro e;exact h' (.inr (.inr e))
        clear h' ho hx oZ eT;go_wp2_with fail;go_round
        case rel=>exact⟨k+1,aa,by go_num,H⟩
        case measure=>simp[intOf];omega
       ·have H:=ae (show qD p.toList=false from LV (λ h=>ho (by rw[<-oZ];exact h.2.2.2 _ (by rw[HP.out];exact mN _))))
        have h':x.toList=[]∨x.toList=[46]∨x.toList=[46,46]:=by
         apply Classical.byContradiction;intro h;exact ho (fF h)
        clear hx oZ eT ho;by_cases e1:x.toList=[]
        ·have t1:(x.toList==([]:List UInt8))=true:=by rw[beq_iff_eq];exact e1
         clear e1 h';go_wp2_with fail;go_ret;exact⟨by rw[H.out];rfl,hb⟩
        ·have t1:(x.toList==([]:List UInt8))=false:=by rw[jE];exact e1
         by_cases e2:x.toList=[46]
         ·have t2:(x.toList==([46]:List UInt8))=true:=by rw[beq_iff_eq];exact e2
          clear e1 e2 h';go_wp2_with fail;go_ret;exact⟨by rw[H.out];rfl,hb⟩
         ·have t2:(x.toList==([46]:List UInt8))=false:=by rw[jE];exact e2
          have t3:(x.toList==([46,46]:List UInt8))=true:=by rw[beq_iff_eq];exact(h'.resolve_left e1).resolve_left e2
          clear e1 e2 h';go_wp2_with fail;go_ret;exact⟨by rw[H.out];rfl,hb⟩
      ·obtain rfl:k=Lp.length:=aa
       have H:=ae (show qD p.toList=true from aiR aa aa H3.out (by
        have:=hf.out
        rw[bQ (ai _)]at this
        rw[HP.out];exact this))
       go_wp2_with fail;go_ret;exact⟨by rw[H.out];rfl,hb⟩
