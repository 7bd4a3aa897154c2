import Derived.Test.YtajokjbmpjjoiaaGreatDoorP01
import Derived.RangeFuncCalls
import Derived.RangeFuncLeaves
import Derived.RangeFuncNested
set_option maxRecDepth 20000
set_option maxHeartbeats 0
namespace Go.Proofs.YtajokjbmpjjoiaaGreatDoor
section
open Go.RowKit
def LS (Bn B:Nat)(W W':World):Prop:=∃row,W.grownBy W' row/\∀r,row=some r->r=Bn∨(B<=r/\∃o:Obj,W.heap[r]? =some o/\o.isCells=false)
def oW (Bn B:Nat)(I:List ByteArray->World->Prop):Prop:=∀s W W',I s W->LS Bn B W W'->I s W'
theorem oW.putObj {Bn B:Nat}{I:List ByteArray->World->Prop}(h:oW Bn B I){s:List ByteArray}{W:World}{l:Nat}{o:Obj}(o':Obj)(hs:I s W)(hB:B<=l)(hl:W.heap[l]? =some o)(ho:o.isCells=false):I s (W.putObj l o'):=
 h s W _ hs ⟨some l,grownBy_putObj' W l o',λ r e=>by cases e;exact .inr ⟨hB,o,hl,ho⟩⟩
theorem oW.alloc {Bn B:Nat}{I:List ByteArray->World->Prop}(h:oW Bn B I){s:List ByteArray}{W:World}(o:Obj)(hs:I s W):I s (W.alloc o):=
 h s W _ hs ⟨none,World.grownBy_alloc W o none,λ r e=>by cases e⟩
theorem aio {yG Bn B:Nat}{Hg:World}{I:List ByteArray->World->Prop}(hI:oW Bn B I)(hn:yG<=Hg.heap.size)(kO:yG<=Bn)(hB:yG<=B):oW Bn B (λ s W=>I s W/\Below yG Hg W):=by
 rintro s W W' ⟨hp,hb⟩ ht;refine⟨hI _ _ _ hp ht,?_⟩;obtain⟨row,hg,hr⟩:=ht;refine hb.grown hg (by have:=hb.size;omega) (λ k e=>?_);rcases hr k e with rfl|⟨h,_⟩<;>omega
def W_ (Bn B:Nat)(I:List ByteArray->World->Prop)(Ix:Code->List ByteArray->World->Prop)(s:List ByteArray)(W:World):Exit->Act->World->Prop
 | .normal,_,W'=>KeepsFrom B W W'/\W'.heap[Bn]? =W.heap[Bn]? /\I s W'
 | .ret,_,W'=>KeepsFrom B W W'/\Ix .ret s W'
 | .exit id,_,W'=>KeepsFrom B W W'/\Ix (.exit id) s W'
 | .goto t,_,W'=>KeepsFrom B W W'/\Ix (.goto t) s W'
 | .panic _,_,_=>False
 | .outgrown,_,_=>False
def Xa (P:Program)(n gf:Nat)(lb:Array Value)(Bn:Nat)(o:Option Obj)(xs:List ByteArray):Prop:=
 ∀(l:Nat) (J Jx:List ByteArray->World->Prop) (W:World),W.heap[Bn]? =o->oW Bn W.heap.size J->oW Bn W.heap.size Jx->
  (∀pre x W1,J pre W1->(pre++[x])<+:xs->YieldAt Fence.wide (n-1) P l #[.string x] W1 λ e W'=>
   (e= .returned (.bool true)/\J (pre++[x]) W'/\W'.heap[Bn]? =W1.heap[Bn]?)∨(e= .returned (.bool false)/\Jx (pre++[x]) W'))->
  J [] W->
  CallsIn Fence.wide n P gf (#[.func (.yield l) #[] #[]]++lb) W λ e W'=>(∃v,e= .returned v)/\(J xs W'∨∃pre,Jx pre W')
theorem aip {P:Program}{n:Nat}{g:Operand}{ps:Array Tmp}{assign body:Code}{Q:Exit->Act->World->Prop}{a:Act}{w:World}{gf:Nat}{lb:Array Value}
 (hg:a.eval g= .func (.func gf) #[] lb)(eg:∀args w,(callFunc gf args).run P w= .ok (.enter gf args) w)(oX:ps.size=1)(Bn:Nat)(kO:Bn<w.heap.size)(xs:List ByteArray)
 (aiq:Xa P (n-1) gf lb Bn w.heap[Bn]? xs)
 (I:List ByteArray->World->Prop)(Ix:Code->List ByteArray->World->Prop)(hI:oW Bn w.heap.size I)(Hj:∀c,oW Bn w.heap.size (Ix c))(h0:I [] w)(Aw:ByteArray->Act)
 (air:∀(l:Nat) (x:ByteArray) (W:World) (K:Act->World->Prop),K (Aw x) W->
  assign.wpIn (Fence.wide.inRound l) (n-1-1) P (Exit.then K (λ _ _ _=>False)) {tmps:=(ps.zip #[.string x]).foldl (λ t (p,v)=>t.setIfInBounds p v) a.tmps,defers:=[]} W)
 (ais:∀(l:Nat) (pre:List ByteArray) (x:ByteArray) (W:World),I pre W->(pre++[x])<+:xs->w.heap.size<=W.heap.size->body.wpIn (Fence.wide.inRound l) (n-1-1) P (W_ Bn w.heap.size I Ix (pre++[x]) W) (Aw x) W)
 (ait:∀(D:Nat) (W:World),w.heap.size<=D->I xs W->W.heap[D]? =some (.deferred (some []))->Q .normal {a with defers:={target:=.collected D,args:=#[]}::a.defers} W)
 (aiu:∀(D:Nat) (c:Code) (pre:List ByteArray) (W:World),w.heap.size<=D->Ix c pre W->W.heap[D]? =some (.deferred (some []))->c.wpIn Fence.wide n P Q {a with defers:={target:=.collected D,args:=#[]}::a.defers} W):
 (Code.rangeFunc g ps assign body).wpIn Fence.wide n P Q a w:=by
 refine wpIn_rangeFunc ?_;intro fn yH;obtain⟨rec,xk⟩:∃rec:LoopState->Option Code->Loop,rec=λ st pe=>{state:=st,pending:=pe,fn,tmps:=a.tmps,params:=ps,assign,body,defers:=w.heap.size}:=⟨_,rfl⟩;obtain⟨W1,E5⟩:∃W1,(w.alloc (.deferred (some []))).alloc (.loop (rec .ready none))=W1:=⟨_,rfl⟩
 have qB:W1.heap[w.heap.size+1]? =some (.loop (rec .ready none)):=by
  rw[<-E5];have:=World.alloc_heap_new (w.alloc (.deferred (some []))) (.loop (rec .ready none));rwa [lY]at this
 have aiv:W1.heap[w.heap.size]? =some (.deferred (some [])):=by
  rw[<-E5];exact(wF _ _ _ aj).trans (World.alloc_heap_new w _)
 have ku:W1.heap[Bn]? =w.heap[Bn]? :=by
  rw[<-E5];exact(wF _ _ _ (by simp;omega)).trans (wF _ _ _ kO)
 have aiw:I [] W1:=by rw[<-E5];exact hI.alloc _ (hI.alloc _ h0)
 have kv:W1.heap.size=w.heap.size+2:=by rw[<-E5];simp
 refine⟨w.heap.size+1,[{target:=.collected w.heap.size,args:=#[]}],W1,{target:=.fn (.func gf) lb,args:=#[.func (.yield (w.heap.size+1)) #[] #[]]},W1,gf,
  #[.func (.yield (w.heap.size+1)) #[] #[]]++lb,W1,?_,?_,λ _ _=>trivial,?_,λ h=>(by cases h),?_⟩
 ·rw[<-E5,xk];exact run_enterLoop_outer _ _ _ _ _
 ·simp only[resolve,hg];simp[go_sem]
 ·simp[invoke,go_sem,eg]
 ·have keep:∀{A B:World} {k:Nat} {o:Obj},LS Bn W1.heap.size A B->A.heap[k]? =some o->w.heap.size<=k->k<w.heap.size+2->B.heap[k]? =some o:=by
   rintro A B k o ⟨row,P8,hr⟩ hk h1 h2;refine(P8.block k (kZ.1 hk).1 ?_).trans hk;intro e;rcases hr k e.symm with h|⟨h,_⟩<;>omega
  have low:∀{A B:World},LS Bn W1.heap.size A B->LS Bn w.heap.size A B:=by
   rintro A B ⟨row,P8,hr⟩;exact⟨row,P8,λ r e=>(hr r e).imp id (λ h=>⟨aa,h.2⟩)⟩
  refine(aiq (w.heap.size+1)
   (λ pre W=>I pre W/\W.heap[w.heap.size+1]? =some (.loop (rec .ready none))/\W.heap[w.heap.size]? =some (.deferred (some [])))
   (λ pre W=>∃c,Ix c pre W/\W.heap[w.heap.size+1]? =some (.loop (rec .done (some c)))/\W.heap[w.heap.size]? =some (.deferred (some [])))
   W1 ku
   (λ s A B hs ht=>⟨hI s A B hs.1 (low ht),keep ht hs.2.1 aa aa,keep ht hs.2.2 aa aa⟩)
   (λ s A B hs ht=>by
    obtain⟨c,hc,hl,hk⟩:=hs;exact⟨c,Hj c s A B hc (low ht),keep ht hl aa aa,keep ht hk aa aa⟩)
   ?_ ⟨aiw,qB,aiv⟩).mono ?_
  ·rintro pre x W ⟨hi,hl,hk⟩ yI;have ao:w.heap.size+1<W.heap.size:=(kZ.1 hl).1;have hy:=run_yield (P:=P) (args:=#[.string x]) hl (by rw[xk];exact oX.symm);rw[xk]at hy;refine⟨fn,_,assign,body,hy,roundIn_of_wpIn yH (air _ x W _ ⟨_,run_beginRound hl (by rw[xk]),?_⟩)⟩;have cI:(W.putObj (w.heap.size+1) (.loop {rec .ready none with state:=.busy})).heap[w.heap.size+1]? =some (.loop {rec .ready none with state:=.busy}):=World.putObj_heap_same ao;have bI:(W.putObj (w.heap.size+1) (.loop {rec .ready none with state:=.busy})).heap[w.heap.size]? =some (.deferred (some [])):=(World.putObj_heap_other aa).trans hk;refine wpIn_mono (ais _ pre x _ (hI.putObj _ hi aa hl rfl) yI (by simp;omega)) ?_
   have fin:∀(jump:Option Code) (W3:World),KeepsFrom w.heap.size (W.putObj (w.heap.size+1) (.loop {rec .ready none with state:=.busy})) W3->
    (Instr.endRound (w.heap.size+1) jump).run P W3= .ok (.bool jump.isNone) (W3.putObj (w.heap.size+1) (.loop (rec (if jump.isNone then .ready else .done) jump)))/\
    W3.heap[w.heap.size+1]? =some (.loop {rec .ready none with state:=.busy})/\
    (W3.putObj (w.heap.size+1) (.loop (rec (if jump.isNone then .ready else .done) jump))).heap[w.heap.size+1]? =some (.loop (rec (if jump.isNone then .ready else .done) jump))/\
    (W3.putObj (w.heap.size+1) (.loop (rec (if jump.isNone then .ready else .done) jump))).heap[w.heap.size]? =some (.deferred (some [])):=λ jump W3 mh=>by
    have lp:=mh.same _ _ aa cI rfl;have:=run_endRound (P:=P) jump lp;rw[xk]at this⊢;exact⟨this,by rw[xk]at lp;exact lp,World.putObj_heap_same (kZ.1 lp).1,(World.putObj_heap_other aa).trans (mh.same _ _ (ai _) bI rfl)⟩
   rintro e a3 W3 hp
   cases e with
   |normal=>
    obtain⟨mh,aix,C6⟩:=hp;obtain⟨hr,lp,xl,si⟩:=fin none W3 mh;exact⟨_,_,hr,.inl ⟨rfl,⟨hI.putObj _ C6 aa lp rfl,xl,si⟩,(World.putObj_heap_other aa).trans (aix.trans (World.putObj_heap_other aa))⟩⟩
   |ret=>
    obtain⟨mh,C6⟩:=hp;obtain⟨hr,lp,xl,si⟩:=fin (some .ret) W3 mh;exact⟨_,_,hr,.inr ⟨rfl,.ret,(Hj _).putObj _ C6 aa lp rfl,xl,si⟩⟩
   |exit id=>
    obtain⟨mh,C6⟩:=hp;obtain⟨hr,lp,xl,si⟩:=fin (some (.exit id)) W3 mh;exact⟨_,_,hr,.inr ⟨rfl,.exit id,(Hj _).putObj _ C6 aa lp rfl,xl,si⟩⟩
   |goto t=>
    obtain⟨mh,C6⟩:=hp;obtain⟨hr,lp,xl,si⟩:=fin (some (.goto t)) W3 mh;exact⟨_,_,hr,.inr ⟨rfl,.goto t,(Hj _).putObj _ C6 aa lp rfl,xl,si⟩⟩
   |panic ch=>exact hp.elim
   |outgrown=>exact hp.elim
  ·rintro e W2 ⟨⟨v,rfl⟩,(⟨hi,hl,hk⟩|⟨pre,c,hi,hl,hk⟩)⟩
   ·exact⟨none,_,by have:=run_endLoop (P:=P) hl (by rw[xk];simp);rw[xk]at this;exact this,ait _ _ (ai _) (hI.putObj _ hi aa hl rfl) ((World.putObj_heap_other aa).trans hk)⟩
   ·exact⟨some c,_,by have:=run_endLoop (P:=P) hl (by rw[xk];simp);rw[xk]at this;exact this,aiu _ c pre _ (ai _) ((Hj c).putObj _ hi aa hl rfl) ((World.putObj_heap_other aa).trans hk)⟩
