import Derived.Test.YtajokjbmpjjoiaaGreatDoorP01
import Derived.Defers
import Derived.Orders
import Derived.Scope
set_option maxRecDepth 20000
set_option maxHeartbeats 0
set_option linter.unusedSimpArgs false
set_option linter.unusedVariables false
namespace Go.Proofs.YtajokjbmpjjoiaaGreatDoor
section
namespace Ev
open Go.RowKit Go.Lib
variable {P:Program} {Z θ aF:Th} {s:S} {w0:Bs} {w:World}
theorem XF (P:Program)(g:Nat):(EH P).get g=P.funcs[g]? :=by
 unfold EH;rw[T.Vm _ _ aj,rM]
def Body (P:Program)(g:Nat):Prop:=∃fn c,P.funcs[g]? =some fn/\fn.body=some c
def Plain (P:Program):Prop:=∀(g:Nat) (fn:Func),P.funcs[g]? =some fn->fn.body.isSome=true->(fn.name== "runtime.NumGoroutine")=false
theorem XG (hP:Plain P){g:Nat}(hB:Body P g)(A:Array Value)(w:World):(callFunc g A).run P w= .ok (.enter g A) w:=by
 obtain⟨fn,c,hf,hb⟩:=hB;have hn:¬fn.name= "runtime.NumGoroutine" :=by simpa using hP g fn hf (by simp[hb])
 simp[callFunc,hf,hn,hb]
theorem aje (hP:Plain P){g:Nat}(hB:Body P g){a:Act}{o:Oper}{f:Operand}{args:Array Operand}{iC:Array TypeId}{L:Array Value}
 (ho:o.op= .call {callee:=.value f,args,argTypes:=iC})(ha:a.eval f= .func (.func g) #[] L)(w:World):(execOp a.eval o).run P w= .ok (.enter g (args.map a.eval++L)) w:=by
 simp[execOp,ho,resolve,ha,Deferred.ofValue,invoke,XG hP hB]
def Ex.up:Ex->Exit
 | .n=>.normal
 | .x i=>.exit i
 | .r=>.ret
def yO (θ:Th):List (Nat×List V0)->Option (List Deferred)
 |[]=>some []
 |d::r=>(d.2.mapM (wO θ)).bind λ L=>(yO θ r).map ({target:=.fn (.func d.1) L.toArray,args:=#[]}::·)
theorem L9 (h:θ.le aF):∀{l b},yO θ l=some b->yO aF l=some b:=by
 intro l;induction l with
 |nil=>exact λ h=>h
 |cons p l ih=>
  intro b e;simp only[yO]at e⊢;obtain⟨x,hx,e⟩:=dq.1 e;obtain⟨r,hr,rfl⟩:=bp.1 e;rw[mapM_mono (λ a b=>Vn h) hx,ih hr];rfl
structure o3 (θ:Th)(m:Tm)(a:Act):Prop where
 t:lG θ m a.tmps
 n:m.n<=a.tmps.size
 d:yO θ m.d=some a.defers
theorem o3.mono {m:Tm}{a:Act}(h:o3 θ m a)(k:θ.le aF):o3 aF m a:=⟨h.t.mono k,h.n,L9 k h.d⟩
theorem Db (m:Tm)(o:Oper)(v:V3):(ft m o v).n=m.n:=by unfold ft;split<;>rfl
theorem Qt (m:Tm)(o:Oper)(v:V3):(ft m o v).d=m.d:=by unfold ft;split<;>rfl
theorem put_defers (a:Act)(d:Option Tmp)(v:Value):(a.put d v).defers=a.defers:=by cases d<;>rfl
theorem Qu (a:Act)(d:Option Tmp)(v:Value):(a.put d v).tmps.size=a.tmps.size:=by cases d<;>simp[Act.put]
theorem o3.put {m:Tm}{a:Act}{o:Oper}(h:o3 θ m a)(hf:fits m o=true){v:V3}{V:Value}(hv:dQ θ v=some V):o3 θ (ft m o v) (a.put o.dst V):=by
 refine⟨?_,by rw[Qu,Db];exact h.n,by rw[Qt,put_defers];exact h.d⟩;unfold fits at hf;unfold ft;split
 ·rename_i d hd;rw[hd]at hf⊢;exact h.t.put hv (ur (by simpa using hf) h.n)
 ·rename_i hd;rw[hd];exact h.t
theorem E_ {all:Array Oper}{m:Tm}{o:Oper}{b:Bool}{t:Array Value}(hT:∀k v,k∈slots all o->m.get k=some v->∃V,dQ θ v=some V/\t[k]? =some V)(h:want all m o=some b):Region.wanted o (yielded all t)=b:=by
 unfold want at h;unfold Region.wanted
 cases hg:o.guard with
 |none=>rw[hg]at h;cases h;rfl
 |some jw=>
  obtain⟨j,c⟩:=jw;rw[hg]at h;dsimp only at h⊢;split at h
  ·rename_i g hj;split at h
   ·rename_i d hd;have hm:d∈slots all o:=by unfold slots;rw[hg];simp[hj,hd]
    split at h
    ·rename_i c' hc
     cases h
     obtain⟨V,h1,h2⟩:=hT d _ hm hc
     cases h1
     simp[yielded,hj,hd,h2]
    ·rename_i hc
     cases h
     obtain⟨V,h1,h2⟩:=hT d _ hm hc
     cases h1
     simp[yielded,hj,hd,h2]
    ·cases h
   ·cases h
  ·cases h
def Qv (P:Program)(c:Code)(Q:Exit->Act->World->Prop)(a:Act)(w:World):Prop:=
 ∀(b:Frame) (k:List Item) (cs:List Frame),∃e a' w',Q e a' w'/\Arrives P (lone (b.at a (.code c:: .inLoop c::k)) cs w) b k cs e a' w'
theorem ajf {c:Code}{Q:Exit->Act->World->Prop}{a:Act}(h:c.wp P (Exit.then (Qv P c Q) Q) a w):Qv P c Q a w:=by
 intro b k cs;obtain⟨e,Aw,Ib,hq,AH⟩:=h b (.inLoop c::k) cs
 cases e with
 |normal=>
  obtain⟨ajg,ajh,aji,ajj,ajk⟩:=hq b k cs;exact⟨ajg,ajh,aji,ajj,.of_steps (Steps.trans AH (.one step_inLoop)) ajk⟩
 |exit id=>exact⟨_,Aw,Ib,hq,.pass (x:=.inLoop c) rfl (λ _ _=>.inl aj) AH⟩
 |goto l=>exact⟨_,Aw,Ib,hq,.pass (x:=.inLoop c) rfl (λ _ _=>.inl aj) AH⟩
 |ret=>exact⟨_,Aw,Ib,hq,.pass (x:=.inLoop c) rfl (λ _ _=>.inl aj) AH⟩
 |panic ch=>exact⟨_,Aw,Ib,hq,.pass (x:=.inLoop c) rfl (λ _ _=>.inl aj) AH⟩
 |outgrown=>exact⟨_,Aw,Ib,hq,.pass (x:=.inLoop c) rfl (λ _ _=>.inl aj) AH⟩
def XH (P:Program)(c:Code)(Q:Exit->Act->World->Prop)(a:Act)(w:World):Prop:=match c with
 | .loop c=>Qv P c Q a w
 |c=>c.wp P Q a w
theorem yP {c:Code}{Q:Exit->Act->World->Prop}{a:Act}(h:XH P c Q a w):c.wp P Q a w:=by
 cases c with
 |loop c=>
  intro b k cs;obtain⟨e,a',w',hq,AH⟩:=h b k cs;exact⟨e,a',w',hq,.of_steps (.one step_loop) AH⟩
 |_=>exact h
def Qw (P:Program)(K:uA)(Z:Th):Prop:=∀f ar s v s',K f ar s=some (v,s')->Body P f/\∀θ w0 w A,Z.le θ->Rel P θ s w0 w->ew θ ar=some A->
 Calls P f A.toArray w λ e w'=>∃aF V,e= .returned V/\θ.le aF/\dQ aF v=some V/\Rel P aF s' w0 w'
def AJ (all:Array Oper)(D:Nat->Prop):Prop:=∀(i:Nat) (o:Oper),D i->all[i]? =some o->∀e∈o.after,Region.binds .any e=true->D e.on
def Dc (P:Program)(all:Array Oper)(x:Nat)(m:Tm)(s:S)(i:Nat)(o:Oper):Prop:=
 (want all m o=some true/\∃v,qo P x s m i o=some v/\∀t,o.dst=some t->m.get t=some v)∨(want all m o=some false/\∀t,o.dst=some t->m.get t=some (.t []))
structure xu (all:Array Oper)(n:Nat):Prop where
 fit:∀(i:Nat) (o:Oper) d,all[i]? =some o->o.dst=some d->d<n
 back:∀(i:Nat) (o:Oper),all[i]? =some o->∀e∈o.after,Region.binds .any e=true->e.on<i
 ajl:∀(i j:Nat) (x y:Oper),all[i]? =some x->all[j]? =some y->km x=true->km y=true->i=j∨mP (oN all.toList []) i j=true∨mP (oN all.toList []) j i=true
 XI:∀(i j:Nat) (x y:Oper) d,all[i]? =some x->all[j]? =some y->x.dst=some d->y.dst=some d->i=j
 L_:∀(i j:Nat) (x y:Oper) d,all[i]? =some x->all[j]? =some y->x.dst=some d->d∈slots all y->(i≠j/\mP (oN all.toList []) j i=true)∨(km y=true/\(i=j∨mP (oN all.toList []) i j=true))∨(km x=true/\mP (oN all.toList []) i j=true)
structure lO (P:Program)(all:Array Oper)(x:Nat)(d:Nat)(m:Tm)(s:S)(θ:Th)(w0:Bs)(D:Nat->Prop)(a:Act)(w:World):Prop where
 rel:Rel P θ s ⟨w0.w,λ y=>w0.N y∨∃i,i<all.size/\¬D i/\y=x+i⟩ w
 far:∀y,w0.N y->y<x
 lt:∀i,d.testBit i=true->i<all.size
 sub:∀i,D i->d.testBit i=true
 cl:AJ all D
 Dd:AJ all (λ i=>d.testBit i=true)
 val:∀(i:Nat) (o:Oper),d.testBit i=true->¬D i->all[i]? =some o->km o=false/\Dc P all x m s i o
 slot:∀k v,m.get k=some v->(∀(i:Nat) (o:Oper),d.testBit i=true->all[i]? =some o->o.dst=some k->D i)->∃V,dQ θ v=some V/\a.tmps[k]? =some V
 n:m.n<=a.tmps.size
 df:yO θ m.d=some a.defers
def o4 (l:Array Bool)(i:Nat):Prop:=l.getD i false=true
def Good (P:Program)(Z:Th):Do->Prop
 | .code c m s k=>∀θ w0 w a (Q:Exit->Act->World->Prop),Z.le θ->Rel P θ s w0 w->o3 θ m a->
  (∀e m' s' aF a' w',k e m' s'=true->θ.le aF->Rel P aF s' w0 w'->o3 aF m' a'->Q e.up a' w')->XH P c Q a w
 | .call f ar s k=>Body P f/\∀θ w0 w A (R:Ending->World->Prop),Z.le θ->Rel P θ s w0 w->ew θ ar=some A->
  (∀v s' aF V w',k v s'=true->θ.le aF->dQ aF v=some V->Rel P aF s' w0 w'->R (.returned V) w')->Calls P f A.toArray w R
 | .ops all l m s k=>∀i θ w0 w a (Q:Exit->Act->World->Prop),all.toList.drop i=l->Z.le θ->Rel P θ s w0 w->o3 θ m a->
  (∀m' s' aF a' w',k m' s'=true->θ.le aF->Rel P aF s' w0 w'->o3 aF m' a'->Q .normal a' w')->wpOps P all Q (List.range' i l.length) a w
 | .leave ds m s rs k=>∀θ w0 w tm D fn (R:Ending->World->Prop),Z.le θ->Rel P θ s w0 w->lG θ m tm->yO θ ds=some D->fn.results.toList=rs->
  (∀v s' aF V w',k v s'=true->θ.le aF->dQ aF v=some V->Rel P aF s' w0 w'->R (.returned V) w')->Leaves P fn tm R D .returning w
 | .zS all es x d m s k=>∀θ w0 w a (Q:Exit->Act->World->Prop) (l:Array Bool) f,Z.le θ->xu all m.n->l.size=all.size->l.toList.count false<=f->lO P all x d m s θ w0 (o4 l) a w->
  (∀m' s' aF a' w',k m' s'=true->θ.le aF->Rel P aF s' w0 w'->o3 aF m' a'->Q .normal a' w')->wpAny P .any all Q f l a w
theorem XJ:∀{l:List V0} {L},l.mapM (wO θ)=some L->ew θ (l.map V0.up)=some L:=by
 intro l;induction l with
 |nil=>intro L h;cases h;rfl
 |cons v l ih=>
  intro L h;rw[Cl]at h;obtain⟨b,hb,h⟩:=dq.1 h;obtain⟨t,ht,h⟩:=dq.1 h
  cases h
  simp only[List.map_cons,ew,ih ht];have:cX θ v.up=some b:=by cases v<;>exact hb
  rw[this];rfl
theorem ajm:∀{l m:List V2} {L M},ew θ l=some L->ew θ m=some M->ew θ (l++m)=some (L++M):=by
 intro l;induction l with
 |nil=>intro m L M h k;cases h;exact k
 |cons v l ih=>
  intro m L M h k;simp only[ew]at h;obtain⟨x,hx,h⟩:=dq.1 h;obtain⟨r,hr,rfl⟩:=bp.1 h;simp[ew,hx,ih hr k]
theorem ajn (f:Nat->Bool):∀{l:List (V1×V1×Nat)} {L},gY θ l=some L->gY θ (l.filter λ e=>f e.2.2)=some (L.filter λ e=>f e.born):=by
 intro l;induction l with
 |nil=>intro L h;cases h;rfl
 |cons v l ih=>
  intro L h;simp only[gY]at h;obtain⟨x,hx,h⟩:=dq.1 h;obtain⟨y,hy,h⟩:=dq.1 h;obtain⟨r,hr,rfl⟩:=bp.1 h;by_cases hf:f v.2.2=true
  ·simp[hf,gY,hx,hy,ih hr]
  ·simp[hf,ih hr]
theorem XK (f:Nat->Bool):∀{l:List (V1×V1×Nat)} {L},gY θ l=some L->(L.all λ e=>f e.born)=(l.all λ e=>f e.2.2)/\(L.isEmpty=l.isEmpty)/\L.length=l.length:=by
 intro l;induction l with
 |nil=>intro L h;cases h;exact⟨rfl,rfl,rfl⟩
 |cons v l ih=>
  intro L h;simp only[gY]at h;obtain⟨x,hx,h⟩:=dq.1 h;obtain⟨y,hy,h⟩:=dq.1 h;obtain⟨r,hr,rfl⟩:=bp.1 h;exact⟨by simp[(ih hr).1],rfl,by simp[(ih hr).2.2]⟩
theorem ajo:∀{l:List (V1×V1×Nat)} {L},gY θ l=some L->∀{i:Nat} {e},L[i]? =some e->∃v,l[i]? =some v/\br θ v.1=some e.key/\br θ v.2.1=some e.val/\v.2.2=e.born:=by
 intro l;induction l with
 |nil=>intro L h i e he;cases h;cases he
 |cons v l ih=>
  intro L h i e he;simp only[gY]at h;obtain⟨x,hx,h⟩:=dq.1 h;obtain⟨y,hy,h⟩:=dq.1 h;obtain⟨r,hr,rfl⟩:=bp.1 h
  cases i with
  |zero=>cases he;exact⟨v,rfl,hx,hy,rfl⟩
  |succ i=>exact ih hr he
theorem run_choose (q:Question):(choose q).run P w=if q.forced then .ok 0 w else .ok (q.cut (w.tape w.drawn q)) {w with drawn:=w.drawn+1}:=by
 simp only[choose,Sem.run]
end Ev
end
section
namespace Ev
open Go.RowKit Go.Lib
variable {P:Program} {K:uA} {Z θ aF:Th} {s:S} {w0:Bs} {w:World}
theorem ajp (hR:Rel P θ s w0 w){x q b:Nat}{n z c j:Nat}{sn:List Nat}(hx:s.h.get x=some (.it q n sn z))(hb:θ.bw x=some b)(W:World)(hW:W.heap=w.heap)(h1:W.os=w.os)(h2:W.tape=w.tape)(h3:W.output=w.output):
 ∃r,θ.bw q=some r/\Rel P θ (s.put x (.it q n (sn++[j]) c)) w0 {W with heap:=W.heap.setIfInBounds b (.mapIter (some r) n (sn.toArray.push j) c)}:=by
 obtain⟨r,hr,hw⟩:=hR.obj _ _ _ hx hb;have jh:=(hR.bw _ _ hb).2;refine⟨r,hr,hR.write hx hb (by simp[hW]) (λ k hk=>?_) h1 h2 h3 ⟨r,hr,?_⟩⟩
 ·show(W.heap.setIfInBounds b _)[k]? =_;rw[hW,heap_set jh,if_neg hk]
 ·show(W.heap.setIfInBounds b _)[b]? =_;rw[hW,heap_set jh,if_pos rfl];simp
theorem ajq {x y:V1}{X Y}(h:br θ x=some X)(k:br θ y=some Y):dQ θ (.t [.o (.t true),.o x,.o y])=some (.tuple #[.bool true,X,Y]):=by
 simp only[dQ,ew,cX,h,k];rfl
theorem ajr {x b:Nat}{q n z:Nat}{seen:List Nat}{es:List (V1×V1×Nat)}{c:Nat}(hR:Rel P θ s w0 w)(hb:θ.bw x=some b)(hx:s.h.get x=some (.it q n seen z))(hq:s.h.get q=some (.m es c))(t:TypeId)
 (h1:(!seen.isEmpty&&!es.isEmpty&&es.all (λ e=>z<=e.2.2))=false)(h2:((es.filter λ e=>!seen.contains e.2.2).any λ e=>n<=e.2.2)=false):
 ∃V w',(Instr.next (.pointer (some ⟨b,0,none⟩)) false t).run P w= .ok V w'/\
  (((es.filter λ e=>!seen.contains e.2.2)=[]/\V= .tuple #[.bool false]/\Rel P θ {s with h:=s.h.set x none} w0 w')∨
   ∃e k v,e∈(es.filter λ e=>!seen.contains e.2.2)/\br θ e.1=some k/\br θ e.2.1=some v/\V= .tuple #[.bool true,k,v]/\Rel P θ (s.put x (.it q n (seen++[e.2.2]) c)) w0 w'):=by
 obtain⟨r,hr,hw⟩:=hR.obj _ _ _ hx hb;obtain⟨E,hE,XL⟩:=hR.obj _ _ _ hq hr;have hA:=XK (θ:=θ) (λ j=>decide (z<=j)) hE;have hF:=ajn (θ:=θ) (λ j=>!seen.contains j) hE;have hN:=XK (θ:=θ) (λ j=>decide (j<n)) hF;generalize hL:(es.filter λ e=>!seen.contains e.2.2)=L at*;generalize hM:(E.filter λ e=>!seen.contains e.born)=M at*
 have hold:∀e∈M,e.born<n:=by
  have:(L.all λ e=>decide (e.2.2<n))=true:=by
   rw[List.any_eq_false]at h2;rw[nF];intro e he;have:=h2 e he;simp at this⊢;omega
  rw[<-hN.1,nF]at this;exact λ e he=>by simpa using this e he
 have ajs:M.filter (λ e=>decide (e.born<n))=M:=List.filter_eq_self.2 λ e he=>by simpa using hold e he
 have Fa:M.filter (λ e=>decide (e.born≥n))=[]:=rS.2 λ e he=>by have:=hold e he;simp;omega
 have hg:(!(seen.toArray).isEmpty&&!(E.toArray).isEmpty&&E.toArray.all (·.born≥z))=false:=by
  rw[<-h1,<-hA.1,<-hA.2.1];simp
 have ajt:(E.toArray.filter λ e=>!(seen.toArray).contains e.born)=M.toArray:=by rw[<-hM];simp
 have Ma:M.toArray.filter (λ e=>decide (e.born<n))=M.toArray:=by simp[ajs]
 have yH:M.toArray.filter (λ e=>decide (e.born≥n))=#[]:=by
  have:=Fa;simp only[List.filter_toArray,this]
 unfold Instr.next
 simp only[dZ,zY hw nofun,Result.andThen_ok,zY XL nofun,hg,rP,if_false,ajt,Ma,yH,Array.append_empty,Sem.run_pure,run_choose]
 cases M with
 |nil=>
  have De:L=[]:=dP (by rw[<-hN.2.2];rfl);refine⟨_,w,?_,.inl ⟨De,rfl,hR.kill x⟩⟩;simp[Question.forced]
 |cons e M=>
  obtain⟨i,hi,wi,Fb,e1,e2,e3,e4⟩:∃i,i<(e::M).length/\∃wi:World,(if Question.forced (.mapNext (M.length+1))=true then Result.ok 0 w else .ok (Question.cut (.mapNext (M.length+1)) (w.tape w.drawn (.mapNext (M.length+1)))) {w with drawn:=w.drawn+1})= .ok i wi/\wi.heap=w.heap/\wi.os=w.os/\wi.tape=w.tape/\wi.output=w.output:=by
   split
   ·exact⟨0,aj,w,rfl,rfl,rfl,rfl,rfl⟩
   ·exact⟨_,rR _ aj,_,rfl,rfl,rfl,rfl,rfl⟩
  have uC:(e::M)[i]? =some (e::M)[i]:=aZ hi;obtain⟨v,hv,hk,ff,wS⟩:=ajo hF uC;obtain⟨r',Ic,kn⟩:=ajp (c:=c) (j:=v.2.2) hR hx hb wi e1 e2 e3 e4;rw[hr]at Ic;cases Ic;refine⟨_,_,?_,.inr ⟨v,_,_,du hv,hk,ff,rfl,kn⟩⟩;have aju:wi.heap[b]? =some (.mapIter (some r) n seen.toArray z):=by rw[e1];exact hw
  have lk:(((e::M).map some).toArray)[i]? =some (some (e::M)[i]):=by
   rw[gW,eH,uC];rfl
  have aS:((e::M).toArray.isEmpty)=false:=rfl;have aG:(((e::M).map some).toArray).size=M.length+1:=aj;simp only[aS,rP,if_false,Array.empty_append,zP,aG,Fb,Result.andThen_ok,lk,dZ,Pd aju nofun,Sem.run_pure,wS]
theorem XM {r:Do->Bool}(hr:∀d,r d=true->Good P Z d)(hP:Plain P){m:Tm}{o:Oper}{k:V3->S->Bool}{a:Act}{next:Act->World->Prop}{Q:Exit->Act->World->Prop}
 (hZ:Z.le θ)(hR:Rel P θ s w0 w)(hT:lG θ m a.tmps)(h:exec P r m s o k=true)
 (hk:∀v s' aF V w',k v s'=true->θ.le aF->dQ aF v=some V->Rel P aF s' w0 w'->next (a.put o.dst V) w'):o.wp P a w next Q:=by
 unfold exec at h;split at h
 ·rename_i v hq;obtain⟨V,hV,jf⟩:=VM hR hT hq;unfold Oper.wp;rw[jf,Oper.upon_value];exact hk _ _ _ _ _ h (.refl θ) hV hR
 ·split at h
  ·rename_i v s' hl;obtain⟨aF,V,w',hle,hV,kn,jf⟩:=agD hR hT hl;unfold Oper.wp;rcases jf with jf|⟨jf,rfl⟩
   ·rw[jf,Oper.upon_value];exact hk _ _ _ _ _ h hle hV kn
   ·rw[jf,Oper.upon_skip];exact hk _ _ _ _ _ h hle hV kn
  ·split at h
   ·rename_i f args iC ho;split at h
    ·rename_i g l vs hf hv;obtain⟨hB,hG⟩:=hr _ h;obtain⟨L,hL,Qx⟩:=VH (dR hT hf);have CN:=EL hT hv;unfold Oper.wp;rw[aje hP hB ho Qx,Oper.upon_enter];have hA:((args.map a.eval)++L.toArray)=(args.toList.map a.eval++L).toArray:=by apply rN;simp
     rw[hA];exact hG θ w0 w _ _ hZ hR (ajm CN (XJ hL)) λ v s' aF V w' h1 h2 h3 h4=>hk _ _ _ _ _ h1 h2 h3 h4
    ·cases h
   ·rename_i it ho;split at h
    ·rename_i x hx;split at h
     ·rename_i q n seen z eB;split at h
      ·rename_i es c Fc;obtain⟨b,hb,ajv⟩:=tx (dR hT hx);split at h
       ·cases h
       ·rename_i h1;dsimp only at h;split at h
        ·cases h
        ·rename_i h2;obtain⟨V,w',jf,Qy⟩:=ajr hR hb eB Fc o.type (by simpa using h1) (by simpa using h2)
         have hex:(execOp a.eval o).run P w= .ok (.value V) w':=by
          simp only[execOp,ho,ajv,dZ,jf,Result.andThen_ok,Sem.run_pure]
         unfold Oper.wp;rw[hex,Oper.upon_value];rcases Qy with⟨hn,rfl,kn⟩|⟨e,k',v',he,oP,eM,rfl,kn⟩
         ·rw[hn]at h;simp only[List.isEmpty_nil,if_true]at h;exact hk _ _ _ _ _ h (.refl θ) rfl kn
         ·have aS:(es.filter λ e=>!seen.contains e.2.2).isEmpty=false:=by
           cases hl:(es.filter λ e=>!seen.contains e.2.2)with
           |nil=>rw[hl]at he;cases he
           |cons _ _=>rfl
          rw[aS]at h;simp only[rP,if_false,nF]at h;exact hk _ _ _ _ _ (h e he) (.refl θ) (ajq oP eM) kn
      ·cases h
     ·cases h
    ·cases h
   ·cases h
end Ev
end
section
namespace Ev
open Go.RowKit Go.Lib
variable {P:Program} {K:uA} {Z θ aF:Th} {s:S} {w0:Bs} {w:World}
noncomputable def Mb (m:Tm):List Nat->T V3
 |[]=>.e
 |k::l=>(Mb m l).set k (m.get k)
noncomputable def Tm.only (m:Tm)(l:List Nat):Tm:={m with t:=Mb m l}
theorem XN (m:Tm)(l:List Nat)(j:Nat):(m.only l).get j=if j∈l then m.get j else none:=by
 show(Mb m l).get j=_;induction l with
 |nil=>rfl
 |cons k l ih=>
  rw[Mb,T.tt,ih];by_cases h:j=k
  ·simp[h]
  ·simp[h]
section
variable {m m2:Tm} {o:Oper}
theorem Qz:∀{l:List Operand},(∀x∈l,ev m x=ev m2 x)->oM m l=oM m2 l:=by
 intro l;induction l with
 |nil=>intro _;rfl
 |cons x l ih=>
  intro h;simp only[oM,qn,h x aj,ih λ y hy=>h y (by simp[hy])]
theorem XO {x:Option Operand}(h:∀y∈x.toArray.toList,ev m y=ev m2 y):opt m x=opt m2 x:=by
 cases x with
 |none=>rfl
 |some x=>simp only[opt,cW,h x aj]
theorem QA (s:S)(h:∀x∈o.op.operands.toList,ev m x=ev m2 x):quiet P s m o=quiet P s m2 o:=by
 unfold quiet;split<;>first|(rename_i eo;rw[eo]at h;simp only[Op.operands,Call.operands,Cp,fE]at h)|skip
 all_goals first
  |exact h _ aj
  |(simp only[q1,cW,h _ (.head _),h _ (.tail _ (.head _)),h _ (.tail _ (.tail _ (.head _)))];done)
  |(simp only[q3,q4,q6,q7,q8,KK,KL,tq,KN,cW,qn,h _ (Cx _)];done)
  |(simp only[q5,iB,dg,KM,cW,qn,h _ (show _∈[_,_]from .head _),h _ (show _∈[_,_]from .tail _ (.head _))];done)
  |(simp only[q2,q9,KP,KQ,Qz (m:=m) (m2:=m2) λ x hx=>h x (by first|exact hx|exact .inr hx|simpa using hx)];done)
  |(simp only[EJ,cW,h _ (.inl (.inl (.inl (Cx _)))),XO (m:=m) (m2:=m2) λ x hx=>h x (.inl (.inl (.inr hx))),XO (m:=m) (m2:=m2) λ x hx=>h x (.inl (.inr hx))];done)
  |(unfold KO;split
    ·rename_i e1 e2;simp only[cW,h _ (.inr (by rw[e2];exact Cx _))]
    ·rfl)
  |rfl
theorem ajw (s:S)(h:∀x∈o.op.operands.toList,ev m x=ev m2 x):loud P s m o=loud P s m2 o:=by
 unfold loud;split<;>first|(rename_i eo;rw[eo]at h;simp only[Op.operands,Call.operands,Cp,fE]at h)|skip
 all_goals first
  |rfl
  |(simp only[l1,l7,cW,qn,h _ (Cx _)];done)
  |(simp only[l3,l5,cW,qn,h _ (show _∈[_,_]from .head _),h _ (show _∈[_,_]from .tail _ (.head _))];done)
  |(simp only[l2,Qz (m:=m) (m2:=m2) λ x hx=>h x (by first|exact hx|exact .inr hx|simpa using hx)];done)
  |(simp only[l6,cW,h _ (show _∈[_,_,_]from .head _),h _ (show _∈[_,_,_]from .tail _ (.head _)),h _ (show _∈[_,_,_]from .tail _ (.tail _ (.head _)))];done)
  |(unfold l8;split
    ·rename_i e1 e2;simp only[cW,h _ (.inr (by rw[e2];exact Cx _))]
    ·rfl)
  |(unfold l9;split
    ·rename_i e1 e2;simp only[cW,h _ (.inr (by rw[e2];exact .head _)),h _ (.inr (by rw[e2];exact .tail _ (.head _)))]
    ·rfl)
  |(unfold KR;split
    ·rename_i e1 e2;simp only[cW,h _ (.inr (by rw[e2];exact .head _)),h _ (.inr (by rw[e2];exact .tail _ (.head _)))]
    ·rfl)
theorem ajx (r:Do->Bool)(s:S)(k:V3->S->Bool)(h:∀x∈o.op.operands.toList,ev m x=ev m2 x):exec P r m s o k=exec P r m2 s o k:=by
 unfold exec;rw[QA s h,ajw s h];split
 ·rfl
 ·split
  ·rfl
  ·split<;>first|(rename_i eo;rw[eo]at h;simp only[Op.operands,Call.operands,Cp,fE]at h)|skip
   ·simp only[cW,h _ (.inl (Cx _)),Qz (m:=m) (m2:=m2) λ x hx=>h x (.inr hx)]
   ·simp only[cW,h _ (Cx _)]
   ·rfl
theorem ajy (s s2:S)(h:reads o=false):quiet P s m o=quiet P s2 m o:=by
 unfold reads at h;unfold quiet
 split<;>first
  |rfl
  |(rename_i eo;rw[eo]at h;cases h)
end
theorem V0.sr:∀{x y:V0},x.same y=true->x=y:=by
 intro x y h
 cases x<;>cases y<;>simp_all[V0.same]
theorem Fe {A:Type}{f:A->A->Bool}(hf:∀{x y},f x y=true->x=y):∀{l r:List A},yo f l r=true->l=r:=by
 intro l;induction l with
 |nil=>intro r h;cases r with|nil=>rfl|cons _ _=>cases h
 |cons x l ih=>
  intro r h
  cases r with
  |nil=>cases h
  |cons y r=>simp only[yo,k_]at h;rw[hf h.1,ih h.2]
theorem Pc.sr:∀{x y:Pc},x.same y=true->x=y:=by
 intro x y h
 cases x<;>cases y<;>simp_all[Pc.same]
theorem V1.sr:∀{x y:V1},x.same y=true->x=y:=by
 intro x y h
 cases x<;>cases y<;>simp[V1.same]at h<;>try rfl
 all_goals first
  |(subst h;rfl)
  |(obtain⟨rfl,rfl⟩:=h;rfl)
  |(rw[Fe Pc.sr h];done)
  |(obtain⟨⟨⟨rfl,rfl⟩,rfl⟩,rfl⟩:=h;rfl)
  |(obtain⟨rfl,h⟩:=h;rw[Fe V0.sr h])
theorem V2.sr:∀{x y:V2},x.same y=true->x=y:=by
 intro x y h
 cases x<;>cases y<;>simp[V2.same]at h
 ·rw[V1.sr h]
 ·rw[Fe V1.sr h]
theorem V3.sr:∀{x y:V3},x.same y=true->x=y:=by
 intro x y h
 cases x<;>cases y<;>simp[V3.same]at h
 ·rw[V2.sr h]
 ·rw[Fe V2.sr h]
section
variable {all:Array Oper} {m:Tm} {o:Oper} {a:Act}
def Sl (θ:Th)(all:Array Oper)(o:Oper)(m:Tm)(a:Act):Prop:=∀k v,k∈slots all o->m.get k=some v->∃V,dQ θ v=some V/\a.tmps[k]? =some V
theorem Sl.rel (h:Sl θ all o m a):lG θ (m.only (slots all o)) a.tmps:=λ k v e=>by
 rw[XN]at e;split at e
 ·exact h k v ‹_› e
 ·cases e
theorem XP {x:Operand}(h:x∈o.op.operands.toList):ev m x=ev (m.only (slots all o)) x:=by
 cases x with
 |tmp t=>
  show m.get t=(m.only _).get t;rw[XN,if_pos];unfold slots;exact List.mem_append_left _ (List.mem_filterMap.2 ⟨.tmp t,h,rfl⟩)
 |_=>rfl
theorem ajz (hR:Rel P θ s w0 w)(hs:Sl θ all o m a){v:V3}(h:quiet P s m o=some v):∃V,dQ θ v=some V/\(execOp a.eval o).run P w= .ok (.value V) w:=
 VM hR hs.rel (by rw[<-QA s λ x hx=>XP hx];exact h)
theorem ajA {r:Do->Bool}(hr:∀d,r d=true->Good P Z d)(hP:Plain P){k:V3->S->Bool}{next:Act->World->Prop}{Q:Exit->Act->World->Prop}
 (hZ:Z.le θ)(hR:Rel P θ s w0 w)(hs:Sl θ all o m a)(h:exec P r m s o k=true)
 (hk:∀v s' aF V w',k v s'=true->θ.le aF->dQ aF v=some V->Rel P aF s' w0 w'->next (a.put o.dst V) w'):o.wp P a w next Q:=
 XM hr hP hZ hR hs.rel (by rw[<-ajx r s k λ x hx=>XP hx];exact h) hk
end
end Ev
end
section
namespace Ev
open Go.RowKit Go.Lib
variable {P:Program} {K:uA} {Z θ aF:Th} {s:S} {w0:Bs} {w:World} {all:Array Oper} {m:Tm} {o:Oper} {a:Act} {x d:Nat} {D:Nat->Prop}
theorem mj (d i j:Nat):(d|||2^i).testBit j=true↔d.testBit j=true∨j=i:=by
 rw[Nat.testBit_or,Nat.testBit_two_pow,Bool.or_eq_true,decide_eq_true_eq];exact or_congr Iff.rfl eq_comm
theorem ajB (l:List Oper):∀(r:List Nat),(∀k,l[k]? =all[r.length+k]?)->(∀i j,mP r i j=true->∀D,AJ all D->D i->D j)->∀i j,mP (oN l r) i j=true->∀D,AJ all D->D i->D j:=by
 induction l with
 |nil=>exact λ r _ h=>h
 |cons o l ih=>
  intro r hl h;have ho:all[r.length]? =some o:=(hl 0).symm;refine ih _ (λ k=>?_) λ i j hb D hD hi=>?_
  ·have:=hl (k+1);rw[eF]at this;rw[this,ag];congr 1;simp;omega
  ·unfold mP at hb;by_cases h1:i<r.length
   ·rw[ux h1]at hb;exact h i j hb D hD hi
   ·rw[lf aa]at hb;by_cases h2:i=r.length
    ·subst h2;simp only[gy,lZ,ye]at hb
     have key:∀(es:List Edge) (b:Nat),(∀e∈es,e∈o.after)->(es.foldl (λ b e=>if Region.binds .any e then b|||2^e.on|||(r[e.on]?).getD 0 else b) b).testBit j=true->b.testBit j=true∨D j:=by
      intro es;induction es with
      |nil=>exact λ b _ h=>.inl h
      |cons e es ajC=>
       intro b he hf;rcases ajC _ (λ e' h'=>he e' (by simp[h'])) hf with h3|h3
       ·dsimp only at h3;by_cases il:Region.binds .any e=true
        ·rw[if_pos il]at h3;have hd:=hD _ _ hi ho e (he e aj) il;rw[Nat.testBit_or,Bool.or_eq_true,mj]at h3;rcases h3 with(h3|h3)|h3
         ·exact .inl h3
         ·exact .inr (h3▸hd)
         ·exact .inr (h _ _ h3 D hD hd)
        ·rw[if_neg il]at h3;exact .inl h3
       ·exact .inr h3
     rcases key _ 0 (λ e he=>Array.mem_toList_iff.1 he) hb with h3|h3
     ·simp at h3
     ·exact h3
    ·have:[o.after.toList.foldl (λ b e=>if Region.binds .any e then b|||2^e.on|||(r[e.on]?).getD 0 else b) 0][i-r.length]? =none:=s7 (by simp;omega);rw[this]at hb;simp at hb
theorem AK (hD:AJ all D){i j:Nat}(h:mP (oN all.toList []) i j=true)(hi:D i):D j:=
 ajB (all:=all) all.toList [] (λ k=>by simp) (λ i j h=>by simp[mP]at h) i j h D hD hi
theorem QB {l:List Oper}{i:Nat}(h:l[i]? =some o):(o,i)∈l.zipIdx:=List.mk_mem_zipIdx_iff_getElem?.2 h
theorem ajD (h1:all.toList.all (fits m)=true)(h2:apart all (oN all.toList [])=true):xu all m.n:=by
 unfold apart at h2;generalize hb:oN all.toList []=bf at h2;rw[nF]at h1 h2;have g:∀{i:Nat} {o:Oper},all[i]? =some o->all.toList[i]? =some o:=λ h=>by rw[rM];exact h
 have h3:∀{i j:Nat} {x y:Oper},all[i]? =some x->all[j]? =some y->KS all bf x i y j=true:=λ hx hy=>by
  have:=h2 _ (QB (g hx));simp only[k_,nF]at this;exact this.2 _ (QB (g hy))
 have h4:∀{i j:Nat} {x y:Oper} {d},all[i]? =some x->all[j]? =some y->x.dst=some d->(i=j∨y.dst≠some d)/\(((d∉slots all y∨(i≠j/\mP bf j i=true))∨(km y=true/\(i=j∨mP bf i j=true)))∨(km x=true/\mP bf i j=true)):=λ hx hy hd=>by
  have:=h3 hx hy;unfold KS at this;rw[hd]at this;simpa using(Bool.and_eq_true_iff.1 this).2
 rw[<-hb]at*;refine⟨λ i o d ho hd=>?_,λ i o ho e he il=>?_,λ i j x y hx hy h5 h6=>?_,λ i j x y d hx hy h5 h6=>?_,λ i j x y d hx hy h5 h6=>?_⟩
 ·have:=h1 o (du (g ho));unfold fits at this;rw[hd]at this;simpa using this
 ·have:=h2 _ (QB (g ho));simp only[k_,nF]at this;have:=this.1 e (by simpa using he);simpa[il]using this
 ·have:=h3 hx hy;unfold KS at this;have:=(Bool.and_eq_true_iff.1 this).1;simp[h5,h6]at this;rcases this with(h|h)|h
  ·exact .inl h
  ·exact .inr (.inl h)
  ·exact .inr (.inr h)
 ·exact(h4 hx hy h5).1.resolve_right (λ h=>h h6)
 ·rcases(h4 hx hy h5).2 with((h|h)|h)|h
  ·exact absurd h6 h
  ·exact .inl h
  ·exact .inr (.inl h)
  ·exact .inr (.inr h)
theorem Ie {v:V3}{k:Nat}(h:o.dst≠some k):(ft m o v).get k=m.get k:=by
 unfold ft;split
 ·rename_i d hd;show(m.t.set d _).get k=_;rw[T.tt,if_neg (λ e=>h (by rw[hd,e]))];rfl
 ·rfl
theorem QC {v:V3}{k:Nat}(h:o.dst=some k):(ft m o v).get k=some v:=by
 unfold ft;rw[h];show(m.t.set k _).get k=_;rw[T.tt,if_pos rfl]
theorem XQ {m2:Tm}(h:∀k,k∈slots all o->m.get k=m2.get k):want all m o=want all m2 o:=by
 unfold want
 cases hg:o.guard with
 |none=>rfl
 |some jw=>
  obtain⟨j,c⟩:=jw;dsimp only
  cases hj:all[j]? with
  |none=>rfl
  |some g=>
   dsimp only
   cases hd:g.dst with
   |none=>rfl
   |some d=>
    dsimp only;rw[h d (by unfold slots;rw[hg];simp[hj,hd])]
theorem XR {m2:Tm}{i:Nat}(h:∀k,k∈slots all o->m.get k=m2.get k):qo P x s m i o=qo P x s m2 i o:=by
 unfold qo;split
 ·rfl
 ·refine QA s λ y hy=>?_
  cases y with
  |tmp t=>
   refine h t ?_;unfold slots;exact List.mem_append_left _ (List.mem_filterMap.2 ⟨.tmp t,hy,rfl⟩)
  |_=>rfl
theorem ajE {s2:S}{i:Nat}(h:reads o=false):qo P x s m i o=qo P x s2 m i o:=by
 unfold qo
 cases ha:GH o with
 |none=>exact ajy s s2 h
 |some e=>
  unfold GH at ha;split at ha
  ·rename_i eo;unfold reads at h;rw[eo]at h;cases h
  ·cases ha
theorem Dc.put {o2:Oper}{i:Nat}{v:V3}(h:Dc P all x m s i o)(h1:∀k,o2.dst=some k->k∉slots all o)(h2:∀k,o2.dst=some k->o.dst≠some k):Dc P all x (ft m o2 v) s i o:=by
 have h3:∀k,k∈slots all o->(ft m o2 v).get k=m.get k:=λ k hk=>Ie λ e=>h1 k e hk;have h4:∀t,o.dst=some t->(ft m o2 v).get t=m.get t:=λ t ht=>Ie λ e=>h2 t e ht;unfold Dc;rw[XQ h3,XR (P:=P) (x:=x) (s:=s) (i:=i) h3];rcases h with⟨h,u,hu,ht⟩|⟨h,ht⟩
 ·exact .inl ⟨h,u,hu,λ t e=>by rw[h4 t e];exact ht t e⟩
 ·exact .inr ⟨h,λ t e=>by rw[h4 t e];exact ht t e⟩
theorem Ff:ready d o=true↔∀e∈o.after,Region.binds .any e=true->d.testBit e.on=true:=by
 unfold ready;rw[nF];constructor
 ·intro h e he hb;have:=h e (by simpa using he);simpa[hb]using this
 ·intro h e he
  cases hb:Region.binds .any e
  ·rfl
  ·simpa using h e (by simpa using he) hb
theorem lO.more (h:lO P all x d m s θ w0 D a w)(bu:xu all m.n){i:Nat}(ho:all[i]? =some o)(he:km o=false)(hr:ready d o=true)(hd:d.testBit i=false){v:V3}
 (hv:(want all m o=some true/\qo P x s m i o=some v)∨(want all m o=some false/\v= .t [])):lO P all x (d|||2^i) (ft m o v) s θ w0 D a w:=by
 have hD:¬D i:=λ k=>by rw[h.sub i k]at hd;cases hd
 refine⟨h.rel,h.far,λ j hj=>?_,λ j hj=>(mj d i j).2 (.inl (h.sub j hj)),h.cl,λ j oj hj bM e mZ hb=>?_,λ j oj hj qM bM=>?_,λ k u hk hw=>?_,by rw[Db];exact h.n,by rw[Qt];exact h.df⟩
 ·rcases(mj d i j).1 hj with hj|rfl
  ·exact h.lt j hj
  ·exact(kZ.1 ho).1
 ·rcases(mj d i j).1 hj with hj|rfl
  ·exact(mj _ _ _).2 (.inl (h.Dd j oj hj bM e mZ hb))
  ·rw[ho]at bM;cases bM;exact(mj _ _ _).2 (.inl (Ff.1 hr e mZ hb))
 ·rcases(mj d i j).1 hj with hj|rfl
  ·obtain⟨h1,h2⟩:=h.val j oj hj qM bM;refine⟨h1,h2.put (λ k hk hs=>?_) λ k hk bI=>?_⟩
   ·rcases bu.L_ i j o oj k ho bM hk hs with⟨_,hb⟩|⟨hb,_⟩|⟨hb,_⟩
    ·have:=AK (D:=λ i=>d.testBit i=true) h.Dd hb hj;rw[hd]at this;cases this
    ·rw[h1]at hb;cases hb
    ·rw[he]at hb;cases hb
   ·have:=bu.XI i j o oj k ho bM hk bI;subst this;rw[hd]at hj;cases hj
  ·rw[ho]at bM;cases bM
   have tM:∀k,k∈slots all o->(ft m o v).get k=m.get k:=λ k hk=>Ie λ e=>by
    rcases bu.L_ j j o o k ho ho e hk with⟨h1,_⟩|⟨h1,_⟩|⟨h1,_⟩
    ·exact h1 rfl
    ·rw[he]at h1;cases h1
    ·rw[he]at h1;cases h1
   refine⟨he,?_⟩;unfold Dc;rw[XQ tM,XR (P:=P) (x:=x) (s:=s) (i:=j) tM];rcases hv with⟨h1,h2⟩|⟨h1,rfl⟩
   ·exact .inl ⟨h1,v,h2,λ t ht=>QC ht⟩
   ·exact .inr ⟨h1,λ t ht=>QC ht⟩
 ·have aS:o.dst≠some k:=λ e=>hD (hw i o ((mj d i i).2 (.inr rfl)) ho e);rw[Ie aS]at hk;exact h.slot k u hk λ j oj hj bM bI=>hw j oj ((mj d i j).2 (.inl hj)) bM bI
theorem ajF:∀(l:List Oper) (i d:Nat) (m:Tm) {d':Nat} {m':Tm},all.toList.drop i=l->lO P all x d m s θ w0 D a w->xu all m.n->CJ P all x s l i d m=some (d',m')->
 lO P all x d' m' s θ w0 D a w/\m'.n=m.n/\(∀j,j<i->d'.testBit j=d.testBit j)/\(∀j,d.testBit j=true->d'.testBit j=true)/\(∀(j:Nat) (o:Oper),i<=j->all[j]? =some o->km o=false->ready d' o=true->d'.testBit j=true):=by
 intro l;induction l with
 |nil=>
  intro i d m d' m' hl hC bu h
  cases h
  refine⟨hC,rfl,λ _ _=>rfl,λ _ h=>h,λ j o hj ho=>?_⟩;have h1:=(kZ.1 ho).1;have h2:=congrArg List.length hl;simp at h2;omega
 |cons o l ih=>
  intro i d m d' m' hl hC bu h
  have ho:all[i]? =some o:=by
   have:=congrArg (·[0]?) hl;simpa using this
  have cI:all.toList.drop (i+1)=l:=by rw[<-List.tail_drop,hl];rfl
  rw[CJ]at h;split at h
  ·rename_i hc;obtain⟨h1,h2,h3,h4,h5⟩:=ih (i+1) d m cI hC bu h;refine⟨h1,h2,λ j hj=>h3 j aa,h4,λ j oj hj bM he hr=>?_⟩;by_cases gB:j=i
   ·subst gB;rw[ho]at bM;cases bM;rw[he]at hc;simp only[Bool.or_false,Bool.or_eq_true,Bool.not_eq_true']at hc;rcases hc with hc|hc
    ·exact h4 _ hc
    ·have:ready d o=true:=Ff.2 λ e mZ hb=>by
      rw[<-h3 e.on (by have:=bu.back j o ho e mZ hb;omega)];exact Ff.1 hr e mZ hb
     rw[this]at hc;cases hc
   ·exact h5 j oj aa bM he hr
  ·rename_i hc;simp only[Bool.or_eq_true,not_or,Bool.not_eq_true,Bool.not_eq_false']at hc;obtain⟨⟨cR,bT⟩,mR⟩:=hc
   have fin:∀v,((want all m o=some true/\qo P x s m i o=some v)∨(want all m o=some false/\v= .t []))->CJ P all x s l (i+1) (d|||2^i) (ft m o v)=some (d',m')->lO P all x d' m' s θ w0 D a w/\m'.n=m.n/\(∀j,j<i->d'.testBit j=d.testBit j)/\(∀j,d.testBit j=true->d'.testBit j=true)/\(∀(j:Nat) (o:Oper),i<=j->all[j]? =some o->km o=false->ready d' o=true->d'.testBit j=true):=by
    intro v hv h;obtain⟨h1,h2,h3,h4,h5⟩:=ih (i+1) _ _ cI (hC.more bu ho bT mR cR hv) (by rw[Db];exact bu) h;refine⟨h1,by rw[h2,Db],λ j hj=>?_,λ j hj=>h4 j ((mj d i j).2 (.inl hj)),λ j oj hj bM he hr=>?_⟩
    ·rw[h3 j aa,Bool.eq_iff_iff,mj];exact⟨λ k=>k.resolve_right aa,.inl⟩
    ·by_cases gB:j=i
     ·exact h4 j ((mj d i j).2 (.inr gB))
     ·exact h5 j oj aa bM he hr
   split at h
   ·rename_i hw;split at h
    ·rename_i v hv;exact fin v (.inl ⟨hw,hv⟩) h
    ·cases h
   ·rename_i hw;exact fin (.t []) (.inr ⟨hw,rfl⟩) h
   ·cases h
theorem Rel.free (h:Rel P θ s w0 w){N:Nat->Prop}(hN:∀y,N y->w0.N y):Rel P θ s ⟨w0.w,N⟩ w:=⟨h.below,h.bw,h.inj,h.obj,h.new,λ y hy=>h.tu y (hN y hy),h.sym⟩
theorem Rel.ajG (h:Rel P θ s w0 w){y:Nat}{l:List V1}{e:TypeId}{C:Array Value}{N:Nat->Prop}(hy:w0.N y)(hl:s.h.get y=some (.c l e))(hC:cf θ l=some C.toList)(hN:∀z,N z->w0.N z/\z≠y):
 θ.le (θ.add y w.heap.size none)/\Rel P (θ.add y w.heap.size none) s ⟨w0.w,N⟩ {w with heap:=w.heap.push (.cells C e)}:=by
 obtain⟨b1,b2,b3⟩:=h.tu y hy;have hle:=Th.VN (x:=y) (b:=w.heap.size) (c:=none) b1 b2;have lj:∀z,(θ.add y w.heap.size none).bw z=if z=y then some w.heap.size else θ.bw z:=λ z=>rfl
 have s5:∀z,(θ.add y w.heap.size none).cap z=if z=y then none else θ.cap z:=λ z=>rfl
 have hold:∀k,k<w.heap.size->(w.heap.push (Obj.cells C e))[k]? =w.heap[k]? :=λ k hk=>by rw[Co,if_neg aa]
 refine⟨hle,⟨h.below.trans ⟨rfl,rfl,rfl,aj,λ k hk=>hold k (by have:=h.below.size;omega)⟩,λ z b hz=>?_,λ z t p q b h1 h2 h3 h4=>?_,λ z p b h1 h2=>?_,λ z hz=>?_,λ z hz=>?_,h.sym⟩⟩
 ·rw[lj]at hz;show _/\b<(w.heap.push _).size;rw[Array.size_push];split at hz
  ·cases hz;have:=h.below.size;exact⟨this,aa⟩
  ·have:=h.bw z b hz;exact⟨this.1,aa⟩
 ·rw[lj]at h3 h4;by_cases ha:z=y<;>by_cases hc:t=y
  ·rw[ha,hc]
  ·rw[if_pos ha]at h3;rw[if_neg hc]at h4;cases h3;have:=h.bw t _ h4;omega
  ·rw[if_neg ha]at h3;rw[if_pos hc]at h4;cases h4;have:=h.bw z _ h3;omega
  ·rw[if_neg ha]at h3;rw[if_neg hc]at h4;exact h.inj z t p q b h1 h2 h3 h4
 ·rw[lj]at h2;by_cases ha:z=y
  ·rw[if_pos ha]at h2;cases h2;subst ha;rw[hl]at h1;cases h1;exact⟨C.toList,zU hle hC,aj⟩
  ·rw[if_neg ha]at h2;exact(h.obj z p b h1 h2).mono hle (hold b (h.bw z b h2).2)
 ·have:=h.new z hz;have aS:¬z=y:=λ k=>by omega
  rw[lj,s5,if_neg aS,if_neg aS];exact this
 ·obtain⟨dN,gX⟩:=hN z hz;have:=h.tu z dN;rw[lj,s5,if_neg gX,if_neg gX];exact this
theorem lO.slots (h:lO P all x d m s θ w0 D a w)(bu:xu all m.n){i:Nat}(ho:all[i]? =some o)(hr:∀e∈o.after,Region.binds .any e=true->D e.on)(hi:d.testBit i=true/\km o=false∨d.testBit i=false):Sl θ all o m a:=by
 intro k v hk hg
 have aV:AJ all (λ j=>D j∨j=i):=λ j oj hj bM e he hb=>by
  rcases hj with hj|rfl
  ·exact .inl (h.cl j oj hj bM e he hb)
  ·rw[ho]at bM;cases bM;exact .inl (hr e he hb)
 refine h.slot k v hg λ j oj hj bM hd=>?_;rcases bu.L_ j i oj o k bM ho hd hk with⟨h1,h2⟩|⟨h1,h2⟩|⟨h1,_⟩
 ·exact(AK aV h2 (.inr rfl)).resolve_right h1
 ·rcases hi with⟨_,h3⟩|h3
  ·rw[h1]at h3;cases h3
  ·rcases h2 with rfl|h2
   ·rw[hj]at h3;cases h3
   ·have:=AK (D:=λ i=>d.testBit i=true) h.Dd h2 hj;rw[h3]at this;cases this
 ·refine Classical.byContradiction λ hn=>?_;have:=(h.val j oj hj hn bM).1;rw[h1]at this;cases this
theorem lO.did (h:lO P all x d m s θ w0 D a w)(bu:xu all m.n){i:Nat}(ho:all[i]? =some o)(hd:d.testBit i=true)(hD:¬D i)(hr:∀e∈o.after,Region.binds .any e=true->D e.on)
 {aF:Th}{w':World}{v:V3}{V:Value}(hle:θ.le aF)(hR:Rel P aF s ⟨w0.w,λ y=>w0.N y∨∃j,j<all.size/\¬(D j∨j=i)/\y=x+j⟩ w')(hv:dQ aF v=some V)(hm:∀t,o.dst=some t->m.get t=some v):
 lO P all x d m s aF w0 (λ j=>D j∨j=i) (a.put o.dst V) w':=by
 refine⟨hR,h.far,h.lt,λ j hj=>?_,λ j oj hj bM e he hb=>?_,h.Dd,λ j oj hj qM bM=>h.val j oj hj (λ k=>qM (.inl k)) bM,λ k u hk hw=>?_,by rw[Qu];exact h.n,by rw[put_defers];exact L9 hle h.df⟩
 ·rcases hj with hj|rfl
  ·exact h.sub j hj
  ·exact hd
 ·rcases hj with hj|rfl
  ·exact .inl (h.cl j oj hj bM e he hb)
  ·rw[ho]at bM;cases bM;exact .inl (hr e he hb)
 ·by_cases bI:o.dst=some k
  ·rw[hm k bI]at hk;cases hk;refine⟨V,hv,?_⟩;have ao:=bu.fit i o k ho bI;rw[bI];simp[Act.put,ur ao h.n]
  ·obtain⟨U,hU,ha⟩:=h.slot k u hk λ j oj hj bM qN=>(hw j oj hj bM qN).resolve_right λ e=>by
    subst e;rw[ho]at bM;cases bM;exact bI qN
   refine⟨U,O6 hle hU,?_⟩
   cases AL:o.dst with
   |none=>exact ha
   |some t=>
    have aS:t≠k:=λ e=>bI (by rw[AL,e]);simp only[Act.put];rw[Gx aS];exact ha
theorem lO.quiet (h:lO P all x d m s θ w0 D a w)(bu:xu all m.n){i:Nat}(ho:all[i]? =some o)(hd:d.testBit i=true)(hD:¬D i)(hr:∀e∈o.after,Region.binds .any e=true->D e.on)
 {Q:Exit->Act->World->Prop}{k:Act->World->Prop}(hk:∀aF a' w',θ.le aF->lO P all x d m s aF w0 (λ j=>D j∨j=i) a' w'->k a' w'):wpOp P all Q i k a w:=by
 obtain⟨he,hV⟩:=h.val i o hd hD ho;have hS:=h.slots bu ho hr (.inl ⟨hd,he⟩);have hi:=(kZ.1 ho).1;have tD:∀y,(w0.N y∨∃j,j<all.size/\¬(D j∨j=i)/\y=x+j)->(w0.N y∨∃j,j<all.size/\¬D j/\y=x+j):=λ y hy=>hy.imp id λ ⟨j,h1,h2,h3⟩=>⟨j,h1,λ k=>h2 (.inl k),h3⟩;unfold wpOp;simp only[ho];rcases hV with⟨hw,v,hq,hm⟩|⟨hw,hm⟩
 ·rw[E_ hS hw,if_pos rfl];refine .inl ?_;unfold Oper.wp;unfold qo at hq;split at hq
  ·rename_i e ha
   have eo:o.op= .alloc e:=by
    unfold GH at ha;split at ha
    ·rename_i e' eo;cases ha;exact eo
    ·cases ha
   split at hq
   ·rename_i z l f hz hl;split at hq
    ·rename_i hc;obtain⟨rfl,ajH⟩:=hc
     cases hq
     have ajI:=Fe V1.sr ajH;subst ajI;obtain⟨Zv,hZ,rz⟩:=CM (θ:=θ) hz w
     have hex:(execOp a.eval o).run P w= .ok (.value (.pointer (some ⟨w.heap.size,0,none⟩))) {w with heap:=w.heap.push (.cells Zv.cells f)}:=by
      simp[execOp,eo,Instr.alloc,rz,newVar,newRow]
     rw[hex,Oper.upon_value]
     obtain⟨hle,hR⟩:=h.rel.ajG (N:=λ y=>w0.N y∨∃j,j<all.size/\¬(D j∨j=i)/\y=x+j) (.inr ⟨i,hi,hD,rfl⟩) hl (wP hZ) λ y hy=>by
      rcases hy with hy|⟨j,h1,h2,h3⟩
      ·exact⟨.inl hy,λ k=>by have:=h.far y hy;omega⟩
      ·exact⟨.inr ⟨j,h1,λ k=>h2 (.inl k),h3⟩,λ k=>h2 (.inr aa)⟩
     refine hk _ _ _ hle (h.did bu ho hd hD hr hle hR ?_ hm);show((θ.add (x+i) w.heap.size none).bw (x+i)).map _=_;rw[Th.Ab];rfl
    ·cases hq
   ·cases hq
  ·obtain⟨V,hV,hex⟩:=ajz h.rel hS hq;rw[hex,Oper.upon_value];exact hk θ _ _ (.refl θ) (h.did bu ho hd hD hr (.refl θ) (h.rel.free tD) hV hm)
 ·rw[E_ hS hw];simp only[rP,if_false];exact hk θ _ _ (.refl θ) (h.did bu ho hd hD hr (.refl θ) (h.rel.free tD) rfl hm)
end Ev
end
section
namespace Ev
open Go.RowKit Go.Lib
variable {P:Program} {K:uA} {Z θ aF:Th} {s:S} {w0:Bs} {w:World} {all:Array Oper} {m:Tm} {o:Oper} {a:Act} {x d:Nat} {D:Nat->Prop}
theorem ajJ {b:Nat}:∀(l:List Oper) (i:Nat),all.toList.drop i=l->still P all x b d m s l i=true->∀(j:Nat) (o:Oper),i<=j->all[j]? =some o->d.testBit j=true->reads o=true->b.testBit j=false->want all m o=some true->
 ∃v t,qo P x s m j o=some v/\o.dst=some t/\m.get t=some v:=by
 intro l;induction l with
 |nil=>
  intro i hl _ j o hj ho;have h1:=(kZ.1 ho).1;have h2:=congrArg List.length hl;simp at h2;omega
 |cons o l ih=>
  intro i hl h j oj hj bM h1 h2 h3 h4
  have ho:all[i]? =some o:=by
   have:=congrArg (·[0]?) hl;simpa using this
  have cI:all.toList.drop (i+1)=l:=by rw[<-List.tail_drop,hl];rfl
  rw[still,k_]at h;by_cases gB:j=i
  ·subst gB;rw[ho]at bM;cases bM;have h5:=h.1;rw[h1,h2,h3,h4]at h5;simp only[Bool.not_false,Bool.and_self,if_true]at h5;split at h5
   ·rename_i v t hv ht;split at h5
    ·rename_i u hu;exact⟨v,t,hv,ht,by rw[hu,V3.sr h5]⟩
    ·cases h5
   ·cases h5
  ·exact ih (i+1) cI h.2 j oj aa bM h1 h2 h3 h4
theorem lO.deed (h:lO P all x d m s θ w0 D a w)(bu:xu all m.n){i:Nat}(ho:all[i]? =some o)(hd:d.testBit i=false)(bY:ready d o=true)(hr:∀e∈o.after,Region.binds .any e=true->D e.on)
 {aF:Th}{w':World}{s':S}{v:V3}{V:Value}(hle:θ.le aF)(hR:Rel P aF s' ⟨w0.w,λ y=>w0.N y∨∃j,j<all.size/\¬D j/\y=x+j⟩ w')(hv:dQ aF v=some V)
 (hs:∀(j:Nat) (o:Oper),all[j]? =some o->d.testBit j=true->¬D j->want all m o=some true->reads o=true->∃v,qo P x s' m j o=some v/\∀t,o.dst=some t->m.get t=some v):
 lO P all x (d|||2^i) (ft m o v) s' aF w0 (λ j=>D j∨j=i) (a.put o.dst V) w':=by
 refine⟨hR.free λ y hy=>?_,h.far,λ j hj=>?_,λ j hj=>?_,λ j oj hj bM e mZ hb=>?_,λ j oj hj bM e mZ hb=>?_,λ j oj hj qM bM=>?_,λ k u hk hw=>?_,by rw[Qu,Db];exact h.n,by rw[put_defers,Qt];exact L9 hle h.df⟩
 ·exact hy.imp id λ ⟨j,h1,h2,h3⟩=>⟨j,h1,λ k=>h2 (.inl k),h3⟩
 ·rcases(mj d i j).1 hj with hj|rfl
  ·exact h.lt j hj
  ·exact(kZ.1 ho).1
 ·exact(mj d i j).2 (hj.imp (h.sub j) id)
 ·rcases hj with hj|rfl
  ·exact .inl (h.cl j oj hj bM e mZ hb)
  ·rw[ho]at bM;cases bM;exact .inl (hr e mZ hb)
 ·rcases(mj d i j).1 hj with hj|rfl
  ·exact(mj _ _ _).2 (.inl (h.Dd j oj hj bM e mZ hb))
  ·rw[ho]at bM;cases bM;exact(mj _ _ _).2 (.inl (Ff.1 bY e mZ hb))
 ·have aS:j≠i:=λ e=>qM (.inr e);have hj:=((mj d i j).1 hj).resolve_right aS;have qM:¬D j:=λ e=>qM (.inl e);obtain⟨h1,h2⟩:=h.val j oj hj qM bM;refine⟨h1,Dc.put ?_ (λ k hk jJ=>?_) λ k hk bI=>aS (bu.XI i j o oj k ho bM hk bI).symm⟩
  ·rcases h2 with⟨hw,u,hu,ht⟩|h2
   ·cases uV:reads oj with
    |true=>
     obtain⟨v2,h3,h4⟩:=hs j oj bM hj qM hw uV;exact .inl ⟨hw,v2,h3,h4⟩
    |false=>exact .inl ⟨hw,u,by rw[<-ajE (P:=P) (s:=s) uV];exact hu,ht⟩
   ·exact .inr h2
  ·rcases bu.L_ i j o oj k ho bM hk jJ with⟨_,hb⟩|⟨hb,_⟩|⟨_,hb⟩
   ·have:=AK (D:=λ i=>d.testBit i=true) h.Dd hb hj;rw[hd]at this;cases this
   ·rw[h1]at hb;cases hb
   ·refine qM ((AK (D:=λ j=>D j∨j=i) (λ q oq hq QD e he Mc=>?_) hb (.inr rfl)).resolve_right aS);rcases hq with hq|rfl
    ·exact .inl (h.cl q oq hq QD e he Mc)
    ·rw[ho]at QD;cases QD;exact .inl (hr e he Mc)
 ·by_cases bI:o.dst=some k
  ·rw[QC bI]at hk;cases hk;refine⟨V,hv,?_⟩;have ao:=bu.fit i o k ho bI;rw[bI];simp[Act.put,ur ao h.n]
  ·rw[Ie bI]at hk
   obtain⟨U,hU,ha⟩:=h.slot k u hk λ j oj hj bM qN=>(hw j oj ((mj d i j).2 (.inl hj)) bM qN).resolve_right λ e=>by
    subst e;rw[ho]at bM;cases bM;exact bI qN
   refine⟨U,O6 hle hU,?_⟩
   cases AL:o.dst with
   |none=>exact ha
   |some t=>
    have aS:t≠k:=λ e=>bI (by rw[AL,e]);simp only[Act.put];rw[Gx aS];exact ha
theorem ajK {l:Array Bool}(bu:xu all m.n)(hl:l.size=all.size)(h:Region.ready .any all l=[]):∀i,i<all.size->o4 l i:=by
 intro i;induction i using Nat.strongRecOn with
 |_ i ih=>
  intro hi;refine Classical.byContradiction λ hn=>?_;have cP:i<l.size:=aa
  have hb:l[i]=false:=by
   have:¬l.getD i false=true:=hn;rw[wH,wK cP]at this;simpa using this
  have ho:all[i]? =some all[i]:=wK hi
  have:i∈Region.ready .any all l:=mem_ready.2 ⟨by rw[wH,wK cP,hb];rfl,_,ho,λ e he il=>by
   have h1:=bu.back i _ ho e he il;exact ih e.on h1 aa⟩
  rw[h]at this;cases this
theorem ajL {l:Array Bool}{i:Nat}(hi:i<l.size):o4 (l.setIfInBounds i true)=λ j=>o4 l j∨j=i:=by
 funext j;apply propext;unfold o4;by_cases h:j=i
 ·subst h;simp[hi]
 ·rw[getD_set_ne false (λ e=>h e.symm)];simp[h]
theorem ajM {l:Array Bool}{i:Nat}(hi:i<l.size)(hb:l.getD i true=false):(l.setIfInBounds i true).toList.count false+1=l.toList.count false:=by
 have hb:l[i]=false:=by
  rw[wH,wK hi]at hb;exact hb
 rw[yc,List.count_set (by simpa using hi)];have:0<l.toList.count false:=List.count_pos_iff.2 (by rw[<-hb];simp);simp only[Array.getElem_toList,hb];show(List.count false l.toList-1)+0+1=List.count false l.toList;omega
theorem ajN {r:Do->Bool}(hr:∀d,r d=true->Good P Z d)(hP:Plain P){es:List Nat}{k:Tm->S->Bool}
 (h:(match es with
  |[]=>(List.range all.size).all (λ i=>d.testBit i)&&k m s
  |i::es=>match all[i]? with
   |none=>false
   |some o=>km o&&!d.testBit i&&ready d o&&match want all m o with
    |some true=>exec P r m s o λ v s=>still P all x (((oN all.toList [])[i]?).getD 0) d m s all.toList 0&&r (.zS all es x (d|||2^i) (ft m o v) s k)
    |some false=>r (.zS all es x (d|||2^i) (ft m o (.t [])) s k)
    |none=>false)=true)(bu:xu all m.n)(ajO:∀(j:Nat) (o:Oper),all[j]? =some o->km o=false->ready d o=true->d.testBit j=true):
 ∀(f:Nat) (θ:Th) (w:World) (a:Act) (Q:Exit->Act->World->Prop) (l:Array Bool),Z.le θ->l.size=all.size->l.toList.count false<=f->lO P all x d m s θ w0 (o4 l) a w->
  (∀m' s' aF a' w',k m' s'=true->θ.le aF->Rel P aF s' w0 w'->o3 aF m' a'->Q .normal a' w')->wpAny P .any all Q f l a w:=by
 have fin:∀(θ:Th) (w:World) (a:Act) (Q:Exit->Act->World->Prop) (l:Array Bool),lO P all x d m s θ w0 (o4 l) a w->(∀i,i<all.size->o4 l i)->
  (∀m' s' aF a' w',k m' s'=true->θ.le aF->Rel P aF s' w0 w'->o3 aF m' a'->Q .normal a' w')->Q .normal a w:=by
  intro θ w a Q l hC fP hk
  cases es with
  |cons i es=>
   dsimp only at h;split at h
   ·cases h
   ·rename_i o ho;simp only[k_]at h;have h2:=hC.sub i (fP i (kZ.1 ho).1);rw[h2]at h;simp at h
  |nil=>
   rw[k_]at h;exact hk m s θ a w h.2 (.refl θ) (hC.rel.free λ y hy=>.inl hy) ⟨λ k v Ig=>hC.slot k v Ig λ i o hi ho _=>fP i (kZ.1 ho).1,hC.n,hC.df⟩
 intro f;induction f with
 |zero=>
  intro θ w a Q l hZ hl hc hC hk
  have fP:∀i,i<all.size->o4 l i:=λ i hi=>by
   have cP:i<l.size:=aa;unfold o4;rw[wH,wK cP,ye]
   cases hb:l[i]with
   |true=>rfl
   |false=>
    have:0<l.toList.count false:=List.count_pos_iff.2 (by rw[<-hb];simp);omega
  refine⟨?_,fin θ w a Q l hC fP hk⟩
  cases hr:Region.ready .any all l with
  |nil=>rfl
  |cons i is=>
   have hi:i∈Region.ready .any all l:=by rw[hr];simp
   obtain⟨h1,o,ho,_⟩:=mem_ready.1 hi;have h2:=fP i (kZ.1 ho).1;unfold o4 at h2;have cP:i<l.size:=by rw[hl];exact(kZ.1 ho).1
   rw[wH,wK cP]at h1 h2;simp only[ye]at h1 h2;rw[h1]at h2;cases h2
 |succ f ih=>
  intro θ w a Q l hZ hl hc hC hk;refine⟨λ h0=>fin θ w a Q l hC (ajK bu hl h0) hk,λ i hi=>?_⟩;obtain⟨h1,o,ho,uV⟩:=mem_ready.1 hi;have cP:i<l.size:=by rw[hl];exact(kZ.1 ho).1
  have hD:¬o4 l i:=λ k=>by
   unfold o4 at k;rw[wH,wK cP]at h1 k;simp only[ye]at h1 k;rw[h1]at k;cases k
  have auh:=ajM cP h1;have QE:=ajL cP;have aG:(l.setIfInBounds i true).size=all.size:=by rw[Array.size_setIfInBounds];exact hl
  cases hd:d.testBit i with
  |true=>
   refine hC.quiet bu ho hd hD uV λ aF a' w' hle ajP=>?_;exact ih aF w' a' Q _ (hZ.trans hle) aG aa (by rw[QE];exact ajP) λ m' s' Ih a2 w2 h3 h4 h5 h6=>hk _ _ _ _ _ h3 (hle.trans h4) h5 h6
  |false=>
   have aV:AJ all (λ j=>o4 l j∨j=i):=λ j oj hj bM e he hb=>by
    rcases hj with hj|rfl
    ·exact .inl (hC.cl j oj hj bM e he hb)
    ·rw[ho]at bM;cases bM;exact .inl (uV e he hb)
   have mZ:km o=true:=by
    cases mZ:km o with
    |true=>rfl
    |false=>
     have:=ajO i o ho mZ (Ff.2 λ e he hb=>hC.sub _ (uV e he hb));rw[hd]at this;cases this
   cases es with
   |nil=>
    rw[k_,nF]at h;have:=h.1 i (List.mem_range.2 (kZ.1 ho).1);rw[hd]at this;cases this
   |cons i2 es=>
    dsimp only at h;split at h
    ·cases h
    ·rename_i o2 dI;simp only[k_,Bool.not_eq_true']at h;obtain⟨⟨⟨g1,g2⟩,g3⟩,g4⟩:=h
     have ajQ:i2=i:=by
      rcases bu.ajl i2 i o2 o dI ho g1 mZ with h5|h5|h5
      ·exact h5
      ·have ajR:AJ all (λ j=>d.testBit j=true∨j=i2):=λ j oj hj bM e he hb=>by
        rcases hj with hj|rfl
        ·exact .inl (hC.Dd j oj hj bM e he hb)
        ·rw[dI]at bM;cases bM;exact .inl (Ff.1 g3 e he hb)
       rcases AK ajR h5 (.inr rfl)with h6|h6
       ·rw[hd]at h6;cases h6
       ·exact h6.symm
      ·rcases AK aV h5 (.inr rfl)with h6|h6
       ·have:=hC.sub _ h6;rw[g2]at this;cases this
       ·exact h6
     subst ajQ;rw[ho]at dI;cases dI;have hS:=hC.slots bu ho uV (.inr hd);unfold wpOp;simp only[ho];split at g4
     ·rename_i hw;rw[E_ hS hw,if_pos rfl];refine .inl (ajA hr hP hZ hC.rel hS g4 λ v s' aF V w' h5 h6 h7 h8=>?_);rw[k_]at h5;have hG:=hr _ h5.2;refine hG aF w0 w' _ Q _ f (hZ.trans h6) (by rw[Db];exact bu) aG aa ?_ λ m' s' Ih a2 w2 h3 h4 h5 h9=>hk _ _ _ _ _ h3 (h6.trans h4) h5 h9;rw[QE];refine hC.deed bu ho hd g3 uV h6 h8 h7 λ j oj bM qN qM QF XS=>?_
      have AM:(((oN all.toList [])[i2]?).getD 0).testBit j=false:=by
       cases hb:(((oN all.toList [])[i2]?).getD 0).testBit j with
       |false=>rfl
       |true=>
        rcases AK aV hb (.inr rfl)with h9|h9
        ·exact absurd h9 qM
        ·rw[h9,hd]at qN;cases qN
      obtain⟨v2,t,h9,xv,QG⟩:=ajJ all.toList 0 rfl h5.1 j oj (gV _) bM qN XS AM QF;exact⟨v2,h9,λ t' E'=>by rw[xv]at E';cases E';exact QG⟩
     ·rename_i hw;rw[E_ hS hw];simp only[rP,if_false];have hG:=hr _ g4;refine hG θ w0 w _ Q _ f hZ (by rw[Db];exact bu) aG aa ?_ hk;rw[QE];refine hC.deed bu ho hd g3 uV (.refl θ) hC.rel rfl λ j oj bM qN qM QF XS=>?_;obtain⟨_,h9⟩:=hC.val j oj qN qM bM;rcases h9 with⟨_,v,xv,QG⟩|⟨h9,_⟩
      ·exact⟨v,xv,QG⟩
      ·rw[QF]at h9;cases h9
     ·cases g4
end Ev
end
section
namespace Ev
open Go.RowKit Go.Lib
variable {P:Program} {K:uA} {Z θ aF:Th} {s:S} {w0:Bs} {w:World}
theorem ajS:∀(l:List V2) (i:Nat) (m:Tm) (j:Nat),(args l i m).get j=if i<=j/\j<i+l.length then(l[j-i]?).map .v else m.get j:=by
 intro l;induction l with
 |nil=>intro i m j;rw[if_neg (by rintro⟨h1,h2⟩;simp at h2;omega)];rfl
 |cons v l ih=>
  intro i m j;show(args l (i+1) (m.set i (.v v))).get j=_;rw[ih];by_cases h:i+1<=j/\j<i+1+l.length
  ·rw[if_pos h,if_pos (by simp only[aU];omega),show j-i=(j-(i+1))+1 by omega,eF]
  ·rw[if_neg h,show(m.set i (.v v)).get j=_ from T.tt _ _ _ _];by_cases hj:j=i
   ·subst hj;rw[if_pos rfl,if_pos aj];simp
   ·rw[if_neg hj,if_neg (by simp only[aU];omega)];rfl
theorem XT:∀(l:List V2) (i:Nat) (m:Tm),(args l i m).n=m.n/\(args l i m).d=m.d:=by
 intro l;induction l with
 |nil=>intro i m;exact⟨rfl,rfl⟩
 |cons v l ih=>intro i m;exact ih (i+1) (m.set i (.v v))
theorem XU {l:List V2}{A:List Value}{n:Nat}(h:ew θ l=some A):o3 θ (args l 0 {t:=.e,n:=n,d:=[]}) {tmps:=A.toArray++Array.replicate (n-A.toArray.size) undef,defers:=[]}:=by
 have hl:=Vu h;refine⟨λ k v hk=>?_,?_,by rw[(XT _ _ _).2];rfl⟩
 ·rw[ajS]at hk;split at hk
  ·rename_i hc;obtain⟨u,hu,rfl⟩:=bp.1 hk;obtain⟨V,h1,h2⟩:=Vv h hu;refine⟨V,h1,?_⟩;rw[Nat.sub_zero]at h2;rw[GA (by simp;omega),gW];exact h2
  ·cases hk
 ·rw[(XT _ _ _).1];simp;omega
def rv (tm:Array Value):ResultVar->Sem Value
 | .tmp t=>pure (tm.getD t undef)
 | .cell a t=>do loadVar t (<-asAddr (tm.getD a undef))
theorem ajT (hR:Rel P θ s w0 w){m:Tm}{tm:Array Value}(hT:lG θ m tm):∀{rs:List ResultVar} {l},results P m s rs=some l->
 ∃L,ew θ l=some L/\(rs.mapM (rv tm)).run P w= .ok L w:=by
 intro rs;induction rs with
 |nil=>intro l h;cases h;exact⟨[],rfl,rfl⟩
 |cons r rs ih=>
  intro l h
  have g_:∀{k v},m.get k=some v->∃V,dQ θ v=some V/\tm.getD k undef=V:=λ hk=>by
   obtain⟨V,h1,h2⟩:=hT _ _ hk;exact⟨V,h1,by rw[wH,h2];rfl⟩
  cases r with
  |tmp t=>
   simp only[results]at h;split at h
   ·rename_i v r hv hr
    cases h
    obtain⟨V,h1,h2⟩:=g_ hv;obtain⟨L,h3,h4⟩:=ih hr;refine⟨V::L,by rw[ew];rw[show cX θ v=some V from h1,h3];rfl,?_⟩;rw[Cl];simp only[rv,dZ,Sem.run_pure,Result.andThen_ok,h2,h4]
   ·cases h
  |cell q t=>
   simp only[results]at h;split at h
   ·rename_i x o r hv hr;obtain⟨u,hu,rfl⟩:=bp.1 h;obtain⟨V,h1,h2⟩:=g_ hv;obtain⟨b,hb,rfl⟩:=tx (show br θ (.p x o)=some V from h1);obtain⟨U,hU,hl⟩:=Vt hR hu hb;obtain⟨L,h3,h4⟩:=ih hr;refine⟨U::L,by rw[ew,hU,h3];rfl,?_⟩;rw[Cl];simp only[rv,dZ,Sem.run_pure,Result.andThen_ok,h2,h4,asAddr,hl]
   ·cases h
theorem ajU:∀(l:List Oper) (x:Nat) (h:T O) {h':T O},pre P l x h=some h'->∀y,y<x∨x+l.length<=y->h'.get y=h.get y:=by
 intro l;induction l with
 |nil=>intro x h h' e y _;cases e;rfl
 |cons o l ih=>
  intro x h h' e y hy;simp only[aU]at hy;rw[pre]at e;split at e
  ·split at e
   ·rw[ih _ _ e y aa,T.tt,if_neg aa]
   ·cases e
  ·exact ih _ _ e y aa
theorem ajV (HK:Qw P K Z)(hP:Plain P)(hm:P.follows .mixedOrders=true){r:Do->Bool}(hr:∀d,r d=true->Good P Z d):∀d,step P K r d=true->Good P Z d:=by
 intro d h;unfold step at h;split at h
 ·intro θ w0 w a Q hZ hR hT hk;exact wp_skip (hk .n _ _ _ _ _ h (.refl θ) hR hT)
 ·intro θ w0 w a Q hZ hR hT hk;exact wp_label (hk .n _ _ _ _ _ h (.refl θ) hR hT)
 ·intro θ w0 w a Q hZ hR hT hk;refine wp_seq (yP (hr _ h θ w0 w a _ hZ hR hT λ e m' s' aF a' w' h1 h2 h3 h4=>?_))
  cases e with
  |n=>exact yP (hr _ h1 aF w0 w' a' _ (hZ.trans h2) h3 h4 λ e m2 s2 Ih a2 w2 g1 g2 g3 g4=>hk _ _ _ _ _ _ g1 (h2.trans g2) g3 g4)
  |x i=>exact hk _ _ _ _ _ _ h1 h2 h3 h4
  |r=>exact hk _ _ _ _ _ _ h1 h2 h3 h4
 ·intro θ w0 w a Q hZ hR hT hk;split at h
  ·rename_i hc;exact wp_cond_true (cG (dR hT.t hc)).symm (yP (hr _ h θ w0 w a Q hZ hR hT hk))
  ·rename_i hc;exact wp_cond_false (cG (dR hT.t hc)).symm (yP (hr _ h θ w0 w a Q hZ hR hT hk))
  ·cases h
 ·intro θ w0 w a Q hZ hR hT hk;rename_i i c m s k;refine wp_block (yP (hr _ h θ w0 w a _ hZ hR hT λ e m' s' aF a' w' h1 h2 h3 h4=>?_))
  cases e with
  |n=>exact hk _ _ _ _ _ _ h1 h2 h3 h4
  |x j=>
   show if j=i then _ else _
   dsimp only at h1;split at h1
   ·rename_i e;rw[if_pos e];exact hk _ _ _ _ _ _ h1 h2 h3 h4
   ·rename_i e;rw[if_neg e];exact hk _ _ _ _ _ _ h1 h2 h3 h4
  |r=>exact hk _ _ _ _ _ _ h1 h2 h3 h4
 ·intro θ w0 w a Q hZ hR hT hk;refine ajf (yP (hr _ h θ w0 w a _ hZ hR hT λ e m' s' aF a' w' h1 h2 h3 h4=>?_))
  cases e with
  |n=>exact hr _ h1 aF w0 w' a' _ (hZ.trans h2) h3 h4 λ e m2 s2 Ih a2 w2 g1 g2 g3 g4=>hk _ _ _ _ _ _ g1 (h2.trans g2) g3 g4
  |x i=>exact hk _ _ _ _ _ _ h1 h2 h3 h4
  |r=>exact hk _ _ _ _ _ _ h1 h2 h3 h4
 ·intro θ w0 w a Q hZ hR hT hk;refine wp_scope_straight (yP (hr _ h θ w0 w a _ hZ hR hT λ e m' s' aF a' w' h1 h2 h3 h4=>?_))
  cases e<;>exact hk _ _ _ _ _ _ h1 h2 h3 h4
 ·intro θ w0 w a Q hZ hR hT hk;exact wp_exit (hk (.x _) _ _ _ _ _ h (.refl θ) hR hT)
 ·intro θ w0 w a Q hZ hR hT hk;exact wp_ret (hk .r _ _ _ _ _ h (.refl θ) hR hT)
 ·intro θ w0 w a Q hZ hR hT hk;rename_i ops m s k;have:=hr _ h 0 θ w0 w a Q rfl hZ hR hT λ m' s' aF a' w' h1 h2 h3 h4=>hk .n _ _ _ _ _ h1 h2 h3 h4;refine wp_region ?_;rw[List.range_eq_range'];simpa using this
 ·intro θ w0 w a Q hZ hR hT hk;rename_i ops m s k;split at h
  ·cases h
  ·rename_i hc;simp only[Bool.not_eq_true',Bool.not_eq_false,k_]at hc;split at h
   ·rename_i h' yI;have bu:=ajD hc.1 hc.2;have qw:=ajU _ _ _ yI;simp only[Array.length_toList]at qw
    have XV:∀i,¬o4 (Array.replicate ops.size false) i:=λ i hi=>by
     unfold o4 at hi;rw[wH]at hi;by_cases ao:i<ops.size
     ·rw[Array.getElem?_replicate,if_pos ao]at hi;cases hi
     ·rw[Array.getElem?_replicate,if_neg ao]at hi;cases hi
    refine wp_region_any hm (hr _ h θ w0 _ a Q _ _ hZ bu aj aj ⟨?_,λ y hy=>(hR.tu y hy).2.2,λ i hi=>?_,λ i hi=>absurd hi (XV i),λ i o hi=>absurd hi (XV i),λ i o hi=>?_,λ i o hi=>?_,λ k v Ig _=>hT.t k v Ig,hT.n,hT.d⟩ λ m' s' aF a' w' h1 h2 h3 h4=>hk .n _ _ _ _ _ h1 h2 h3 h4)
    ·have hw:Rel P θ s w0 {w with drawn:=w.drawn+1}:=hR.drew rfl rfl rfl rfl;have old:∀y b,θ.bw y=some b->h'.get y=s.h.get y:=λ y b hy=>qw y (.inl (Nat.lt_of_not_le λ hc=>by rw[(hR.new y hc).1]at hy;cases hy));refine⟨hw.below,hw.bw,λ y z p q b h1 h2 h3 h4=>?_,λ y q b h1 h2=>?_,λ y hy=>?_,λ y hy=>?_,λ k hk=>hR.sym k (by have:16*(s.n+ops.size+1)<=k:=hk;omega)⟩
     ·exact hw.inj y z p q b (by rw[<-old y b h3];exact h1) (by rw[<-old z b h4];exact h2) h3 h4
     ·exact hw.obj y q b (by rw[<-old y b h2];exact h1) h2
     ·have hy:s.n+ops.size<=y:=hy;have:=hR.new y aa;exact⟨this.1,this.2.1,by show h'.get y=none;rw[qw y (.inr hy)];exact this.2.2⟩
     ·rcases hy with hy|⟨i,h1,_,rfl⟩
      ·have:=hR.tu y hy;exact⟨this.1,this.2.1,by show y<s.n+ops.size;omega⟩
      ·have:=hR.new (s.n+i) aa;exact⟨this.1,this.2.1,by show _<s.n+ops.size;omega⟩
    ·simp at hi
    ·simp at hi
    ·simp at hi
   ·cases h
 ·cases h
 ·intro i θ w0 w a Q hl hZ hR hT hk;exact hk _ _ _ _ _ h (.refl θ) hR hT
 ·intro i θ w0 w a Q hl hZ hR hT hk;rename_i all o l m s k;rw[k_]at h;obtain⟨hf,h⟩:=h
  have ho:all[i]? =some o:=by
   have:=congrArg (·[0]?) hl;simpa using this
  have cI:all.toList.drop (i+1)=l:=by rw[<-List.tail_drop,hl];rfl
  have hS:Sl θ all o m a:=λ k v _ Ig=>hT.t k v Ig;rw[aU,List.range'_succ];simp only[wpOps,ho]
  have QH:∀(m1:Tm) (s1:S) (Ii:Th) (a1:Act) (w1:World),r (.ops all l m1 s1 k)=true->θ.le Ii->Rel P Ii s1 w0 w1->o3 Ii m1 a1->wpOps P all Q (List.range' (i+1) l.length) a1 w1:=λ m1 s1 Ii a1 w1 g1 g2 g3 g4=>
   hr _ g1 (i+1) Ii w0 w1 a1 Q cI (hZ.trans g2) g3 g4 λ m' s' aF a' w' h1 h2 h3 h4=>hk _ _ _ _ _ h1 (g2.trans h2) h3 h4
  split at h
  ·rename_i hw;rw[E_ hS hw,if_pos rfl];refine .inl ?_;split at h
   ·rename_i d hd;unfold deferred at hd;split at hd
    ·rename_i f iC eo;split at hd
     ·rename_i g cl Qx
      cases hd
      obtain⟨L,hL,hv⟩:=VH (dR hT.t Qx);unfold Oper.wp;rw[show(execOp a.eval o).run P w= .ok (.defer {target:=.fn (.func g) L.toArray,args:=#[]}) w by simp[execOp,eo,resolve,hv,Deferred.ofValue],Oper.upon_defer];refine QH _ _ θ _ _ h (.refl θ) hR (o3.put (m:={m with d:=(g,cl)::m.d}) (a:={a with defers:=_::a.defers}) ⟨hT.t,hT.n,?_⟩ hf rfl);simp[yO,hL,hT.d]
     ·cases hd
    ·cases hd
   ·exact XM hr hP hZ hR hT.t h λ v s' aF V w' h5 h6 h7 h8=>QH _ _ _ _ _ h5 h6 h8 ((hT.mono h6).put hf h7)
  ·rename_i hw;rw[E_ hS hw];simp only[rP,if_false];exact QH _ _ θ _ _ h (.refl θ) hR (hT.put hf rfl)
  ·cases h
 ·rename_i all es x d m s k;split at h
  ·cases h
  ·rename_i d' m' Md;intro θ w0 w a Q l f hZ bu hl hc hC hk;obtain⟨h1,h2,h3,h4,h5⟩:=ajF all.toList 0 d m rfl hC bu Md;exact ajN hr hP h (by rw[h2];exact bu) (λ j o hj he uV=>h5 j o (gV _) hj he uV) f θ w a Q l hZ hl hc h1 hk
 ·rename_i f ar s k;split at h
  ·rename_i v s' hK;obtain⟨hB,hC⟩:=HK f ar s v s' hK;refine⟨hB,λ θ w0 w A R hZ hR hA hk=>(hC θ w0 w A hZ hR hA).mono ?_⟩;rintro e w' ⟨aF,V,rfl,h1,h2,h3⟩;exact hk _ _ _ _ _ h h1 h2 h3
  ·split at h
   ·rename_i fn yH;rw[XF]at yH;split at h
    ·rename_i c hb;refine⟨⟨fn,c,yH,hb⟩,λ θ w0 w A R hZ hR hA hk=>calls_of_wp_defers yH hb (yP (hr _ h θ w0 w _ _ hZ hR (XU hA) λ e m' s' aF a' w' h1 h2 h3 h4=>?_))⟩
     have lv:r (.leave m'.d m' s' fn.results.toList k)=true->Leaves P fn a'.tmps R a'.defers .returning w':=λ g=>
      hr _ g aF w0 w' a'.tmps a'.defers fn R (hZ.trans h2) h3 h4.t h4.d rfl λ v s2 Ih V w2 g1 g2 g3 g4=>hk _ _ _ _ _ g1 (h2.trans g2) g3 g4
     cases e with
     |n=>exact lv h1
     |x i=>cases h1
     |r=>exact lv h1
    ·cases h
   ·cases h
 ·intro θ w0 w tm D fn R hZ hR hT hD qO hk;rename_i m s rs k
  cases hD
  have fin:∀l,results P m s rs=some l->∃L,ew θ l=some L/\(Go.results fn tm).run P w= .ok (if h:L.toArray.size=1 then L.toArray[0]else .tuple L.toArray) w:=λ l hl=>by
   obtain⟨L,h1,h2⟩:=ajT hR hT hl;rw[<-qO]at h2;refine⟨L,h1,?_⟩
   have e1:Go.results fn tm=(do let vs<-fn.results.mapM (rv tm);pure (if h:vs.size=1 then vs[0]else .tuple vs)):=by
    unfold Go.results;congr 2
   rw[e1,Array.mapM_eq_mapM_toList];simp only[dZ,Sem.run_map,h2,Result.andThen_ok,Sem.run_pure]
  split at h
  ·rename_i v hl;obtain⟨L,h1,h2⟩:=fin _ hl;simp only[ew]at h1;obtain⟨V,hV,h1⟩:=dq.1 h1
   cases h1
   exact⟨V,h2,hk _ _ _ _ _ h (.refl θ) hV hR⟩
  ·rename_i l aS hl;obtain⟨L,h1,h2⟩:=fin _ hl;have hlen:=Vu h1
   have h3:¬L.toArray.size=1:=λ e=>by
    cases l with
    |nil=>simp at hlen;rw[hlen]at e;cases e
    |cons v l=>cases l with
     |nil=>exact aS v rfl
     |cons _ _=>simp at hlen e;omega
   rw[dif_neg h3]at h2;exact⟨_,h2,hk _ _ _ _ _ h (.refl θ) (by simp[dQ,h1]) hR⟩
  ·cases h
 ·intro θ w0 w tm D fn R hZ hR hT hD qO hk;rename_i g l ds m s rs k;split at h
  ·rename_i fg QI;rw[XF]at QI;split at h
   ·rename_i c hb;simp only[yO]at hD;obtain⟨L,hL,hD⟩:=dq.1 hD;obtain⟨D',ajW,rfl⟩:=bp.1 hD;refine⟨nofun,.func g,L.toArray,g,L.toArray,rfl,?_,?_⟩
    ·simp[invoke,XG hP ⟨fg,c,QI,hb⟩]
    ·refine(callsD_of_wp (R:=λ e w'=>match e with
      | .returned _=>Leaves P fn tm R D' .returning w'
      |_=>False) QI hb (yP (hr _ h θ w0 w _ _ hZ hR (XU (XJ hL)) λ e m' s' aF a' w' h1 h2 h3 h4=>?_))).mono ?_
     ·have lv:(m'.d.isEmpty&&fg.results.isEmpty&&r (.leave ds m s' rs k))=true->a'.defers=[]/\∃v,(Go.results fg a'.tmps).run P w'= .ok v w'/\Leaves P fn tm R D' .returning w':=λ g=>by
       simp only[k_]at g;obtain⟨⟨g1,g2⟩,g3⟩:=g;have e1:m'.d=[]:=List.isEmpty_iff.1 g1;have e2:fg.results=#[]:=Array.isEmpty_iff.1 g2;have h5:=h4.d;rw[e1]at h5;refine⟨(cG h5).symm,.tuple #[],by simp[Go.results,e2],?_⟩;exact hr _ g3 aF w0 w' tm D' fn R (hZ.trans h2) h3 (hT.mono h2) (L9 h2 ajW) qO λ v s2 Ih V w2 k1 k2 k3 k4=>hk _ _ _ _ _ k1 (h2.trans k2) k3 k4
      cases e with
      |n=>exact lv h1
      |x i=>cases h1
      |r=>exact lv h1
     ·rintro e u' w' ⟨rfl,he⟩
      cases e with
      |returned v=>exact he
      |panicked _=>exact he.elim
      |outgrown=>exact he.elim
   ·cases h
  ·cases h
theorem ajX (HK:Qw P K Z)(hP:Plain P)(hm:P.follows .mixedOrders=true):∀n d,run P K n d=true->Good P Z d:=by
 intro n;induction n with
 |zero=>intro d h;cases h
 |succ n ih=>intro d h;exact ajV HK hP hm ih d h
end Ev
