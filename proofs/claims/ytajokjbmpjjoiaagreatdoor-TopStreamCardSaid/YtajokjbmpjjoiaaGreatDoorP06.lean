import Derived.Test.YtajokjbmpjjoiaaGreatDoorP01
import Derived.Deep.RegionHeld3
set_option maxRecDepth 20000
set_option maxHeartbeats 0
namespace Go.Proofs.YtajokjbmpjjoiaaGreatDoor
section
open Go.RowKit
section
variable {P:Program} {ops:Array Oper} {Q:Exit->Act->World->Prop} {md:Region.Mode} {T:World->Prop} {k:Nat}
def tI (P:Program)(md:Region.Mode)(ops:Array Oper)(Q:Exit->Act->World->Prop)(T:World->Prop)(k:Nat):Nat->Array Bool->Act->World->Prop
 |0,ls,a,w=>Region.ready md ops ls=[]/\Q .normal a w
 |n+1,ls,a,w=>(Region.ready md ops ls=[]->Q .normal a w)/\∀i∈Region.ready md ops ls,wpOp P ops Q i (λ a' w'=>((ls.setIfInBounds i true).getD k true=false->T w')/\tI P md ops Q T k n (ls.setIfInBounds i true) a' w') a w
theorem Xp:∀(n:Nat) (ls:Array Bool) (a:Act) (w:World),tI P md ops Q T k n ls a w->wpAny P md ops Q n ls a w
 |0,_,_,_,h=>h
 |n+1,_,_,_,h=>⟨h.1,λ i hi=>wpOp_mono (λ a' w' h'=>Xp n _ a' w' h'.2) (h.2 i hi)⟩
def aiX (P:Program)(md:Region.Mode)(ops:Array Oper)(T:World->Prop)(k i:Nat)(oi:Oper)(v:Value)(a:Act):Prop:=
 YieldsIf P ops (λ _=>True) oi v a∨(YieldsIf P ops T oi v a/\∃ok,ops[k]? =some ok/\∃e∈ok.after,Region.binds md e=true/\e.on=i)
theorem yK (ls:Array Bool){i k:Nat}(h:i≠k):(ls.setIfInBounds i true).getD k true=ls.getD k true:=by
 simp only[wH];rw[Gx h]
theorem Xq {i:Nat}{oi:Oper}{v:Value}(hi:ops[i]? =some oi)(E7:∀(j:Nat) (o:Oper) cs b,ops[j]? =some o->o.op≠.select cs b)
 (hQ:∀c a w,Q (.panic c) (a.put oi.dst v) w->Q (.panic c) a w)(oT:i≠k):
 ∀(n:Nat) (ls:Array Bool) (a:Act) (w:World),
  (∀j oj,ops[j]? =some oj->j≠i->ls.getD j true=false->(∀e∈oj.after,Region.binds md e=true->e.on≠i)->oi.apart ops oj=true)->
  i∈Region.ready md ops ls->aiX P md ops T k i oi v a->(ls.getD k true=false->T w)->(YieldsIf P ops (λ _=>True) oi v a∨ls.getD k true=false)->
  tI P md ops Q T k n (ls.setIfInBounds i true) (a.put oi.dst v) w->tI P md ops Q T k (n+1) ls a w:=by
 intro n;induction n with
 |zero=>
  intro ls a w _ hr hy hT hk H;refine⟨λ h=>(by rw[h]at hr;cases hr),λ j hj=>?_⟩;by_cases kP:j=i
  ·subst kP;rcases hy with hy|⟨hy,_⟩
   ·exact hy.wpOp hi trivial ⟨λ h=>hT (by rwa [yK _ oT]at h),H⟩
   ·rcases hk with hk|hk
    ·exact hk.wpOp hi trivial ⟨λ h=>hT (by rwa [yK _ oT]at h),H⟩
    ·exact hy.wpOp hi (hT hk) ⟨λ _=>hT hk,H⟩
  ·have:=ready_mono hj kP;rw[H.1]at this
   cases this
 |succ n ih=>
  intro ls a w tD hr hy hT hk H;refine⟨λ h=>(by rw[h]at hr;cases hr),λ j hj=>?_⟩;by_cases kP:j=i
  ·subst kP;rcases hy with hy|⟨hy,_⟩
   ·exact hy.wpOp hi trivial ⟨λ h=>hT (by rwa [yK _ oT]at h),H⟩
   ·rcases hk with hk|hk
    ·exact hk.wpOp hi trivial ⟨λ h=>hT (by rwa [yK _ oT]at h),H⟩
    ·exact hy.wpOp hi (hT hk) ⟨λ _=>hT hk,H⟩
  ·have h1:=H.2 j (ready_mono hj kP);obtain⟨LY,oj,bM,fP⟩:=mem_ready.1 hj
   have LZ:∀e∈oj.after,Region.binds md e=true->e.on≠i:=λ e he hb heq=>by
    have h1:=fP e he hb;have h0:=(mem_ready.1 hr).1;rw[heq]at h1;rcases gx i ls.size with h'|h'
    ·simp[h']at h0 h1;rw[h0]at h1;cases h1
    ·simp[Array.getElem?_eq_none h']at h1
   have Qe:∀m ok,ops[m]? =some ok->m≠i->(ls.setIfInBounds j true).getD m true=false->
    (∀e∈ok.after,Region.binds md e=true->e.on≠i)->oi.apart ops ok=true:=λ m ok hm mW qH E8=>by
    refine tD m ok hm mW ?_ E8;by_cases mX:j=m
    ·subst mX;exact LY
    ·rw[yK _ mX]at qH;exact qH
   rcases hy with hy|⟨hy,ok,bq,e0,Qf,gZ,uN⟩
   ·have h2:=wpOp_putIf bM (tD j oj bM kP LY LZ) (λ cs b=>E7 i oi cs b hi) (λ cs b=>E7 j oj cs b bM) hQ hy h1;refine wpOp_mono (λ a' w' h3=>?_) h2;have Az:(ls.setIfInBounds j true).getD k true=false->T w':=λ h=>h3.2.1 (by rw[Ez _ _ (Ne.symm kP),yK _ oT];exact h);refine⟨Az,ih (ls.setIfInBounds j true) a' w' Qe (ready_mono hr (Ne.symm kP)) (.inl h3.1) Az (.inl h3.1) ?_⟩;rw[Ez _ _ kP];exact h3.2.2
   ·rcases hk with hk|hk
    ·have h2:=wpOp_putIf bM (tD j oj bM kP LY LZ) (λ cs b=>E7 i oi cs b hi) (λ cs b=>E7 j oj cs b bM) hQ hk h1;refine wpOp_mono (λ a' w' h3=>?_) h2;have Az:(ls.setIfInBounds j true).getD k true=false->T w':=λ h=>h3.2.1 (by rw[Ez _ _ (Ne.symm kP),yK _ oT];exact h);refine⟨Az,ih (ls.setIfInBounds j true) a' w' Qe (ready_mono hr (Ne.symm kP)) (.inl h3.1) Az (.inl h3.1) ?_⟩;rw[Ez _ _ kP];exact h3.2.2
    ·have K3:j≠k:=λ h=>by
      subst h;rw[bq]at bM
      cases bM
      exact LZ e0 Qf gZ uN
     have h2:=wpOp_putIf bM (tD j oj bM kP LY LZ) (λ cs b=>E7 i oi cs b hi) (λ cs b=>E7 j oj cs b bM) hQ hy h1;refine wpOp_mono (λ a' w' h3=>?_) h2;have E9:(ls.setIfInBounds j true).getD k true=false:=by rw[yK _ K3];exact hk
     have Az:T w':=h3.2.1 (by rw[Ez _ _ (Ne.symm kP),yK _ oT];exact E9);refine⟨λ _=>Az,ih (ls.setIfInBounds j true) a' w' Qe (ready_mono hr (Ne.symm kP)) (.inr ⟨h3.1,ok,bq,e0,Qf,gZ,uN⟩) (λ _=>Az) (.inr E9) ?_⟩;rw[Ez _ _ kP];exact h3.2.2
variable {l:List Oper} {n i:Nat} {ls:Array Bool} {a:Act} {w:World} {oi:Oper} {rest:List Oper}
theorem Hm (hl:l.drop i=oi::rest):l.toArray[i]? =some oi:=by
 have h:=congrArg List.head? hl;rw[List.head?_drop]at h;simpa using h
theorem cZ {v:Value}(hl:l.drop i=oi::rest)(hs:Region.noSelect l.toArray=true)(hf:Region.free md l.toArray ls i=true)(hr:(Region.ready md l.toArray ls).contains i=true)
 (hQ:∀c a w,Q (.panic c) (a.put oi.dst v) w->Q (.panic c) a w)(oT:i≠k)(hw:Region.wanted oi (yielded l.toArray a.tmps)=true)(hy:∀w,(execOp a.eval oi).run P w= .ok (.value v) w)(hT:ls.getD k true=false->T w)
 (h:tI P md l.toArray Q T k n (ls.setIfInBounds i true) (a.put oi.dst v) w):tI P md l.toArray Q T k (n+1) ls a w:=
 Xq (Hm hl) (Region.noSelect_spec hs) hQ oT n ls a w (Region.free_spec (Hm hl) hf) (by simpa using hr) (.inl (.inl ⟨hw,λ w _=>hy w⟩)) hT (.inl (.inl ⟨hw,λ w _=>hy w⟩)) h
theorem AA {v:Value}(hl:l.drop i=oi::rest)(hs:Region.noSelect l.toArray=true)(hf:Region.free md l.toArray ls i=true)(hr:(Region.ready md l.toArray ls).contains i=true)
 (hQ:∀c a w,Q (.panic c) (a.put oi.dst v) w->Q (.panic c) a w)(oT:i≠k)(hw:Region.wanted oi (yielded l.toArray a.tmps)=true)(hy:∀w,T w->(execOp a.eval oi).run P w= .ok (.value v) w)(hT:T w)(hk:ls.getD k true=false)
 (Ho:((l.toArray[k]?).elim false λ ok=>ok.after.any λ e=>Region.binds md e&&decide (e.on=i))=true)
 (h:tI P md l.toArray Q T k n (ls.setIfInBounds i true) (a.put oi.dst v) w):tI P md l.toArray Q T k (n+1) ls a w:=by
 refine Xq (Hm hl) (Region.noSelect_spec hs) hQ oT n ls a w (Region.free_spec (Hm hl) hf) (by simpa using hr) (.inr ⟨.inl ⟨hw,hy⟩,?_⟩) (λ _=>hT) (.inr hk) h
 cases ho:l.toArray[k]? with
 |none=>rw[ho]at Ho;cases Ho
 |some ok=>
  rw[ho]at Ho;simp only[Option.elim_some,Array.any_eq_true,k_,decide_eq_true_eq]at Ho;obtain⟨x,hx,h1,h2⟩:=Ho;exact⟨ok,rfl,ok.after[x],Array.getElem_mem hx,h1,h2⟩
theorem uO (hl:l.drop i=oi::rest)(hr:Region.ready md l.toArray ls=[i])(hw:Region.wanted oi (yielded l.toArray a.tmps)=true)
 (h:∀K':Act->World->Prop,Shut (∀a w,((ls.setIfInBounds i true).getD k true=false->T w)->tI P md l.toArray Q T k n (ls.setIfInBounds i true) a w->K' a w)->Oper.wp P oi a w K' Q):tI P md l.toArray Q T k (n+1) ls a w:=by
 refine⟨λ h0=>(by rw[hr]at h0;cases h0),λ j hj=>?_⟩;rw[hr]at hj;obtain rfl:=pA.1 hj;exact wpOp_step (Hm hl) (λ K' hK=>by rw[if_pos hw];exact h K' λ a w h1 h2=>hK a w ⟨h1,h2⟩)
theorem Qg (hr:Region.ready md ops ls=[])(h:Q .normal a w):∀n,tI P md ops Q T k n ls a w
 |0=>⟨hr,h⟩
 |_+1=>⟨λ _=>h,by rw[hr];simp⟩
theorem Qh {id:Nat}(hm:P.follows .mixedOrders=true)(h:tI P .any ops Q T k ops.size (Array.replicate ops.size false) a w.drew):(Code.region id ops true).wp P Q a w:=
 wp_region_any hm (Xp _ _ _ _ h)
