import Derived.Test.YtajokjbmpjjoiaaGreatDoorP01
import Derived.ProofKit
import Derived.SizedLaws
import Derived.Test.YtajokjbmpjjoiaaGreatDoorRows
set_option maxRecDepth 20000
set_option maxHeartbeats 0
set_option linter.unusedVariables false
namespace Go.Proofs.YtajokjbmpjjoiaaGreatDoor
section
open Go.ChangeShapes Go.WideShapes Go.ChangeAt Go.RowKit
set_option maxRecDepth 20000
open Go.ChangeMaps (open_string)
theorem Tryz.own:ownKnob Tryz.prog.godebug=none:=ah
theorem Tryz.laidOut:laidOutB Tryz.prog=true:=ah
def aif (w:World)(e:Ending)(w':World):Prop:=e= .returned (.bool true)/\Below w.heap.size w w'
theorem aih {H:Type}{enc:TypeId×Value->H}{f:Func}{s:ChangeSpec}{W W':World}{args:Array Value}{ds:List (DataW H)}{before pa:List MemPlace}
 (hW:DataW.Whole enc Tryz.prog f.params.toList s.vars false W args.toList ds [] before)(hv:s.vars=[])(ht:f.resultTypes=#[4])
 (hs:(s.fn H (ds++[])).results=[.lit (.bool true)])(eI:(s.fn H (ds++[])).args=ds)(E4:(s.fn H (ds++[])).vars=[])
 (aii:DataW.TrodAll enc Tryz.prog W' 0 (λ b=>decide (b<W.heap.size)) true f.params.toList args.toList ds pa)(aij:before=pa)(hb:Below W.heap.size W W'):
 s.post enc Tryz.prog f false true false false W args (.bool true) W':=by
 subst aij;refine⟨ds,[],before,[],before,[],hW,?_,?_,?_,World.keptBut_mono (λ p hp=>⟨hp,Or.inr (Or.inl hp)⟩) (hb.frame (·∈before)),λ h=>by cases h⟩
 ·rw[ht,hs];exact trodAll_mk1 (shut_bool Tryz.underlying4 true)
 ·rw[eI];exact aii
 ·rw[hv,E4];rfl
section
variable {H:Type} {enc:TypeId×Value->H} {w:World} {b0:Nat} {v:Value} {d:DataW H} {p:List MemPlace} {ts:List TypeId} {ds:List (DataW H)}
theorem aik (hval:Value.okWide Tryz.prog w .any b0 3 v)(h:DataW.Trod enc Tryz.prog w 0 (λ _=>true) true 3 v d p)(ail:(DataW.weightsEach Tryz.prog ts ds).all (·<=reachBytes)=true)(j:Nat)(aim:ts[j]? =some 3)(ain:ds[j]? =some d):
 ∃n:Int,v= .int .i64 n/\ -9223372036854775808<=n/\n<=9223372036854775807:=by
 obtain⟨n,rfl,rfl,rfl,wn⟩:=open_int Tryz.underlying3 hval h;refine⟨n,rfl,?_⟩;simp only[Lit.wf,IntKind.min,IntKind.max,IntKind.signed,IntKind.bits,k_,decide_eq_true_eq,if_true]at wn;omega
theorem W9 (hval:Value.okWide Tryz.prog w .any b0 9 v)(h:DataW.Trod enc Tryz.prog w 0 (λ _=>true) true 9 v d p)(aG:(DataW.weightsEach Tryz.prog ts ds).all (·<=reachBytes)=true)(j:Nat)(ht:ts[j]? =some 9)(hd:ds[j]? =some d):
 ∃s:ByteArray,v= .string s/\s.size<=140737488351232:=by
 obtain⟨s,rfl,rfl,_,hs⟩:=open_string Tryz.underlying9 hval h;have:=sized_string aG ht hd;have e:s.data.toList.length=s.size:=rfl;rw[e]at this;exact⟨s,rfl,b_ this aA⟩
