/-
  TopStream: an archive that was packed, read and fed block by block to a stream, gives the bytes of its files; no condition.
-/
import Derived.Test.YtajokjbmpjjoiaaGreatDoorP08
import Derived.Test.YtajokjbmpjjoiaaGreatDoorP48
import Derived.Test.YtajokjbmpjjoiaaGreatDoorP49
import Derived.Handed
import Derived.LaidLaws
import Derived.LaidOnce
import Derived.Lay
import Derived.MakeChecks
import Derived.Test.YtajokjbmpjjoiaaGreatDoorTie
set_option maxRecDepth 20000
set_option maxHeartbeats 0
set_option linter.unusedSimpArgs false
set_option linter.unusedVariables false
namespace Go.Proofs.YtajokjbmpjjoiaaGreatDoor
section
open Go.ChangeShapes Go.WideShapes Go.ChangeAt Go.RowKit
theorem atW (s0 s1:ByteArray)(id:Int)(A:Option Addr)(n c:Nat)(l:List Fl)(w:World)(z0:s0.size<=140737488351232)(z1:s1.size<=140737488351232)(_: -9223372036854775808<=id)(_:id<=9223372036854775807)(hn:l.length=n)(hc:n<=c)(_:c<=9223372036854775807)(hr:Rd w A (fl l)):
 Calls Tryz.prog 3 #[.string s0,.string s1,.int .i64 id,.slice A n c] w (aif w):=
 (as6 Ev.atO s0 s1 id A n c l w aa aa hn hc hr).mono λ _ _ h=>h
set_option maxRecDepth 100000 in
theorem atX (os:Os) (started:os.Started) (H:Type) (enc:TypeId×Value->H):
 ReturnsInHanded {} Tryz.checked os 3 .any (λ w args=>(Rows.topStreamSpec.pre enc Tryz.prog Tryz.f3 [] false w args/\laidMetH Tryz.prog Rows.topStreamRow.laid w)/\sizedMet enc Tryz.prog Tryz.f3 (OpenSpec.ofChange Rows.topStreamSpec) false w args) (Rows.topStreamSpec.post enc Tryz.prog Tryz.f3 false true false false):=by
 refine returnsInHanded_of_change_and (C:=Tryz.checked) (X:=λ w _=>laidMetH Tryz.prog Rows.topStreamRow.laid w) (λ _ _ _ hh h=>h.of_heap hh) Tryz.own started ah Tryz.func3
  (ChangeSpec.witness_shaped (enc:=enc) (C:=Tryz.checked) (os:=os) (X:=λ w _=>laidMetH Tryz.prog Rows.topStreamRow.laid w) false (World.laidAll Tryz.prog os Rows.topStreamRow.laid) #[.string ⟨#[]⟩,.string ⟨#[]⟩,.int .i64 0,.slice none 0 0] 8 (World.laidAll_os _ _ _)
   (World.shaped_of_ZipB ah ah) ah ah ah
   (by rw[MakeChecks.laidMetH_plain _ _ _ ah];exact laidMet_laidAll _ ah ah)) ?_
 intro W base args ds gs before afZ hW hcnd NS atY atZ;have hval:∀(j:Nat) t v,Tryz.f3.params[j]? =some t->args[j]? =some v->Value.okWide Tryz.prog W .any base t v:=afZ;have yJ:=hW;obtain⟨p,q,af0,hV,rfl,rm,uD⟩:=hW;have hA:DataW.TrodAll enc Tryz.prog W 0 (λ _=>true) true Tryz.f3.params.toList args.toList ds p:=af0;have aG:(DataW.weightsEach Tryz.prog (Tryz.f3.params.toList++Rows.topStreamSpec.plain.varTypes Tryz.prog) (ds++gs)).all (·<=reachBytes)=true:=NS;rw[Tryz.params3]at hA hval aG;obtain⟨v0,v1,v2,v3,d0,d1,d2,d3,p0,p1,p2,p3,rfl,rfl,rfl,h0,h1,h2,h3⟩:=trodAll_four hA;obtain⟨rfl,rfl⟩:=trodVars_none hV;clear af0 afZ hcnd rm uD NS atY atZ;simp only[bV]at yJ;have at0:∀x∈p0,x.block<W.heap.size:=λ x hx=>by simpa using yJ.lt x (by simp[hx])
 have zA:∀x∈p1,x.block<W.heap.size:=λ x hx=>by simpa using yJ.lt x (by simp[hx])
 have fO:∀x∈p2,x.block<W.heap.size:=λ x hx=>by simpa using yJ.lt x (by simp[hx])
 have tL:∀x∈p3,x.block<W.heap.size:=λ x hx=>by simpa using yJ.lt x (by simp[hx])
 obtain⟨s0,rfl,z0⟩:=W9 (hval 0 9 v0 rfl rfl) h0 aG 0 rfl rfl;obtain⟨s1,rfl,z1⟩:=W9 (hval 1 9 v1 rfl rfl) h1 aG 1 rfl rfl;obtain⟨x2,rfl,l2,u2⟩:=aik (hval 2 3 v2 rfl rfl) h2 aG 2 rfl rfl;obtain⟨A3,n3,c3,at1,rfl,nW,IU,rh,dL⟩:=ajd (hval 3 22 v3 rfl rfl) h3 aG 3 rfl rfl;refine(atW s0 s1 x2 A3 n3 c3 at1 W z0 z1 l2 u2 nW IU rh dL).mono λ e W' ⟨he,hb⟩=>?_;subst he;exact⟨_,rfl,aih yJ rfl rfl rfl rfl rfl (trodAll_mk4 (Below.trod Tryz.laidOut ah (fZ ah) h0 hb (at0)) (Below.trod Tryz.laidOut ah (fZ ah) h1 hb (zA)) (Below.trod Tryz.laidOut ah (fZ ah) h2 hb (fO)) (Below.trod Tryz.laidOut ah (fZ ah) h3 hb (tL))) (by first|rfl|simp only[aN]) hb⟩
theorem at2:joinedFacts Tryz.prog 3 Tryz.f3 Rows.topStreamSpec Rows.topStreamRow=true:=by
 have h:=atP;simp only[k_]at h;obtain⟨⟨⟨h1,h2⟩,h3⟩,h4⟩:=h;unfold joinedFacts;rw[h1,h2,h3,h4,Tryz.laidOut,atQ,atS,atT];clear h1 h2 h3 h4;show(_:Bool)=true;kernel_rfl
theorem at3:Rows.TopStreamSaid:=
 OpenClaim.holds_of_wide 3 Tryz.f3 rfl rfl rfl rfl rfl rfl rfl ⟨rfl,rfl,rfl,rfl,rfl⟩ rfl rfl rfl rfl rfl afY Tryz.func3 at2
  (fZ ah) (by unfold Func.isWrapper;first|(rw[if_pos (by decide+kernel)];kernel_rfl)|(rw[if_neg (by decide+kernel)];exact⟨rfl,rfl⟩))
  (λ os started H enc _=>atX os started H enc)
theorem topStream_card:Rows.TopStreamCardSaid:=
 Claim7.holds_tied_plain_at .later [] [.data,.pinned] true (true, "e6a0618c4ef19320bf5f6cfe890835238b944317d982ed75aed740e8970c398a") false at3 (λ _ h=>by cases h) ah (λ _ h=>by cases h) topStream_row_tie rfl ⟨rfl,rfl⟩ ah rfl
  (λ f fn hf yH=>by
   obtain rfl:f=3:=cG (afY.symm.trans hf)|>.symm;obtain rfl:fn=Tryz.f3:=(cG (Tryz.func3.symm.trans yH)).symm
   exact⟨eq_of_beq atU,λ j t ht=>by
    rw[Tryz.params3]at ht;have hm:t∈[9,9,3,22]:=by simpa using Array.mem_of_getElem? ht
    have fP:([9,9,3,22].all λ u=>!Tryz.prog.wantsStandIn u)=true:=ah;exact(show Tryz.prog.wantsStandIn t=false by simpa using nF.1 fP t hm)⟩)
  (eq_of_beq atV)
#print axioms topStream_card
