import Derived.Test.YtajokjbmpjjoiaaGreatDoorP11
import Derived.ScopeJumps
import Derived.WalkMore
set_option maxRecDepth 20000
set_option maxHeartbeats 0
namespace Go.Proofs.YtajokjbmpjjoiaaGreatDoor
section
open Go.RowKit
def oE (s:List UInt8)(e:Ending):Prop:=e= .returned (.tuple #[.int .i64 (GM s),.string (av (GN s)),.int .i64 (GP s)])
theorem oE.bad {s:List UInt8}(h:takeN s=none):oE s (.returned (.tuple #[.int .i64 0,.string ⟨#[]⟩,.int .i64 2])):=by
 unfold oE GM GN GP;rw[h];rfl
theorem oE.good {s:List UInt8}{n:Nat}{r:List UInt8}(h:takeN s=some (n,r)){m:Int}{t:ByteArray}(hm:m=n)(ht:t.toList=r):oE s (.returned (.tuple #[.int .i64 m,.string t,.int .i64 0])):=by
 unfold oE GM GN GP;rw[h];subst hm;subst ht;simp only[kf]
theorem SV (s:ByteArray)(h0:0<s.size):∃t,s.toList=s[0]::t/\t.length+1=s.size:=by
 have hl:=aD s
 cases hs:s.toList with
 |nil=>simp[hs]at hl;omega
 |cons b t=>
  refine⟨t,?_,by simpa[hs]using hl⟩;have:=getElem_toList s 0 h0;simp[hs]at this;rw[this]
theorem acx (s:ByteArray)(h0:0<s.size):s.toList.isEmpty=false:=by
 obtain⟨t,h,_⟩:=SV s h0;rw[h];rfl
theorem apm (s:ByteArray)(w:World)(h:s.toList=[]):
 Calls Tryz.prog 51 #[.string s] w λ e w'=>oE s.toList e/\Below w.heap.size w w':=by
 have he:s.toList.isEmpty=true:=by simp[h]
 have Hh:=ae h;clear h;go_enter Tryz.func51,Tryz.ntmps51;go_wp2;go_step3;go_wp2;rw[Exit.noGoto_ret];go_ret3;exact⟨oE.bad (by rw[Hh.out];rfl),aB _ _⟩
theorem apn (s:ByteArray)(w:World)(h0:0<s.size)(h1:s[0].toNat<248):
 Calls Tryz.prog 51 #[.string s] w λ e w'=>oE s.toList e/\Below w.heap.size w w':=by
 have he:=acx s h0;go_enter Tryz.func51,Tryz.ntmps51;go_wp2;go_step3;go_wp2;go_quiet (fail);go_wp2;rw[Exit.noGoto_ret];go_ret3;obtain⟨t,ht,_⟩:=SV s h0;exact⟨oE.good (n:=s[0].toNat) (r:=t) (by rw[ht,takeN,if_pos h1]) rfl (by rw[tf,ht];simp only[List.drop_succ_cons,List.drop_zero];rw[bQ aa]),below_drewN (aB _ _) _⟩
theorem apo {P:Program}{a:Act}{w:World}{Q:Exit->Act->World->Prop}{c B:Code}(l:Nat)(J:Act->World->Prop)(μ:Act->World->Nat)(hf:findLabel c l=some (Code.seq .skip B))
 (first:(∀a w,J a w->B.wp P (Exit.jump l J Q) a w)->c.wp P (Exit.jump l J Q) a w)
 (pass:∀a w,J a w->B.wp P (Exit.jump l (λ a' w'=>J a' w'/\μ a' w'<μ a w) Q) a w):(Code.scope c).wp P Q a w:=
 wp_scope_jumps l J μ hf (first λ a w hj=>wp_mono (pass a w hj) λ e a w h=>by
  cases e<;>first|exact h|exact⟨h.1,h.2.1⟩) λ a w hj=>wp_seq (wp_skip (pass a w hj))
theorem apq (n:Nat)(b:UInt8)(h:n<=281474976710655):bits .or .i64 ((n:Int)*256) (b.toNat:Int)=((n*256+b.toNat:Nat):Int):=by
 have h1:=Vi n b;have hb:=gT b;rw[EG _ aa aa,EG _ aa aa]at h1;rw[h1];omega
def apr (s:ByteArray)(b:Nat)(t:List UInt8)(w:World)(a':Act)(w':World):Prop:=
 w'=w/\∃(j N:Nat) (acy acz acA acB acC acD acE acF acG acH acI u32 acJ acK acL acM acN acO acP acQ:Value),(j+248<=b/\j<=t.length/\N=num (t.take j))/\
  a'=⟨#[.string s,undef,.int .i64 0,.string ⟨#[]⟩,.int .i64 0,.int .i64 ((b:Int)-247),.int .i64 (N:Nat),.int .i64 ((j:Nat)+1:Int),.string s,.bool false,.string s,.int .u8 (b:Int),.int .i64 (b:Int),.int .i64 ((b:Int)-247),.int .i64 ((b:Int)-247),.bool false,undef,undef,undef,undef,undef,acy,acz,acA,acB,acC,acD,acE,acF,acG,acH,acI,u32,acJ,acK,acL,acM,acN,acO,acP,acQ,undef,undef,undef,undef,undef,undef,undef,undef,undef,undef,undef,undef],[]⟩
def acR (a':Act)(_:World):Nat:=(1+intOf (a'.tmps.getD 5 undef)-intOf (a'.tmps.getD 7 undef)).toNat
theorem aps (s:ByteArray)(w:World)(h0:0<s.size)(h1:248<=s[0].toNat)(aG:s.size<=9223372036854775807):
 Calls Tryz.prog 51 #[.string s] w λ e w'=>oE s.toList e/\Below w.heap.size w w':=by
 have he:=acx s h0;have gZ:=gT s[0];obtain⟨t,ht,eL⟩:=SV s h0;have Ht:=ae ht;have SW:=ae eL;clear ht eL;have avA:decide ((s[0].toNat:Int)-247<=0)=false:=by simp;omega
 go_enter Tryz.func51,Tryz.ntmps51;go_wp2;refine apo 0 (apr s s[0].toNat t w) acR rfl ?_ ?_
 ·intro acS;have apt:=ae acS;clear acS;go_wp2;go_step3;rename_i hK;exact hK _ _ (apt.out _ _ ⟨rfl,0,0,_,_,_,_,_,_,_,_,_,_,_,_,_,_,_,_,_,_,_,_,⟨aa,aa,rfl⟩,rfl⟩)
 ·rintro a' w' ⟨rfl,j,N,acy,acz,acA,acB,acC,acD,acE,acF,acG,acH,acI,u32,acJ,acK,acL,acM,acN,acO,acP,acQ,⟨acT,sF,hN⟩,rfl⟩;have HN:=ae hN;clear hN;by_cases h7:s[0].toNat=255
  ·have apu:(7:Int)<(s[0].toNat:Int)-247:=aa;have H7:=ae h7;clear h7;go_wp2;simp only[Exit.jump];go_ret3;exact⟨oE.bad (by rw[Ht.out];exact VZ _ _ h1 (.inl H7.out)),aB _ _⟩
  ·have apu:¬(7:Int)<(s[0].toNat:Int)-247:=aa;by_cases hs:t.length<=j
   ·have QM:(s.size:Int)<=(j:Int)+1:=by have:=SW.out;omega
    have avB:j+247<s[0].toNat:=aa;have Hl:=ae (show t.length<s[0].toNat-247 by omega);clear h7 hs;go_wp2;simp only[Exit.jump];go_ret3;exact⟨oE.bad (by rw[Ht.out];exact VZ _ _ h1 (.inr Hl.out)),aB _ _⟩
   ·have QM:(j:Int)+1<(s.size:Int):=by have:=SW.out;omega
    have avC:j+1<s.size:=aa
    have acU:num (t.take (j+1))=N*256+s[j+1].toNat:=by
     rw[agS t j aa,<-HN.out];congr 2;rw[getElem_toList];simp[Ht.out]
    have SX:N<=281474976710655:=by rw[HN.out];exact agT _ _ aa
    have avD:=apq N s[j+1] SX;have AM:=gT s[j+1];have iz:=ae acU;clear acU;by_cases hj:j+249<=s[0].toNat
    ·go_wp2;go_step3;refine⟨rfl,⟨rfl,j+1,N*256+s[j+1].toNat,_,_,_,_,_,_,_,_,_,_,_,_,_,_,_,_,_,_,_,_,⟨aa,aa,iz.out.symm⟩,rfl⟩,?_⟩;simp[acR,intOf];omega
    ·have hw:s[0].toNat-247=j+1:=aa;have Hw:=ae hw;have Cd:=agR s[0] t h1 aa aa (N*256+s[j+1].toNat) (by rw[hw];exact iz.out.symm);have SY:=ae Cd;have avE:(s[0].toNat:Int)-247<(j:Int)+1+1:=aa;clear Cd hw hj;by_cases avF:(N:Int)*256+(s[j+1].toNat:Int)<=247
     ·have apv:=ae (show¬247<N*256+s[j+1].toNat by omega);go_wp2;simp only[Exit.jump];go_ret3;exact⟨oE.bad (by rw[Ht.out,SY.out,if_neg (λ h=>apv.out h.1)]),aB _ _⟩
     ·by_cases avG:(wid (N*256+s[j+1].toNat):Int)<(s[0].toNat:Int)-247
      ·have SZ:=ae (show¬(s[0].toNat-247<=wid (N*256+s[j+1].toNat))by omega);go_wp2_with (go_at_call 99;refine(Mg _ _ aa aa).mono ?_;rintro e w' ⟨rfl,rfl⟩);simp only[Exit.jump];go_ret3;exact⟨oE.bad (by rw[Ht.out,SY.out,if_neg (λ h=>SZ.out h.2)]),aB _ _⟩
      ·have SZ:=ae (show s[0].toNat-247<=wid (N*256+s[j+1].toNat)by omega);go_wp2_with (go_at_call 99;refine(Mg _ _ aa aa).mono ?_;rintro e w' ⟨rfl,rfl⟩);go_quiet (fail);go_wp2;simp only[Exit.jump];go_ret3;refine⟨oE.good (n:=N*256+s[j+1].toNat) (by rw[Ht.out,SY.out,if_pos ⟨aa,SZ.out⟩]) aa ?_,below_drewN (aB _ _) _⟩;rw[tf,Ht.out,Hw.out]
       have hl:∀m,m=j+2->((s[0]::t).drop m).take (s.size-m)=t.drop (j+1):=by
        intro m hm;subst hm;rw[List.drop_succ_cons,bQ (by rw[cw];have:=SW.out;omega)]
       exact hl _ aa
