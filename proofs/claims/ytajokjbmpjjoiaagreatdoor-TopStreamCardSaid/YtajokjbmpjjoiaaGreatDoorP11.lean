import Derived.Test.YtajokjbmpjjoiaaGreatDoorP10
import Derived.Deep.DeepMust
set_option maxRecDepth 20000
set_option maxHeartbeats 0
set_option linter.unusedVariables false
namespace Go.Proofs.YtajokjbmpjjoiaaGreatDoor
section
open Go.RowKit
def Ik (m:Int):Nat:=min m.toNat 8
def AO (n:Int)(k:Nat):Array Value:=((List.replicate (8-k) (Value.int .u8 0))++aJ (be n k)).toArray
theorem aj0 (n:Int)(k j:Nat)(hk:k<8)(hj:j=7-k):(AO n k)[j]? =some (.int .u8 0):=by
 subst hj;unfold AO;rw[gW,ux (by simp;omega),nE,if_pos aa]
theorem aj1 (n:Int)(k j:Nat)(hk:k<8)(hj:j=7-k):(AO n k).setIfInBounds j (.int .u8 (n/2^(8*k)%256))=AO n (k+1):=by
 subst hj;unfold AO;rw[Pn,<-VW,bP];congr 1;rw[List.set_append,if_pos (by simp;omega)]
 have e:List.replicate (8-k) (Value.int .u8 0)=List.replicate (8-(k+1)) (Value.int .u8 0)++[Value.int .u8 0]:=by
  rw[show 8-k=8-(k+1)+1 from by omega,List.replicate_succ']
 rw[e,List.set_append,if_neg aj];have e2:7-k-(List.replicate (8-(k+1)) (Value.int .u8 0)).length=0:=aj;rw[e2,bL,aN];simp[aJ,ym]
theorem uW {P:Program}{w:World}{g:Nat}{t:TypeId}(n:Int)(k cap:Nat)(hk:k<=8)(h:Bk w g t (AO n 8))(src dst e:TypeId)(o:Nat)(ho:k=0∨o=8-k)
 (hs:P.underlying src=some (.slice e))(he:P.underlying e=some (.int .u8))(hd:P.underlying dst=some .string):
 (convert src dst (.slice (some ⟨g,o,none⟩) k cap)).run P w= .ok (.string (av (be n k))) w:=by
 refine yn w src dst e _ cap (be n k) k (by rw[jH]) hs he hd λ j u hj=>?_
 have K3:j<k:=by
  have:=(fX.1 hj).1;simpa[jH]using this
 obtain rfl:o=8-k:=aa;rw[lD,h.cell];unfold AO;rw[gW];have hd:=agI n (8-k) k;rw[show k+(8-k)=8 from by omega]at hd;rw[<-hd]at hj;simp only[aJ,gy,yj,List.nil_append,eH,rO]at hj⊢;exact hj
theorem Fg (n m:Int)(w:World):
 Calls Tryz.prog 87 #[.int .i64 n,.int .i64 m] w λ e w'=>e= .returned (.string (av (be n (Ik m))))/\Below w.heap.size w w':=by
 go_enter Tryz.func87,Tryz.ntmps87;go_wp2;go_loopw [6,7] (λ x i wr=>∃k:Nat,k<=8/\i= .int .i64 k/\Bk wr w.heap.size 232 (AO n k)/\Below w.heap.size w wr) (λ _ i _=>8-(intOf i).toNat)
 case atStart=>exact⟨0,aa,rfl,Bk.new _ _ _,(aB _ _).alloc (ai _) _⟩
 case round=>
  obtain⟨k,hk,rfl,hB,hb⟩:=hrel;by_cases ao:k<8
  ·have hc:wr.cell? ⟨w.heap.size,7-k,none⟩=some (.int .u8 0):=by rw[hB.cell];exact aj0 n k _ ao rfl
   have hf:=hB.frozen (7-k);go_wp2;go_roundw
   case rel=>
    refine⟨k+1,aa,by go_num,?_,hb.setCell (ai _) _⟩;rw[<-aj1 n k _ ao rfl];exact hB.aP _ _
   case measure=>simp[intOf];omega
  ·obtain rfl:k=8:=aa;have o5:=hB;clear hB;by_cases h1:m<0
   ·have E:=ae (show Ik m=0 by unfold Ik;omega);have fT:=uW (P:=Tryz.prog) n 0 0 aa o5 54 9 5 0 aa Tryz.underlying54 Tryz.underlying5 Tryz.underlying9;go_wp2;go_ret;exact⟨by rw[E.out];rfl,hb⟩
   ·by_cases h2:8<m
    ·have E:=ae (show Ik m=8 by unfold Ik;omega);have fT:=uW (P:=Tryz.prog) n 8 8 aa o5 54 9 5 0 aa Tryz.underlying54 Tryz.underlying5 Tryz.underlying9;go_wp2;go_ret;exact⟨by rw[E.out];rfl,hb⟩
    ·have h9:m=0∨m=1∨m=2∨m=3∨m=4∨m=5∨m=6∨m=7∨m=8:=aa;rcases h9 with rfl|rfl|rfl|rfl|rfl|rfl|rfl|rfl|rfl
     ·have fT:=uW (P:=Tryz.prog) n 0 0 aa o5 54 9 5 0 aa Tryz.underlying54 Tryz.underlying5 Tryz.underlying9;go_wp2;go_ret;exact⟨rfl,hb⟩
     ·have fT:=uW (P:=Tryz.prog) n 1 1 aa o5 54 9 5 7 aa Tryz.underlying54 Tryz.underlying5 Tryz.underlying9;go_wp2;go_ret;exact⟨rfl,hb⟩
     ·have fT:=uW (P:=Tryz.prog) n 2 2 aa o5 54 9 5 6 aa Tryz.underlying54 Tryz.underlying5 Tryz.underlying9;go_wp2;go_ret;exact⟨rfl,hb⟩
     ·have fT:=uW (P:=Tryz.prog) n 3 3 aa o5 54 9 5 5 aa Tryz.underlying54 Tryz.underlying5 Tryz.underlying9;go_wp2;go_ret;exact⟨rfl,hb⟩
     ·have fT:=uW (P:=Tryz.prog) n 4 4 aa o5 54 9 5 4 aa Tryz.underlying54 Tryz.underlying5 Tryz.underlying9;go_wp2;go_ret;exact⟨rfl,hb⟩
     ·have fT:=uW (P:=Tryz.prog) n 5 5 aa o5 54 9 5 3 aa Tryz.underlying54 Tryz.underlying5 Tryz.underlying9;go_wp2;go_ret;exact⟨rfl,hb⟩
     ·have fT:=uW (P:=Tryz.prog) n 6 6 aa o5 54 9 5 2 aa Tryz.underlying54 Tryz.underlying5 Tryz.underlying9;go_wp2;go_ret;exact⟨rfl,hb⟩
     ·have fT:=uW (P:=Tryz.prog) n 7 7 aa o5 54 9 5 1 aa Tryz.underlying54 Tryz.underlying5 Tryz.underlying9;go_wp2;go_ret;exact⟨rfl,hb⟩
     ·have fT:=uW (P:=Tryz.prog) n 8 8 aa o5 54 9 5 0 aa Tryz.underlying54 Tryz.underlying5 Tryz.underlying9;go_wp2;go_ret;exact⟨rfl,hb⟩
def fU (id:Int)(sa:ByteArray)(n bs raw:Int)(ro ta:ByteArray):Bool:=
 decide (1<=id/\id<=4294967295/\sa.size=16/\ro.size=32/\ta.size=32/\1<=bs/\bs<=49152/\n=(bs+191)/192/\1<=raw/\raw<=134217728)
def uX (id:Int)(sa:ByteArray)(n bs raw:Int)(ro ta:ByteArray):Value:=.agg #[.int .i64 id,.string sa,.int .i64 n,.int .i64 bs,.int .i64 raw,.string ro,.string ta]
def Me (b:Bool):Int:=if b then 0 else 1
theorem Mf (id:Int)(sa:ByteArray)(n bs raw:Int)(ro ta:ByteArray)(w:World):
 Calls Tryz.prog 78 #[uX id sa n bs raw ro ta] w λ e w'=>e= .returned (.int .i64 (Me (fU id sa n bs raw ro ta)))/\Below w.heap.size w w':=by
 have hb:=(aB w.heap.size w).alloc (ai _) (.cells #[.int .i64 id,.string sa,.int .i64 n,.int .i64 bs,.int .i64 raw,.string ro,.string ta] 26);unfold uX;by_cases h1:id<1
 ·have H:=ae (show fU id sa n bs raw ro ta=false from ct aa);go_enter Tryz.func78,Tryz.ntmps78;go_wp2;go_ret;exact⟨by rw[H.out];rfl,hb⟩
 ·skip;by_cases h2:4294967295<id
  ·have H:=ae (show fU id sa n bs raw ro ta=false from ct aa);go_enter Tryz.func78,Tryz.ntmps78;go_wp2;go_ret;exact⟨by rw[H.out];rfl,hb⟩
  ·skip;by_cases h3:¬(sa.size:Int)=16
   ·have H:=ae (show fU id sa n bs raw ro ta=false from ct aa);go_enter Tryz.func78,Tryz.ntmps78;go_wp2;go_ret;exact⟨by rw[H.out];rfl,hb⟩
   ·skip;by_cases h4:¬(ro.size:Int)=32
    ·have H:=ae (show fU id sa n bs raw ro ta=false from ct aa);go_enter Tryz.func78,Tryz.ntmps78;go_wp2;go_ret;exact⟨by rw[H.out];rfl,hb⟩
    ·skip;by_cases h5:¬(ta.size:Int)=32
     ·have H:=ae (show fU id sa n bs raw ro ta=false from ct aa);go_enter Tryz.func78,Tryz.ntmps78;go_wp2;go_ret;exact⟨by rw[H.out];rfl,hb⟩
     ·skip;by_cases h6:bs<1
      ·have H:=ae (show fU id sa n bs raw ro ta=false from ct aa);go_enter Tryz.func78,Tryz.ntmps78;go_wp2;go_ret;exact⟨by rw[H.out];rfl,hb⟩
      ·skip;by_cases h7:49152<bs
       ·have H:=ae (show fU id sa n bs raw ro ta=false from ct aa);go_enter Tryz.func78,Tryz.ntmps78;go_wp2;go_ret;exact⟨by rw[H.out];rfl,hb⟩
       ·skip;by_cases h8:¬n=(bs+191)/192
        ·have H:=ae (show fU id sa n bs raw ro ta=false from ct aa);go_enter Tryz.func78,Tryz.ntmps78;go_wp2;go_ret;exact⟨by rw[H.out];rfl,hb⟩
        ·skip;have aui:(n !=(bs+192-1)/192)=false:=by simp;omega
         have H8:=ae h8;clear h8;by_cases h9:raw<1
         ·have H:=ae (show fU id sa n bs raw ro ta=false from ct (by have:=H8.out;omega));go_enter Tryz.func78,Tryz.ntmps78;go_wp2;go_ret;exact⟨by rw[H.out];rfl,hb⟩
         ·skip;by_cases xv:134217728<raw
          ·have H:=ae (show fU id sa n bs raw ro ta=false from ct (by have:=H8.out;omega));go_enter Tryz.func78,Tryz.ntmps78;go_wp2;go_ret;exact⟨by rw[H.out];rfl,hb⟩
          ·skip;have H:=ae (show fU id sa n bs raw ro ta=true from fF (by have:=H8.out;omega));go_enter Tryz.func78,Tryz.ntmps78;go_wp2;go_ret;exact⟨by rw[H.out];rfl,hb⟩
def ij (s:List UInt8)(m:Int):Int×List UInt8×Int:=
 if m<1∨8<m then(0,[],1)else if(s.length:Int)<m then(0,[],2)else(wrap64 (num (s.take m.toNat)),s.drop m.toNat,0)
def yQ (s:List UInt8)(m:Int)(e:Ending):Prop:=e= .returned (.tuple #[.int .i64 (ij s m).1,.string (av (ij s m).2.1),.int .i64 (ij s m).2.2])
theorem yQ.kg {s:List UInt8}{m n:Int}{b:ByteArray}{k:Int}(h:ij s m=(n,b.toList,k)):yQ s m (.returned (.tuple #[.int .i64 n,.string b,.int .i64 k])):=by
 unfold yQ;rw[h];simp only[kf]
theorem XW (s:ByteArray)(m:Int)(w:World)(auj:s.size<=9223372036854775807):
 Calls Tryz.prog 83 #[.string s,.int .i64 m] w λ e w'=>yQ s.toList m e/\Below w.heap.size w w':=by
 by_cases h1:m<1
 ·have Ht:=ae (show ij s.toList m=(0,[],1)by unfold ij;rw[if_pos aa]);go_enter Tryz.func83,Tryz.ntmps83;go_wp2;go_ret3;exact⟨yQ.kg (by rw[toList_nil];exact Ht.out),aB _ _⟩
 ·by_cases h2:8<m
  ·have Ht:=ae (show ij s.toList m=(0,[],1)by unfold ij;rw[if_pos aa]);go_enter Tryz.func83,Tryz.ntmps83;go_wp2;go_ret3;exact⟨yQ.kg (by rw[toList_nil];exact Ht.out),aB _ _⟩
  ·by_cases h3:(s.size:Int)<m
   ·have Ht:=ae (show ij s.toList m=(0,[],2)by unfold ij;rw[if_neg aa,if_pos (by rw[aD];omega)]);go_enter Tryz.func83,Tryz.ntmps83;go_wp2;go_ret3;exact⟨yQ.kg (by rw[toList_nil];exact Ht.out),aB _ _⟩
   ·obtain⟨k,rfl⟩:∃k:Nat,m=k:=⟨m.toNat,aa⟩;have Ht:=ae (show ij s.toList k=(wrap64 (num (s.toList.take k)),s.toList.drop k,0)by unfold ij;rw[if_neg aa,if_neg (by rw[aD];omega)];rfl);have yR:k<=s.size:=aa;have aG:(s.extract 0 k).size=k:=by rw[<-aD,rW,ba,aD];omega
    have XX:=λ W=>run_bytes_of_string (P:=Tryz.prog) W 9 54 5 (s.extract 0 k) Tryz.underlying9 Tryz.underlying54 Tryz.underlying5
    have bK:∀cap j (hj:j<k),(bytesRow (s.extract 0 k) cap)[j]? =some (.int .u8 ((s[j]'(ur hj yR)).toNat:Int)):=by
     intro cap j hj;rw[bytesRow_at _ _ _ (by show j<(s.extract 0 k).size;rw[aG];exact hj)];congr 3;simp[ByteArray.getElem_eq_getElem_data]
    simp only[aG]at XX;have auk:=ae aG;have aj2:=ae bK;clear aG bK;go_enter Tryz.func83,Tryz.ntmps83;go_wp2_with fail;clear XX
    have eT:∀j (hj:j<k),((w.alloc (Obj.cells (bytesRow (s.extract 0 k) (grownCap w k 0 5)) 5 ((bytesRow (s.extract 0 k) (grownCap w k 0 5)).size,(bytesRow (s.extract 0 k) (grownCap w k 0 5)).size+1))).drew).cell? ⟨w.heap.size,j,none⟩=some (.int .u8 ((s[j]'(ur hj yR)).toNat:Int)):=by
     intro j hj;show(w.alloc _).cell? _=_;rw[zF];exact aj2.out _ _ hj
    have XZ:=ae eT;clear eT;generalize hW:((w.alloc (Obj.cells (bytesRow (s.extract 0 k) (grownCap w k 0 5)) 5 ((bytesRow (s.extract 0 k) (grownCap w k 0 5)).size,(bytesRow (s.extract 0 k) (grownCap w k 0 5)).size+1))).drew)=W at XZ⊢;have hb:Below w.heap.size w W:=by rw[<-hW];exact((aB _ _).alloc (ai _) _).drew
    clear hW;go_loop [7,9,27] (λ n c i=>∃j:Nat,j<=k/\i= .int .i64 j/\n= .int .i64 (wrap64 (num (s.toList.take j)))) (λ _ _ i=>k-(intOf i).toNat)
    case atStart=>exact⟨0,aa,rfl,by simp[num,wrap64]⟩
    case round=>
     obtain⟨j,hj,rfl,rfl⟩:=hrel;by_cases ao:j<k
     ·have hc:=XZ.out j ao;go_wp2;go_round
      case rel=>
       have AM:=gT s[j];refine⟨j+1,aa,by go_num,?_⟩;rw[zI (by rw[aD];omega),La,<-getElem_toList,EG (s[j].toNat:Int) aa aa,Vi,af3];rfl
      case measure=>simp[intOf];omega
     ·obtain rfl:j=k:=aa;go_wp2;go_quiet (fail);go_wp2;go_ret3;exact⟨yQ.kg (by rw[tg];exact Ht.out),below_drewN hb _⟩
theorem aj3 (s r:ByteArray)(m n k:Int)(w:World)(hs:s.size<=9223372036854775807)(h:ij s.toList m=(n,r.toList,k)):
 Calls Tryz.prog 83 #[.string s,.int .i64 m] w λ e w'=>e= .returned (.tuple #[.int .i64 n,.string r,.int .i64 k])/\Below w.heap.size w w':=
 (XW s m w hs).mono λ e w' ⟨he,hb⟩=>⟨by rw[he,h];simp only[kf],hb⟩
theorem Tryz.aj4:(Tryz.prog.info? 5).map (λ i=>(i.zero,i.size,i.bytes))=some (some (.int .u8 0),1,1):=ah
theorem Df:El Tryz.prog 54 5 1 1:=El.kg (z:=.int .u8 0) Tryz.underlying54 Tryz.aj4 aa rfl
def tN (x:Nat)(j:Nat):List UInt8:=byteOf ((247+wid x:Nat):Int)::(be (x:Int) (wid x)).take j
theorem X0 (x:Nat)(h:248<=x):tN x (wid x)=fQ x:=by
 rw[agW x h,tN,bQ (by rw[jH];omega)]
theorem X3 (x j:Nat)(h:j<wid x):tN x (j+1)=tN x j++[byteOf ((x:Int)/2^(8*(wid x-1-j)))]:=by
 rw[tN,agH _ _ _ h];rfl
theorem X5 (x j:Nat)(h:j<=wid x):(tN x j).length=j+1:=by
 rw[tN,aU,ba,jH];omega
theorem aj5 {α:Type}(l:List α)(k:Nat)(h:k<l.length):l.take (k+1)=l.take k++[l[k]]:=zI h
theorem Mg (n:Int)(w:World)(h0:0<=n)(hn:n<=72057594037927935):
 Calls Tryz.prog 99 #[.int .i64 n] w λ e w'=>e= .returned (.int .i64 (wid n.toNat))/\w=w':=by
 have h:=ajZ n.toNat w aa;rwa [show((n.toNat:Nat):Int)=n from by omega]at h
theorem aj6 (w:World):
 Calls Tryz.prog 99 #[.int .i64 72057594037927935] w λ e w'=>e= .returned (.int .i64 7)/\w=w':=by
 have h:=Mg 72057594037927935 w aa aa;exact h
theorem aj7 (A:Option Addr)(n c:Nat)(xs:List Int)(w:World)(hx:xs.length=n)(hr:Rd w A (xs.map (Value.int .i64)))(hn:n<=1000000000000):
 Calls Tryz.prog 104 #[.slice A n c] w λ e w'=>e= .returned (.string (av (qu xs)))/\Below w.heap.size w w':=by
 go_enter Tryz.func104,Tryz.ntmps104;go_wp2;go_loopw [3,5,6,7,10] (λ b x5 x6 x7 i wr=>∃k:Nat,k<=n/\i= .int .i64 k/\wr.ownsRow w.heap.size 5 1 b (qu (xs.take k)).length (aJ (qu (xs.take k)))/\Below w.heap.size w wr) (λ _ _ _ _ i _=>n-(intOf i).toNat)
 case atStart=>exact⟨0,aa,rfl,jD _ _ _ _,aB _ _⟩
 case round=>
  obtain⟨k,hk,rfl,aw,hb⟩:=hrel;have aG:=hb.size;by_cases ao:k<n
  ·obtain⟨bb,oo,rfl,eT⟩:=(hr.below hb).at_ (k:=k) (by simp;omega);have jS:qu (xs.take (k+1))=qu (xs.take k)++fQ (iE xs[k]):=by rw[aj5 _ _ aa,agN]
   have hlen:(qu (xs.take k)).length<=9*n:=by have:=agO (xs.take k);have:=List.length_take_le k xs;omega
   rw[List.getElem_map]at eT;generalize xs[k]=x at eT jS;have Mh:=ae jS;clear jS;generalize qu (xs.take k)=L at aw hlen Mh;by_cases hs:x<248
   ·have hp:fQ (iE x)=[byteOf (if x<0 then 0 else x)]:=by
     rw[agX _ (by unfold iE;omega)];congr 2;unfold iE;split<;>omega
    have Hp:=ae hp;clear hp;by_cases h0:x<0
    all_goals
     go_wp2_with (at_builtin;go_must (refine lg wr rfl (.tmp 19) (.tmp 22) 54 rfl w.heap.size 5 1 1 Df _ _ _ aw rfl _ rfl rfl (by intro u hu;simp at hu;subst hu;rfl) (by unfold maxLen;omega) aa aG ?_);intro v1 w1 gg au)
     go_roundw
     case rel=>
      refine⟨k+1,aa,by go_num,?_,hb.trans au⟩;rw[Mh.out,Hp.out];rw[wN _ (byteOf (if x<0 then 0 else x)) _ (by rw[ym];split<;>omega)]at gg;simpa using gg
     case measure=>simp[intOf];omega
   ·by_cases hM:72057594037927935<x
    ·have hp:fQ (iE x)=tN 72057594037927935 7:=by rw[agV x hM,<-X0 _ aa,Ij]
     have Hp:=ae hp;clear hp;obtain⟨wo,rfl⟩:∃wo:World,wo=wr:=⟨_,rfl⟩
     go_wp2_with (first
      |(go_at_call 99;refine(aj6 _).mono ?_;rintro e w' ⟨rfl,rfl⟩)
      |(at_builtin;go_must (refine lg wo rfl (.tmp 26) (.tmp 30) 54 rfl w.heap.size 5 1 1 Df _ _ _ aw rfl _ rfl rfl (by intro u hu;simp at hu;subst hu;rfl) (by unfold maxLen;omega) aa aG ?_);intro v1 w1 gg au))
     have aj8:=au.size;rw[wN _ (byteOf 254) _ (by rw[ym];omega)]at gg;go_loopw [3,7,33] (λ b x7 i wr=>∃j:Nat,j<=7/\i= .int .i64 j/\wr.ownsRow w.heap.size 5 1 b (L.length+j+1) (aJ (L++tN 72057594037927935 j))/\Below w.heap.size w wr) (λ _ _ i _=>7-(intOf i).toNat)
     case atStart=>exact⟨0,aa,rfl,by rw[tN,Ij];exact gg,hb.trans au⟩
     case round=>
      obtain⟨j,hj,rfl,Fh,xw⟩:=hrel;have QJ:=xw.size;by_cases X6:j<7
      ·go_wp2_with (at_builtin;go_must (refine lg wr rfl (.tmp 36) (.tmp 45) 54 rfl w.heap.size 5 1 1 Df _ _ _ Fh rfl _ rfl rfl (by intro u hu;simp at hu;subst hu;rfl) (by unfold maxLen;omega) aa QJ ?_);intro v2 w2 dk aC);rw[wN _ (byteOf (72057594037927935/2^(8*(7-1-j)))) _ (by rw[ym]),aN]at dk;have oX:=X3 72057594037927935 j (by rw[Ij];omega);go_roundw
       case rel=>exact⟨j+1,aa,by go_num,by rw[oX,Ij];exact dk,xw.trans aC⟩
       case measure=>simp[intOf];omega
      ·obtain rfl:j=7:=aa;go_wp2;go_roundw
       case rel=>
        refine⟨k+1,aa,by go_num,?_,xw⟩;rw[Mh.out,Hp.out,ag,X5 _ _ (by rw[Ij];omega)];exact Fh
       case measure=>simp[intOf];omega
    ·have hp:fQ (iE x)=tN x.toNat (wid x.toNat):=by rw[agU x aa aa,X0 _ aa]
     have Hp:=ae hp;have h7:=Pq x.toNat aa;have h1:=Po x.toNat
     clear hp;obtain⟨wo,rfl⟩:∃wo:World,wo=wr:=⟨_,rfl⟩
     go_wp2_with (first
      |(go_at_call 99;refine(Mg _ _ aa aa).mono ?_;rintro e w' ⟨rfl,rfl⟩)
      |(at_builtin;go_must (refine lg wo rfl (.tmp 26) (.tmp 30) 54 rfl w.heap.size 5 1 1 Df _ _ _ aw rfl _ rfl rfl (by intro u hu;simp at hu;subst hu;rfl) (by unfold maxLen;omega) aa aG ?_);intro v1 w1 gg au))
     have aj8:=au.size;rw[wN _ (byteOf (247+(wid x.toNat:Int))) _ (by rw[ym];omega)]at gg;go_loopw [3,7,33] (λ b x7 i wr=>∃j:Nat,j<=wid x.toNat/\i= .int .i64 j/\wr.ownsRow w.heap.size 5 1 b (L.length+j+1) (aJ (L++tN x.toNat j))/\Below w.heap.size w wr) (λ _ _ i _=>wid x.toNat-(intOf i).toNat)
     case atStart=>exact⟨0,aa,rfl,gg,hb.trans au⟩
     case round=>
      obtain⟨j,hj,rfl,Fh,xw⟩:=hrel;have QJ:=xw.size;by_cases X6:j<wid x.toNat
      ·go_wp2_with (at_builtin;go_must (refine lg wr rfl (.tmp 36) (.tmp 45) 54 rfl w.heap.size 5 1 1 Df _ _ _ Fh rfl _ rfl rfl (by intro u hu;simp at hu;subst hu;rfl) (by unfold maxLen;omega) aa QJ ?_);intro v2 w2 dk aC);rw[wN _ (byteOf (x/2^(8*(wid x.toNat-1-j)))) _ (by rw[ym]),aN]at dk;have oX:=X3 x.toNat j aa;go_roundw
       case rel=>exact⟨j+1,aa,by go_num,by rw[oX,show((x.toNat:Nat):Int)=x from by omega];exact dk,xw.trans aC⟩
       case measure=>simp[intOf];omega
      ·have X7:j=wid x.toNat:=aa;rw[X7]at Fh;clear X7;go_wp2;go_roundw
       case rel=>
        refine⟨k+1,aa,by go_num,?_,xw⟩;rw[Mh.out,Hp.out,ag,X5 _ _ aa];exact Fh
       case measure=>simp[intOf];omega
  ·have hc:=O2 aw 54 9 5 Tryz.underlying54 Tryz.underlying5 Tryz.underlying9;go_wp2;go_ret;exact⟨Vh (by rw[bQ aa]),hb⟩
