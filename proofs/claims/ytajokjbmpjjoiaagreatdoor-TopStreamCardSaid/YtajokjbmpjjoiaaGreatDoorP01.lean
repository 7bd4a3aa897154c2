import Derived.BigQuiet
import Derived.Deep.QuietTactic
import Derived.Lib.Hide
import Derived.WalkKit
import Derived.WalkLawsBesides
import Derived.WalkSpells
set_option maxRecDepth 20000
set_option maxHeartbeats 0
set_option linter.unusedSimpArgs false
set_option linter.unusedVariables false
namespace Go.Proofs.YtajokjbmpjjoiaaGreatDoor
section
open Go Go.RowKit
set_option linter.defProp false
theorem aa {p:Prop}(h:p:=by omega):p:=h
theorem ah {p:Prop}(h:p:=by kernel_rfl):p:=h
theorem aj {p:Prop}(h:p:=by simp):p:=h
theorem aA {p:Prop}(h:p:=by decide):p:=h
theorem af {a b:Prop}(h:a)(k:b):a/\b:=⟨h,k⟩
theorem ae {p:Prop}(h:p):Hid p:=h
def ag:=@List.length_append
def ai:=@Nat.le_refl
def aB:=@Below.refl
def aE:=@IntKind.wrap_i64
def aN:=@List.append_assoc
theorem aU {A:Type _}{a:A}{l:List A}:(a::l).length=l.length+1:=rfl
def aZ:=@List.getElem?_eq_getElem
def a_:=@List.getD_eq_getElem?_getD
def ba:=@List.length_take
def bp:=@Option.map_eq_some_iff
theorem bL {A:Type _}{x a:A}{l:List A}:(x::l).set 0 a=a::l:=rfl
theorem bN {A:Type _}{x a:A}{l:List A}{i:Nat}:(x::l).set (i+1) a=x::l.set i a:=rfl
def bP:=@List.setIfInBounds_toArray
def bQ:=@List.take_of_length_le
def bV:=@List.append_nil
def b_:=@Nat.le_trans
def ct:=@decide_eq_false
def cw:=@List.length_drop
def cA:=@List.length_replicate
def cG:=@Option.some.inj
theorem cL {A:Type _}:([]:List A).length=0:=rfl
def cQ:=@World.block_lt_of_cell?
def dq:=@Option.bind_eq_some_iff
def du:=@List.mem_of_getElem?
def dP:=@List.eq_nil_of_length_eq_zero
def dZ:=@Sem.run_bind
def eu:=@List.take_add_one
theorem eF {A:Type _}{a:A}{l:List A}{i:Nat}:(a::l)[i+1]? =l[i]? :=rfl
def eG:=@List.length_map
def eH:=@List.getElem?_map
def eQ:=@results_none
def eW:=@List.mem_cons
def eX:=@bodyPost_ret
def eY:=@bodyPost_end
def fE:=@List.mem_append
def fF:=@decide_eq_true
def fX:=@List.getElem?_eq_some_iff
theorem fY {A:Type _}{l:List A}{L:List (List A)}:(l::L).flatten=l++L.flatten:=rfl
def fZ:=@of_decide_eq_true
def gx:=@Nat.lt_or_ge
def gy:=@Nat.sub_self
def gI:=@List.take_append_drop
def gT:=@UInt8.toNat_lt
theorem gU {A:Type _}{a:A}{l m:List A}:a::l++m=a::(l++m):=rfl
def gV:=@Nat.zero_le
def gW:=@List.getElem?_toArray
def iP:=@List.length_set
def jd:=@Nat.zero_add
def jD:=@World.ownsRow_nil
def jE:=@beq_eq_false_iff_ne
def ka:=@List.map_append
def kd:=@setRow_heap
theorem kH {A:Type _}{B:Type _}{a:A}{l:List A}{f:B->A->B}{b:B}:(a::l).foldl f b=l.foldl f (f b a):=rfl
def kI:=@List.filter_append
def kJ:=@List.mem_map
theorem kK {A:Type _}:([]:List (List A)).flatten=[]:=rfl
def kY:=@ByteArray.toList_eq
def kZ:=@Array.getElem?_eq_some_iff
def k_:=@Bool.and_eq_true
def ld:=@Nat.mul_comm
def lf:=@List.getElem?_append_right
def lB:=@Nat.min_eq_left
def lC:=@List.eq_nil_or_concat
def lX:=@List.pairwise_cons
def lY:=@World.size_alloc
theorem lZ {A:Type _}{a:A}{l:List A}:(a::l)[0]? =some a:=rfl
def l_:=@heap_alloc_new
def mL:=@List.getElem?_take
theorem mM {A:Type _}{l:List A}:l.take 0=[]:=rfl
def mN:=@List.getElem_mem
def mO:=@List.concat_eq_append
def nD:=@List.drop_of_length_le
def nE:=@List.getElem?_replicate
def nF:=@List.all_eq_true
def nG:=@wpList_store_row
def oJ:=@List.filter_cons
def oK:=@List.length_pos_iff
def pv:=@List.size_toArray
def px:=@Nat.pow_le_pow_right
def py:=@Nat.xor_lt_two_pow
def pz:=@List.mem_filter
def pA:=@List.mem_singleton
def pB:=@ByteArray.size_append
def qf:=@BitVec.toNat_ofInt
theorem qg {A:Type _}{a:A}{n:Nat}:List.replicate (n+1) a=a::List.replicate n a:=rfl
def qh:=@Nat.add_sub_cancel
def qi:=@List.set_append_right
def qj:=@List.drop_eq_getElem_cons
def qk:=@wpList_load_row
def rM:=@Array.getElem?_toList
def rN:=@Array.ext'
def rO:=@List.getElem?_drop
def rP:=@Bool.false_eq_true
def rQ:=@Nat.add_assoc
def rR:=@Nat.mod_lt
def rS:=@List.filter_eq_nil_iff
def rT:=@List.foldl_append
def rU:=@List.drop_eq_nil_of_le
def rV:=@run_underlying
def s6:=@List.mem_of_mem_take
def s7:=@List.getElem?_eq_none
def s9:=@List.mem_cons_self
def te:=@List.take_left'
def ur:=@Nat.lt_of_lt_of_le
theorem uu {A:Type _}{a:A}{l:List A}{i:Nat}:(a::l).take (i+1)=a::l.take i:=rfl
def uw:=@Nat.or_lt_two_pow
def ux:=@List.getElem?_append_left
def uy:=@List.drop_drop
def uz:=@List.length_mapIdx
def wF:=@Below.heap_alloc
def wG:=@Nat.eq_zero_or_pos
def wH:=@Array.getD_eq_getD_getElem?
def wI:=@Array.size_append
def wJ:=@List.flatMap_cons
def wK:=@Array.getElem?_eq_getElem
def wL:=@of_decide_eq_false
def wM:=@results_tmp2
def yb:=@UInt8.toNat_ofNat'
def yc:=@Array.toList_setIfInBounds
theorem ye {A:Type _}{a b:A}:(some a).getD b=a:=rfl
def yf:=@Nat.mul_le_mul
def yg:=@UInt8.toNat_inj
def yh:=@Nat.mul_one
def yi:=@List.map_map
theorem yj {A:Type _}{a:A}:List.replicate 0 a=[]:=rfl
def yk:=@Nat.le_succ
def yl:=@List.cons.inj
def zF:=@World.cell?_alloc_mark
def zG:=@Array.getElem?_modify
def zH:=@List.drop_append_of_le_length
def zI:=@List.take_succ_eq_append_getElem
def zJ:=@List.mem_iff_getElem?
def zK:=@Nat.mul_assoc
def zL:=@List.take_length
def zM:=@Nat.add_sub_cancel_left
theorem zN {A:Type _}{B:Type _}{f:B->A->B}{b:B}:[].foldl f b=b:=rfl
def zO:=@List.getElem?_set
def zP:=@List.map_toArray
def zQ:=@List.map_set
def Cl:=@List.mapM_cons
def Cm:=@Nat.mod_eq_of_lt
def Co:=@Array.getElem?_push
def Cp:=@Array.toList_append
def Cq:=@List.take_left
theorem Cr {A:Type _}{p:A->Bool}:[].filter p=[]:=rfl
def Ct:=@List.map_congr_left
def Cu:=@List.mem_of_mem_drop
def Cv:=@List.flatten_append
def Cw:=@List.getElem_mapIdx
def Cx:=@List.mem_singleton_self
def Cy:=@List.all_toArray
def Cz:=@List.flatMap_append
def CA:=@List.length_eq_one_iff
def Eo:=@Below.heap_setCell
def Ep:=@List.take_append
def Er:=@List.take_append_of_le_length
def Es:=@Option.some.injEq
def Et:=@IntKind.wrap_u32
def Eu:=@Nat.div_div_eq_div_mul
def Ew:=@List.mem_cons_of_mem
def Ey:=@List.getElem?_of_mem
def Ez:=@Array.setIfInBounds_comm
def EC:=@Int.tmod_eq_emod_of_nonneg
def ED:=@World.cell?_of_block
def EE:=@grownCap_le_maxLen
def CD:=@decide_eq_decide
def EF:=@results_cell_row
def Gx:=@Array.getElem?_setIfInBounds_ne
def Gy:=@List.getElem?_take_of_lt
def Gz:=@List.filter_cons_of_pos
def GA:=@Array.getElem?_append_left
def KA:=@Nat.and_two_pow_sub_one_eq_mod
def KB:=@List.replicate_append_replicate
end
section
open Go.RowKit
def av (l:List UInt8):ByteArray:=⟨l.toArray⟩
theorem cn (l:List UInt8):(av l).toList=l:=by rw[kY];rfl
theorem kf (s:ByteArray):av s.toList=s:=by rw[kY];rfl
theorem CE (s t:ByteArray):(s++t).toList=s.toList++t.toList:=by
 simp[kY]
theorem tf (s:ByteArray)(i j:Nat):(s.extract i j).toList=(s.toList.drop i).take (j-i):=by
 simp only[kY,ByteArray.data_extract,Array.toList_extract,List.extract_eq_take_drop]
theorem aD (s:ByteArray):s.toList.length=s.size:=by rw[kY];rfl
theorem toList_nil:(⟨#[]⟩:ByteArray).toList=[]:=cn []
theorem rW (s:ByteArray)(n:Nat):(s.extract 0 n).toList=s.toList.take n:=by rw[tf];rfl
theorem tg (s:ByteArray)(k:Nat):(s.extract k s.size).toList=s.toList.drop k:=by
 rw[tf,bQ (by rw[cw,aD];omega)]
theorem cV (l:List UInt8):(av l).size=l.length:=by rw[<-aD,cn]
theorem ma {s t:ByteArray}(h:s.toList=t.toList):s=t:=by rw[<-kf s,h,kf]
theorem KC (s t:List UInt8):av s++av t=av (s++t):=ma (by simp[CE,cn])
theorem getElem_toList (s:ByteArray)(i:Nat)(h:i<s.size):s[i]=s.toList[i]'(by rw[aD];exact h):=by
 simp[kY];rfl
def byteOf (n:Int):UInt8:=UInt8.ofNat (n%256).toNat
theorem ym (n:Int):((byteOf n).toNat:Int)=n%256:=by
 unfold byteOf;rw[yb];omega
theorem yn {P:Program}(w:World)(src dst e:TypeId)(a:Addr)(cap:Nat)(l:List UInt8)(n:Nat)(hn:n=l.length)(hs:P.underlying src=some (.slice e))(he:P.underlying e=some (.int .u8))(hd:P.underlying dst=some .string)
 (hc:∀j u,(l.map λ b=>Value.int .u8 (b.toNat:Int))[j]? =some u->w.cell? (a.add j)=some u):
 (convert src dst (.slice (some a) n cap)).run P w= .ok (.string (av l)) w:=by
 subst hn;exact run_convert_bytes_back w src dst e a cap l hs he hd λ j hj=>hc j _ (by simp[hj])
theorem lD (b o i:Nat):(⟨b,o,none⟩:Addr).add i=⟨b,o+i,none⟩:=by unfold Addr.add;split<;>simp_all
def Rd (w:World)(A:Option Addr)(xs:List Value):Prop:=
 xs≠[]->∃b o,A=some ⟨b,o,none⟩/\∀j u,xs[j]? =some u->w.cell? ⟨b,o+j,none⟩=some u
theorem Rd.nil (w:World)(A:Option Addr):Rd w A []:=λ h=>absurd rfl h
theorem Rd.keep {w w':World}{A:Option Addr}{xs:List Value}(h:Rd w A xs)(hk:∀b o v,w.cell? ⟨b,o,none⟩=some v->w'.cell? ⟨b,o,none⟩=some v):Rd w' A xs:=λ hn=>by
 obtain⟨b,o,e,hc⟩:=h hn;exact⟨b,o,e,λ j u hj=>hk _ _ _ (hc j u hj)⟩
theorem Rd.below {w w':World}{A:Option Addr}{xs:List Value}(h:Rd w A xs)(hb:Below w.heap.size w w'):Rd w' A xs:=
 h.keep λ b o v hv=>by rw[hb.cell (cQ w _ hv)];exact hv
theorem Rd.at_ {w:World}{A:Option Addr}{xs:List Value}(h:Rd w A xs){k:Nat}(hk:k<xs.length):∃b o,A=some ⟨b,o,none⟩/\w.cell? ⟨b,o+k,none⟩=some xs[k]:=by
 obtain⟨b,o,e,hc⟩:=h (by intro e;rw[e]at hk;simp at hk);exact⟨b,o,e,hc k _ (aZ hk)⟩
theorem Rd.new (w:World)(t:TypeId)(C:Array Value):Rd (w.alloc (.cells C t)) (some ⟨w.heap.size,0,none⟩) C.toList:=λ _=>
 ⟨_,_,rfl,λ j u hj=>by rw[zF];simpa using hj⟩
theorem Rd.af2 (w:World)(t:TypeId)(v:Value):Rd (w.alloc (.cells #[v] t)) (some ⟨w.heap.size,0,none⟩) [v]:=Rd.new w t #[v]
theorem O1 {w w1:World}{o:Obj}(h:Below (w.alloc o).heap.size (w.alloc o) w1):Below w.heap.size w w1:=
 ((aB _ _).alloc (ai _) o).trans (h.mono aj)
theorem GB {w w1:World}(h:Below w.drew.heap.size w.drew w1):Below w.heap.size w w1:=⟨h.os,h.tape,h.output,h.size,h.block⟩
theorem Vg {w w1 w2:World}{B:Nat}(h:Below B w w1)(h2:Below w1.heap.size w1 w2)(hB:B<=w1.heap.size):Below B w w2:=h.trans (h2.mono hB)
theorem bl {w w1 w2:World}(h:Below w.heap.size w w1)(h2:Below w1.heap.size w1 w2):Below w.heap.size w w2:=Vg h h2 h.size
theorem Rd.take {w:World}{A:Option Addr}{xs:List Value}(h:Rd w A xs)(k:Nat):Rd w A (xs.take k):=λ hn=>by
 obtain⟨b,o,e,hc⟩:=h (by intro e;rw[e]at hn;simp at hn);refine⟨b,o,e,λ j u hj=>hc j u ?_⟩;rw[mL]at hj;split at hj
 ·exact hj
 ·cases hj
def Bk (w:World)(g:Nat)(t:TypeId)(cs:Array Value):Prop:=w.heap[g]? =some (.cells cs t (0,0))
theorem Bk.lt {w:World}{g:Nat}{t:TypeId}{cs:Array Value}(h:Bk w g t cs):g<w.heap.size:=(kZ.1 h).1
theorem Bk.cell {w:World}{g:Nat}{t:TypeId}{cs:Array Value}(h:Bk w g t cs)(i:Nat):w.cell? ⟨g,i,none⟩=cs[i]? :=cell_of_row w g i cs t (0,0) h
theorem Bk.cell_ {w:World}{g:Nat}{t:TypeId}{cs:Array Value}(h:Bk w g t cs)(i:Nat)(v:Value)(hv:cs[i]? =some v):w.cell? ⟨g,i,none⟩=some v:=(h.cell i).trans hv
theorem Bk.frozen {w:World}{g:Nat}{t:TypeId}{cs:Array Value}(h:Bk w g t cs)(i:Nat):w.frozen? ⟨g,i,none⟩=false:=by
 unfold Bk at h;simp[World.frozen?,h]
theorem Bk.new (w:World)(t:TypeId)(cs:Array Value):Bk (w.alloc (.cells cs t)) w.heap.size t cs:=l_ w _
theorem Bk.alloc {w:World}{g:Nat}{t:TypeId}{cs:Array Value}(h:Bk w g t cs)(o:Obj):Bk (w.alloc o) g t cs:=(wF w o g h.lt).trans h
theorem Bk.drew {w:World}{g:Nat}{t:TypeId}{cs:Array Value}(h:Bk w g t cs):Bk w.drew g t cs:=h
theorem Bk.aP {w:World}{g:Nat}{t:TypeId}{cs:Array Value}(h:Bk w g t cs)(i:Nat)(u:Value):Bk (w.setCell ⟨g,i,none⟩ u) g t (cs.setIfInBounds i u):=by
 unfold Bk at h⊢;simp[World.setCell,zG,h]
theorem Bk.far {w:World}{g:Nat}{t:TypeId}{cs:Array Value}(h:Bk w g t cs){p:Addr}(hp:g≠p.block)(u:Value):Bk (w.setCell p u) g t cs:=(Eo w p u g hp).trans h
theorem Bk.below {w w':World}{B g:Nat}{t:TypeId}{cs:Array Value}(h:Bk w g t cs)(hb:Below B w w')(hg:g<B):Bk w' g t cs:=(hb.block g hg).trans h
theorem Bk.aL {w w':World}{g:Nat}{t:TypeId}{cs:Array Value}(h:Bk w g t cs)(hb:Below w.heap.size w w'):Bk w' g t cs:=h.below hb h.lt
def El (P:Program)(t e:TypeId)(size bytes:Nat):Prop:=
 P.underlying t=some (.slice e)/\0<size/\∃i z,P.info? e=some i/\i.zero=some z/\i.size=size/\i.bytes=bytes/\z.cells.size=size
theorem El.kg {P:Program}{t e:TypeId}{size bytes:Nat}{z:Value}(ht:P.underlying t=some (.slice e))(h:(P.info? e).map (λ i=>(i.zero,i.size,i.bytes))=some (some z,size,bytes))(hs:0<size)(hz:z.cells.size=size):El P t e size bytes:=by
 obtain⟨i0,hi,CF,dN,gX⟩:=info_parts h;exact⟨ht,hs,i0,z,hi,CF,dN,gX,hz⟩
theorem lg {P:Program}(w:World){ops:Array Oper}{rest:List Oper}{o:Oper}{a:Act}{Q:Exit->Act->World->Prop}(d_:o.guard=none)(s x:Operand)(t:TypeId)
 (ho:o.op= .call {callee:=.builtin .append,args:=#[s,x],argTypes:=#[t,t]})
 (base:Nat)(e:TypeId)(size bytes:Nat)(jF:El P t e size bytes)
 (v:Value)(n:Nat)(xs:List Value)(aw:w.ownsRow base e size v n xs)(hs:a.eval s=v)(C:Array Value)
 (hx:a.eval x= .slice (some ⟨w.heap.size,0,none⟩) 1 1)(hC:C.size=size)(h1:∀u∈C.toList,u.oneCell'=true)
 (kh:n+1<=maxLen)(iQ:(n+1)*bytes<=140737488355328)(jG:base<=w.heap.size)
 (h:∀v' w',w'.ownsRow base e size v' (n+1) (xs++C.toList)->Below base w w'->wpList P ops Q rest (a.put o.dst v') w'):wpList P ops Q (o::rest) a (w.alloc (.cells C e)):=by
 obtain⟨ht,aG,i,z,hi,hz,lE,nH,lh⟩:=jF;refine wpList_append_own (w.alloc (.cells C e)) d_ s x t ho base e i z size bytes ht hi hz lE nH lh aG v n xs hs (aw.alloc _) ⟨w.heap.size,0,none⟩ 1 1 C.toList hx (by simp[hC]) ?_ h1 kh iQ (by simp;omega) ?_
 ·intro j u hj;rw[lD,zF];simpa using hj
 ·intro v' w' h2 h3 _;exact h v' w' h2 (((aB _ _).alloc jG _).grown h3 (by simp;omega) λ k hk=>(aw.lt k hk).1)
def aJ (l:List UInt8):List Value:=l.map λ b=>Value.int .u8 (b.toNat:Int)
theorem je (l:List UInt8):(aJ l).length=l.length:=by simp[aJ]
theorem wN (l:List UInt8)(b:UInt8)(n:Int)(h:(b.toNat:Int)=n):aJ l++[Value.int .u8 n]=aJ (l++[b]):=by simp[aJ,h]
theorem O2 {P:Program}{w:World}{base:Nat}{e0:TypeId}{v:Value}{n:Nat}{l:List UInt8}(aw:w.ownsRow base e0 1 v n (aJ l))(src dst e:TypeId)
 (hs:P.underlying src=some (.slice e))(he:P.underlying e=some (.int .u8))(hd:P.underlying dst=some .string):(convert src dst v).run P w= .ok (.string (av l)) w:=by
 have hn:n=l.length:=by have:=aw.1;rw[je]at this;omega
 rcases aw.2 with⟨rfl,h0⟩|⟨g,cap,cur,rfl,_⟩
 ·have:l=[]:=dP aa;subst this;exact run_convert_bytes_nil w src e hs he 0 0 dst hd
 ·exact yn w src dst e ⟨g,0,none⟩ cap l n hn hs he hd (aw.cells (g:=g) rfl)
theorem qm {P:Program}(w:World){ops:Array Oper}{rest:List Oper}{o:Oper}{a:Act}{Q:Exit->Act->World->Prop}(d_:o.guard=none)(s x:Operand)(t:TypeId)
 (ho:o.op= .call {callee:=.builtin .append,args:=#[s,x],argTypes:=#[t,t]})
 (base:Nat)(e:TypeId)(size bytes:Nat)(jF:El P t e size bytes)
 (v:Value)(n:Nat)(xs:List Value)(aw:w.ownsRow base e size v n xs)(hs:a.eval s=v)(A:Option Addr)(m c:Nat)(news:List Value)(hr:Rd w A news)(hl:news.length=m*size)
 (hx:a.eval x= .slice A m c)(h1:∀u∈news,u.oneCell'=true)
 (kh:n+m<=maxLen)(iQ:(n+m)*bytes<=140737488355328)(jG:base<=w.heap.size)
 (h:∀v' w',w'.ownsRow base e size v' (n+m) (xs++news)->Below base w w'->wpList P ops Q rest (a.put o.dst v') w'):wpList P ops Q (o::rest) a w:=by
 obtain⟨ht,aG,i,z,hi,hz,lE,nH,lh⟩:=jF
 cases A with
 |none=>
  have hm:m=0:=by
   rcases wG m with h0|h0
   ·exact h0
   ·obtain⟨_,_,e,_⟩:=hr (by intro e;rw[e]at hl;have:=Nat.mul_pos h0 aG;simp at hl;omega)
    cases e
  subst hm;have hn:news=[]:=dP (by simpa using hl);subst hn
  have jf:(Builtin.append_ #[t,t] o.type #[v,.slice none 0 c]).run P w= .ok v w:=by
   rcases aw.2 with⟨rfl,rfl⟩|⟨g,cap,cur,rfl,_,_,hnc,_⟩
   ·simp[Builtin.append_,rV ht,sizeOf,typeInfo,hi,Builtin.lenOf,Builtin.firstCells]
   ·simp[Builtin.append_,rV ht,sizeOf,typeInfo,hi,Builtin.lenOf,Builtin.firstCells,hnc,storeCells]
  refine wpList_plain d_ λ K hK=>?_;unfold Oper.wp;simp[execOp,ho,resolve,invoke,builtin,hs,hx,jf,Result.andThen];exact hK _ _ (h v w (by simpa using aw) (aB _ _))
 |some ad=>
  refine wpList_append_own w d_ s x t ho base e i z size bytes ht hi hz lE nH lh aG v n xs hs aw ad m c news hx hl ?_ h1 kh iQ jG ?_
  ·intro j u hj;obtain⟨b,o,e,hc⟩:=hr (by intro e;rw[e]at hj;simp at hj)
   cases e
   rw[lD];exact hc j u hj
  ·intro v' w' h2 h3 _;exact h v' w' h2 ((aB _ _).grown h3 jG λ k hk=>(aw.lt k hk).1)
def Sl (w:World)(size:Nat)(v:Value)(n:Nat)(xs:List Value):Prop:=xs.length=n*size/\∃A c,v= .slice A n c/\n<=c/\c<=maxLen/\Rd w A xs
theorem Sl.below {w w':World}{size n:Nat}{v:Value}{xs:List Value}(h:Sl w size v n xs)(hb:Below w.heap.size w w'):Sl w' size v n xs:=by
 obtain⟨h1,A,c,h2,h3,h4,h5⟩:=h;exact⟨h1,A,c,h2,h3,h4,h5.below hb⟩
theorem Sl.own {w:World}{base size n:Nat}{e:TypeId}{v:Value}{xs:List Value}(h:w.ownsRow base e size v n xs):Sl w size v n xs:=by
 refine⟨h.1,?_⟩;rcases h.2 with⟨rfl,rfl⟩|⟨g,cap,cur,rfl,_,hg,hn,hm,_,ht⟩
 ·have:xs=[]:=dP (by simpa using h.1);subst this;exact⟨none,0,rfl,aa,aa,Rd.nil _ _⟩
 ·refine⟨_,cap,rfl,hn,hm,λ _=>⟨g,0,rfl,λ j u hj=>?_⟩⟩;have:=h.cells (g:=g) rfl j u hj;rwa [lD]at this
def rX (w:World)(n:Nat)(xs:List Value)(e:Ending)(w':World):Prop:=∃A c,e= .returned (.slice A n c)/\n<=c/\c<=maxLen/\Rd w' A xs/\(∀ad,A=some ad->w.heap.size<=ad.block)/\Below w.heap.size w w'
theorem rX.own {w w':World}{base size n:Nat}{e:TypeId}{v:Value}{xs:List Value}(h:w'.ownsRow base e size v n xs)(hb:Below w.heap.size w w')(hB:w.heap.size<=base):rX w n xs (.returned v) w':=by
 have ao:=h.lt;obtain⟨_,A,c,rfl,h1,h2,h3⟩:=Sl.own h;exact⟨A,c,rfl,h1,h2,h3,λ ad hA=>by subst hA;exact b_ hB (ao _ rfl).1,hb⟩
def th (g:Nat)(A:Option Addr)(xs:List Value):Prop:=xs≠[]->∀ad,A=some ad->ad.block≠g
theorem th.fresh {g B:Nat}{A:Option Addr}{xs:List Value}(h:∀ad,A=some ad->B<=ad.block)(hg:g<B):th g A xs:=λ _ ad hA=>by have:=h ad hA;omega
theorem th.old {w:World}{g:Nat}{A:Option Addr}{xs:List Value}(h:Rd w A xs)(hg:w.heap.size<=g):th g A xs:=λ hn ad hA=>by
 obtain⟨b,o,e,hc⟩:=h hn
 cases xs with
 |nil=>exact absurd rfl hn
 |cons x xs=>
  have:=cQ w _ (hc 0 x rfl);rw[hA]at e
  cases e
  simp at this⊢;omega
theorem aY (w:World)(g i:Nat)(u:Value):w.grownBy (w.setCell ⟨g,i,none⟩ u) (some g):=
 ⟨rfl,rfl,rfl,by simp[World.setCell],λ k _ aS=>Eo w _ u k (λ e=>aS (by rw[e]))⟩
theorem aQ {a b c:World}{g:Nat}(h:a.grownBy b (some g))(h2:b.grownBy c (some g)):a.grownBy c (some g):=
 ⟨h2.os.trans h.os,h2.tape.trans h.tape,h2.output.trans h.output,b_ h.size h2.size,λ k hk aS=>(h2.block k (ur hk h.size) aS).trans (h.block k hk aS)⟩
theorem oL (w:World)(g:Nat):w.grownBy w.drew (some g):=⟨rfl,rfl,rfl,ai _,λ _ _ _=>rfl⟩
theorem Rd.only {w w':World}{A:Option Addr}{xs:List Value}{g:Nat}(h:Rd w A xs)(hg:w.grownBy w' (some g))(ho:th g A xs):Rd w' A xs:=λ hn=>by
 obtain⟨b,o,e,hc⟩:=h hn;exact⟨b,o,e,λ j u hj=>hg.cell (hc j u hj) (λ e2=>ho hn _ e (by simpa using e2))⟩
theorem Bk.only {w w':World}{k g:Nat}{t:TypeId}{cs:Array Value}(h:Bk w k t cs)(hg:w.grownBy w' (some g))(hk:k≠g):Bk w' k t cs:=(hg.block k h.lt (by simpa using hk)).trans h
theorem me {w w':World}{B g:Nat}(hg:w.grownBy w' (some g))(hB:B<=g)(hs:B<=w.heap.size):Below B w w':=
 ⟨hg.os,hg.tape,hg.output,hg.size,λ k hk=>hg.block k aa (by simp;omega)⟩
theorem kL {w w':World}{base size n:Nat}{e:TypeId}{v:Value}{xs:List Value}(h:w.ownsRow base e size v n xs)(hb:Below w.heap.size w w'):w'.ownsRow base e size v n xs:=
 h.kept (row:=none) ⟨hb.os,hb.tape,hb.output,hb.size,λ k hk _=>hb.block k hk⟩ (by cases hv:v.ownBlock<;>simp)
theorem O3 {w:World}{base n:Nat}{e:TypeId}{v:Value}{xs:List Value}(h:w.ownsRow base e 1 v n xs)(hn:0<n):∃g cap cur,v= .slice (some ⟨g,0,none⟩) n cap/\base<=g/\Bk w g e cur/\n<=cap/\cap<=maxLen/\cur.toList.take n=xs:=by
 rcases h.2 with⟨_,h0⟩|⟨g,cap,cur,hv,hb,hg,h1,h2,_,ht⟩
 ·omega
 ·exact⟨g,cap,cur,hv,hb,hg,h1,h2,by simpa using ht⟩
theorem Bk.rd {w:World}{g:Nat}{t:TypeId}{cs:Array Value}(h:Bk w g t cs)(n:Nat):Rd w (some ⟨g,0,none⟩) (cs.toList.take n):=λ _=>
 ⟨g,0,rfl,λ j u hj=>by
   rw[mL]at hj;split at hj
   ·rw[jd,h.cell];simpa using hj
   ·cases hj⟩
theorem KD {k:IntKind}{a b:Int}(h:a=b):Ending.returned (.int k a)= .returned (.int k b):=by rw[h]
theorem Vh {a b:ByteArray}(h:a.toList=b.toList):Ending.returned (.string a)= .returned (.string b):=by rw[ma h]
theorem KE {P:Program}{f:FuncId}{args:Array Value}{w:World}{n:Nat}{v:Value}(h:Calls P f args (w.drewN n) λ e w'=>e= .returned v/\w.drewN n=w'):
 Calls P f args (w.drewN n) λ e w'=>e= .returned v/\∃m,w'=w.drewN m:=
 h.mono λ _ _ ⟨a,b⟩=>⟨a,n,b.symm⟩
theorem af3 (a b:Int):wrap64 (wrap64 a*256+b)=wrap64 (a*256+b):=by unfold wrap64;omega
theorem EG (n:Int)(h1: -9223372036854775808<=n)(h2:n<=9223372036854775807):wrap64 n=n:=by unfold wrap64;omega
theorem af4 (n:Int):bits .and .i64 n 255=n%256:=by
 show IntKind.i64.wrap ((BitVec.ofInt 64 n&&&BitVec.ofInt 64 255).toNat:Int)=_;rw[BitVec.toNat_and,show(BitVec.ofInt 64 255).toNat=2^8-1 from rfl,KA,qf,aE];simp only[Nat.reducePow];omega
theorem Vi (n:Int)(b:UInt8):bits .or .i64 (wrap64 (n*256)) (b.toNat:Int)=wrap64 (n*256+(b.toNat:Int)):=by
 have hb:=gT b;show IntKind.i64.wrap ((BitVec.ofInt 64 (wrap64 (n*256))|||BitVec.ofInt 64 (b.toNat:Int)).toNat:Int)=_
 obtain⟨m,hm⟩:∃m:Nat,(BitVec.ofInt 64 (wrap64 (n*256))).toNat=2^8*m/\((2^8*m:Nat):Int)=(n*256)%18446744073709551616:=by
  refine⟨((n*256)%18446744073709551616).toNat/256,?_,?_⟩
  ·rw[qf];simp only[Nat.reducePow];unfold wrap64;omega
  ·simp only[Nat.reducePow];omega
 have h2:(BitVec.ofInt 64 (b.toNat:Int)).toNat=b.toNat:=by rw[qf];simp only[Nat.reducePow];omega
 rw[BitVec.toNat_or,hm.1,h2,<-Nat.two_pow_add_eq_or_of_lt aa,aE];have:=hm.2;clear hm h2;unfold wrap64;generalize 2^8*m=q at*;omega
end
section
namespace Ev
open Go.RowKit Go.Lib
inductive Pc
 |b (x:Nat)
 |a (k n:Nat)
 |z (n:Nat)
inductive V0
 |p (x o:Nat)
 |i (k:IntKind)(n:Int)
inductive V1
 |t (x:Bool)
 |i (k:IntKind)(n:Int)
 |s (l:List Pc)
 |p (x o:Nat)
 |pn
 |sl (x o n:Nat)(c:Option Nat)
 |sn
 |m (x:Nat)
 |mn
 |f (f:Nat)(l:List V0)
 |at(k:Nat)
inductive V2
 |o (v:V1)
 |g (l:List V1)
inductive V3
 |v (v:V2)
 |t (l:List V2)
inductive O
 |c (l:List V1)(e:Nat)
 |g (l:List V1)(e:Nat)
 |m (l:List (V1×V1×Nat))(n:Nat)
 |it (m:Nat)(n:Nat)(l:List Nat)(k:Nat)
inductive T (A:Type)
 |e
 |n (l:T A)(v:Option A)(r:T A)
namespace T
variable {A:Type}
noncomputable def get (t:T A):Nat->Option A:=T.rec (λ _=>none) (λ _ v _ l r k=>Bool.rec (Bool.rec (r (Nat.sub (Nat.div k 2) 1)) (l (Nat.div k 2)) (Nat.beq (Nat.mod k 2) 1)) v (Nat.beq k 0)) t
noncomputable def ti (f:Nat):T A->Nat->Option A->T A:=Nat.rec (λ t _ _=>t) (λ _ h t k x=>
 T.rec (Bool.rec (Bool.rec (n e none (h e (Nat.sub (Nat.div k 2) 1) x)) (n (h e (Nat.div k 2) x) none e) (Nat.beq (Nat.mod k 2) 1)) (n e x e) (Nat.beq k 0))
   (λ l v r _ _=>Bool.rec (Bool.rec (n l v (h r (Nat.sub (Nat.div k 2) 1) x)) (n (h l (Nat.div k 2) x) v r) (Nat.beq (Nat.mod k 2) 1)) (n l x r) (Nat.beq k 0)) t) f
noncomputable def set (t:T A)(k:Nat)(x:Option A):T A:=ti (Nat.succ k) t k x
def alt {A:Type}:List A->List A×List A
 |[]=>([],[])
 |x::l=>(x::(alt l).2,(alt l).1)
def of {A:Type}:Nat->List A->T A
 |0,_=>e
 |_+1,[]=>e
 |f+1,x::l=>n (of f (alt l).1) (some x) (of f (alt l).2)
end T
def Vj (P:Program):T TypeInfo:=T.of P.types.size P.types.toList
def EH (P:Program):T Func:=T.of P.funcs.size P.funcs.toList
noncomputable def inf (P:Program)(t:TypeId):Option TypeInfo:=(Vj P).get t
noncomputable def dd (P:Program)(t:TypeId):Option TypeDesc:=match inf P t with
 |some {desc:=.named _ u,.. }=>(inf P u).map (·.desc)
 |some i=>some i.desc
 |none=>none
structure S where
 h:T O
 n:Nat
noncomputable def S.put (s:S)(x:Nat)(o:O):S:={s with h:=s.h.set x (some o)}
noncomputable def S.new (s:S)(o:O):Nat×S:=(s.n,{h:=s.h.set s.n (some o),n:=s.n+1})
structure Tm where
 t:T V3
 n:Nat
 d:List (Nat×List V0)
noncomputable def Tm.get (m:Tm)(k:Nat):Option V3:=m.t.get k
noncomputable def Tm.set (m:Tm)(k:Nat)(v:V3):Tm:={m with t:=m.t.set k (some v)}
def lF:List Pc->Nat
 |[]=>0
 | .b _::l=>lF l+1
 | .a _ n::l=>lF l+n
 | .z n::l=>lF l+n
def zR:Nat->List Pc->Option (List Pc)
 |0,l=>some l
 |_+1,[]=>none
 |k+1,.b _::l=>zR k l
 |k+1,.a _ n::l=>if n<=k+1 then zR (k+1-n) l else none
 |k+1,.z n::l=>if n<=k+1 then zR (k+1-n) l else some (.z (n-(k+1))::l)
def CG:Nat->List Pc->Option (List Pc)
 |0,_=>some []
 |_+1,[]=>none
 |k+1,.b x::l=>(CG k l).map (.b x::·)
 |k+1,.a x n::l=>if n<=k+1 then(CG (k+1-n) l).map (.a x n::·)else none
 |k+1,.z n::l=>if n<=k+1 then(CG (k+1-n) l).map (.z n::·)else some [.z (k+1)]
def tp:Nat->List Pc->List Pc->Option Bool
 |0,_,_=>none
 |f+1,.z 0::l,m=>tp f l m
 |f+1,l,.z 0::m=>tp f l m
 |_+1,[],[]=>some true
 |f+1,.b x::l,.b y::m=>if x=y then tp f l m else some false
 |f+1,.a j n::l,.a k m::r=>if j=k/\n=m then tp f l r else none
 |f+1,.z (n+1)::l,.z (m+1)::r=>if n<m then tp f l (.z (m-n)::r)else if m<n then tp f (.z (n-m)::l) r else tp f l r
 |f+1,.z (n+1)::l,.b x::m=>if x=0 then tp f (.z n::l) m else some false
 |f+1,.b x::m,.z (n+1)::l=>if x=0 then tp f m (.z n::l)else some false
 |_+1,[],.b _::_=>some false
 |_+1,.b _::_,[]=>some false
 |_+1,[],.z (_+1)::_=>some false
 |_+1,.z (_+1)::_,[]=>some false
 |_+1,_,_=>none
def GD (l m:List Pc):Option Bool:=if lF l=lF m then tp (2*(lF l+l.length+m.length)+9) l m else some false
def GF (l:List UInt8):List Pc:=l.map λ x=>.b x.toNat
def KF:Value->Option V1
 | .bool b=>some (.t b)
 | .int k n=>some (.i k n)
 | .string s=>some (.s (GF s.data.toList))
 | .pointer none=>some .pn
 | .slice none 0 0=>some .sn
 | .map none=>some .mn
 | .func (.func f) ⟨[]⟩ ⟨[]⟩=>some (.f f [])
 |_=>none
def KG:List Value->Option (List V1)
 |[]=>some []
 |v::l=>match KF v,KG l with
  |some x,some m=>some (x::m)
  |_,_=>none
def KH (v:Value):Option V3:=match v with
 | .agg l=>(KG l.toList).map λ l=>.v (.g l)
 | .tuple ⟨[]⟩=>some (.t [])
 |v=>(KF v).map λ x=>.v (.o x)
noncomputable def ev (m:Tm):Operand->Option V3
 | .tmp t=>m.get t
 | .const v=>KH v
 | .global _=>none
 | .func f=>some (.v (.o (.f f [])))
noncomputable def cW (m:Tm)(x:Operand):Option V1:=match ev m x with
 |some (.v (.o v))=>some v
 |_=>none
noncomputable def qn (m:Tm)(x:Operand):Option V2:=match ev m x with
 |some (.v v)=>some v
 |_=>none
def V2.cells:V2->List V1
 | .o v=>[v]
 | .g l=>l
noncomputable def oM (m:Tm):List Operand->Option (List V2)
 |[]=>some []
 |x::l=>match qn m x,oM m l with
  |some v,some r=>some (v::r)
  |_,_=>none
def O.cells:O->Option (List V1×Nat)
 | .c l e=>some (l,e)
 | .g l e=>some (l,e)
 |_=>none
def cut (l:List V1)(o n:Nat):Option (List V1):=if o+n<=l.length then some ((l.drop o).take n)else none
def lay (l:List V1)(o:Nat)(m:List V1):Option (List V1):=if o+m.length<=l.length then some (l.take o++m++l.drop (o+m.length))else none
noncomputable def S.cut (s:S)(x o n:Nat):Option (List V1):=match s.h.get x with
 |some b=>match b.cells with
  |some (l,_)=>Ev.cut l o n
  |none=>none
 |none=>none
noncomputable def S.lay (s:S)(x o:Nat)(m:List V1):Option S:=match s.h.get x with
 |some (.c l e)=>(Ev.lay l o m).map λ l=>s.put x (.c l e)
 |some (.g l e)=>(Ev.lay l o m).map λ l=>s.put x (.g l e)
 |_=>none
variable (P:Program)
noncomputable def agg (t:TypeId):Option Bool:=match dd P t with
 |some (.struct _)|some (.array _ _)=>some true
 |some _=>some false
 |none=>none
noncomputable def jQ (t:TypeId):Option Nat:=(inf P t).map (·.size)
noncomputable def zero (t:TypeId):Option V2:=match inf P t with
 |some i=>match i.zero with
  |some v=>match KH v with
   |some (.v v)=>some v
   |_=>none
  |none=>none
 |none=>none
noncomputable def mk (t:TypeId)(l:List V1):Option V2:=match agg P t with
 |some true=>some (.g l)
 |some false=>match l with
  |[v]=>some (.o v)
  |_=>none
 |none=>none
noncomputable def KI (s:S)(t:TypeId)(x o:Nat):Option V2:=match jQ P t,agg P t with
 |some n,some true=>(s.cut x o n).map .g
 |some _,some false=>match s.cut x o 1 with
  |some [v]=>some (.o v)
  |_=>none
 |_,_=>none
noncomputable def partOf (t:TypeId)(l:List V1)(o:Nat):Option V2:=match jQ P t,agg P t with
 |some n,some true=>(cut l o n).map .g
 |some _,some false=>(cut l o 1).bind λ|[v]=>some (.o v)|_=>none
 |_,_=>none
def CI (z:List V1)(place:Nat->Option (Nat×Nat)):List (Nat×V2)->Option (List V1)
 |[]=>some z
 |(i,v)::r=>match place i with
  |some (o,n)=>if v.cells.length=n then match lay z o v.cells with
   |some z=>CI z place r
   |none=>none
   else none
  |none=>none
noncomputable def places:List Field->Option (List (Nat×Nat))
 |[]=>some []
 |f::l=>match jQ P f.type,places l with
  |some n,some r=>some ((f.offset,n)::r)
  |_,_=>none
def zeros (l:List V1)(k:Nat):List V1:=(List.range k).map λ i=>(l[i%l.length]?).getD .pn
def arith (op:BinOp)(k:IntKind)(a b:Int):Option V1:=match op with
 | .add=>some (.i k (k.wrap (a+b)))
 | .sub=>some (.i k (k.wrap (a-b)))
 | .mul=>some (.i k (k.wrap (a*b)))
 | .quo=>if b=0 then none else some (.i k (k.wrap (a.tdiv b)))
 | .rem=>if b=0 then none else some (.i k (a.tmod b))
 | .and=>some (.i k (k.wrap (BitVec.ofInt k.bits a&&&BitVec.ofInt k.bits b).toNat))
 | .or=>some (.i k (k.wrap (BitVec.ofInt k.bits a|||BitVec.ofInt k.bits b).toNat))
 | .xor=>some (.i k (k.wrap (BitVec.ofInt k.bits a^^^BitVec.ofInt k.bits b).toNat))
 | .andNot=>some (.i k (k.wrap (BitVec.ofInt k.bits a&&&~~~BitVec.ofInt k.bits b).toNat))
 | .eql=>some (.t (a==b))
 | .neq=>some (.t (a !=b))
 | .lss=>some (.t (a<b))
 | .leq=>some (.t (a<=b))
 | .gtr=>some (.t (a>b))
 | .geq=>some (.t (a≥b))
 |_=>none
def shift (op:BinOp)(k:IntKind)(a b:Int):Option V1:=if b<0 then none else match op with
 | .shl=>some (.i k (k.wrap (a*2^(min b.toNat k.bits))))
 | .shr=>some (.i k (a.fdiv (2^(min b.toNat k.bits))))
 |_=>none
def O4:V1->V1->Option Bool
 | .pn,.pn=>some true
 | .p ..,.pn=>some false
 | .pn,.p .. =>some false
 |_,_=>none
def O5:V1->V1->Option Bool
 | .sn,.sn=>some true
 | .sl _ _ _ (some _),.sn=>some false
 | .sn,.sl _ _ _ (some _)=>some false
 | .sl _ _ _ none,.sn=>some false
 | .sn,.sl _ _ _ none=>some false
 |_,_=>none
noncomputable def GG (f:TypeId->V2->V2->Option Bool)(l m:List V1):List Field->Option Bool
 |[]=>some true
 |x::r=>if x.name= "_" then GG f l m r else match partOf P x.type l x.offset,partOf P x.type m x.offset with
  |some a,some b=>match f x.type a b with
   |some true=>GG f l m r
   |o=>o
  |_,_=>none
noncomputable def KJ (f:V2->V2->Option Bool)(e:TypeId)(z:Nat)(l m:List V1):Nat->Nat->Option Bool
 |0,_=>some true
 |n+1,i=>match partOf P e l (i*z),partOf P e m (i*z)with
  |some a,some b=>match f a b with
   |some true=>KJ f e z l m n (i+1)
   |o=>o
  |_,_=>none
noncomputable def EI:Nat->TypeId->V2->V2->Option Bool
 |0,_,_,_=>none
 |d+1,t,x,y=>match dd P t,x,y with
  |some .bool,.o (.t a),.o (.t b)=>some (a==b)
  |some (.int _),.o (.i j a),.o (.i k b)=>if j=k then some (a==b)else none
  |some (.int _),.o (.at j),.o (.at k)=>if j=k then some true else none
  |some .string,.o (.s a),.o (.s b)=>GD a b
  |some (.pointer _),.o x,.o y=>O4 x y
  |some (.slice _),.o x,.o y=>O5 x y
  |some (.struct fs),.g l,.g m=>if P.stoodInHeld t then none else GG P (EI d) l m fs.toList
  |some (.array n e),.g l,.g m=>match jQ P e with
   |some z=>KJ P (EI d e) e z l m n 0
   |none=>none
  |_,_,_=>none
def typed:V2->V2->Bool
 | .o (.t _),.o (.t _)| .g _,.g _| .o .pn,.o _| .o (.p ..),.o .pn| .o .sn,.o _| .o (.sl ..),.o .sn=>true
 |_,_=>false
noncomputable def bin (op:BinOp)(t:TypeId)(x y:V2):Option V1:=match op,x,y with
 | .shl,.o (.i k a),.o (.i _ b)=>shift .shl k a b
 | .shr,.o (.i k a),.o (.i _ b)=>shift .shr k a b
 |_,.o (.i j a),.o (.i k b)=>if j=k then arith op j a b else none
 | .add,.o (.s a),.o (.s b)=>if lF a+lF b<2^62 then some (.s (a++b))else none
 | .eql,.o (.s a),.o (.s b)=>(GD a b).map .t
 | .neq,.o (.s a),.o (.s b)=>(GD a b).map λ b=>.t !b
 | .eql,x,y=>if typed x y&&!P.eqGuardType P.depth t then(EI P 9 t x y).map .t else none
 | .neq,x,y=>if typed x y&&!P.eqGuardType P.depth t then(EI P 9 t x y).map λ b=>.t !b else none
 |_,_,_=>none
def num:V1->Option Nat
 | .i _ n=>if 0<=n then some n.toNat else none
 |_=>none
def Vk (d:Nat):Option V1->Option Nat
 |none=>some d
 |some v=>num v
def bounds (len cap:Nat)(lo hi:Option V1):Option (Nat×Nat):=match Vk len hi,Vk 0 lo with
 |some h,some l=>if l<=h/\h<=cap then some (l,h)else none
 |_,_=>none
def hold:V2->Option V0
 | .o (.p x o)=>some (.p x o)
 | .o (.i k n)=>some (.i k n)
 |_=>none
noncomputable def opt (m:Tm):Option Operand->Option (Option V1)
 |none=>some none
 |some x=>(cW m x).map some
def isKey (k:IntKind)(e:V1×V1×Nat):Bool:=match e.1 with
 | .i j _=>j==k
 |_=>false
def atKey (n:Int):V1->Bool
 | .i _ q=>n==q
 |_=>false
noncomputable def q1 (m:Tm)(c:Operand)(a:Operand)(b:Operand):Option V3:=match cW m c with
 |some (.t true)=>ev m a
 |some (.t false)=>ev m b
 |_=>none
noncomputable def q2 (m:Tm)(t:TypeId)(ps:Array (Nat×Operand)):Option V3:=match zero P t,oM m (ps.toList.map (·.2))with
 |some z,some vs=>match dd P t with
  |some (.struct fs)=>match places P fs.toList with
   |some q=>(CI z.cells (λ i=>q[i]?) ((ps.toList.map (·.1)).zip vs)).map λ l=>.v (.g l)
   |none=>none
  |some (.array _ e)=>match jQ P e with
   |some n=>(CI z.cells (λ i=>some (i*n,n)) ((ps.toList.map (·.1)).zip vs)).map λ l=>.v (.g l)
   |none=>none
  |_=>none
 |_,_=>none
noncomputable def q3 (s:S)(m:Tm)(t:TypeId)(a:Operand):Option V3:=match cW m a with
 |some (.p x o)=>(KI P s t x o).map .v
 |_=>none
noncomputable def q4 (m:Tm)(x:Operand):Option V3:=match cW m x with
 |some (.p x o)=>some (.v (.o (.p x o)))
 |_=>none
noncomputable def q5 (m:Tm)(op:BinOp)(t:TypeId)(x:Operand)(y:Operand):Option V3:=match qn m x,qn m y with
 |some a,some b=>(bin P op t a b).map λ v=>.v (.o v)
 |_,_=>none
noncomputable def q6 (m:Tm)(x:Operand):Option V3:=match cW m x with
 |some (.t b)=>some (.v (.o (.t !b)))
 |_=>none
noncomputable def q7 (m:Tm)(x:Operand):Option V3:=match cW m x with
 |some (.i k n)=>some (.v (.o (.i k (k.wrap (0-n)))))
 |_=>none
noncomputable def q8 (s:S)(m:Tm)(src:TypeId)(dst:TypeId)(x:Operand):Option V3:=match dd P src,dd P dst,cW m x with
 |some _,some (.int k),some (.i _ n)=>some (.v (.o (.i k (k.wrap n))))
 |some _,some .string,some (.s l)=>some (.v (.o (.s l)))
 |_,_,_=>none
noncomputable def q9 (m:Tm)(f:FuncId)(cs:Array Operand):Option V3:=match oM m cs.toList with
 |some vs=>match vs.mapM hold with
  |some l=>some (.v (.o (.f f l)))
  |none=>none
 |none=>none
noncomputable def EJ (s:S)(m:Tm)(t:TypeId)(x:Operand)(lo:Option Operand)(hi:Option Operand):Option V3:=match cW m x,opt m lo,opt m hi with
 |some (.s l),some lo,some hi=>match dd P t with
  |some .string=>match bounds (lF l) (lF l) lo hi with
   |some (a,b)=>match zR a l with
    |some l=>(CG (b-a) l).map λ l=>.v (.o (.s l))
    |none=>none
   |none=>none
  |_=>none
 |some .sn,some lo,some hi=>match dd P t with
  |some (.slice e)=>match jQ P e,bounds 0 0 lo hi with
   |some _,some _=>some (.v (.o .sn))
   |_,_=>none
  |_=>none
 |some (.sl x o n c),some lo,some hi=>match dd P t with
  |some (.slice e)=>match jQ P e with
   |some z=>match c with
    |some c=>match bounds n c lo hi with
     |some (a,b)=>if a<c then some (.v (.o (.sl x (o+a*z) (b-a) (some (c-a)))))else none
     |none=>none
    |none=>match bounds n n lo hi,s.h.get x with
     |some (0,b),some (.g q f)=>if f=e/\0<z/\n*z<=q.length then some (.v (.o (.sl x o b none)))else none
     |_,_=>none
   |none=>none
  |_=>none
 |some (.p x o),some lo,some hi=>match dd P t with
  |some (.array n e)=>match jQ P e,bounds n n lo hi with
   |some z,some (a,b)=>if a<n then some (.v (.o (.sl x (o+a*z) (b-a) (some (n-a)))))else none
   |_,_=>none
  |_=>none
 |_,_,_=>none
noncomputable def KK (m:Tm)(t:TypeId)(x:Operand)(k:Nat):Option V3:=match cW m x,dd P t with
 |some (.p x o),some (.struct fs)=>match fs[k]? with
  |some f=>match jQ P f.type with
   |some (_+1)=>some (.v (.o (.p x (o+f.offset))))
   |_=>none
  |none=>none
 |_,_=>none
noncomputable def KL (m:Tm)(t:TypeId)(x:Operand)(k:Nat):Option V3:=match qn m x,dd P t with
 |some (.g l),some (.struct fs)=>match fs[k]? with
  |some f=>(partOf P f.type l f.offset).map .v
  |none=>none
 |_,_=>none
noncomputable def iB (m:Tm)(t:TypeId)(x:Operand)(i:Operand):Option V3:=match cW m i with
 |some (.i _ i)=>match dd P t,cW m x with
  |some (.array n e),some (.p x o)=>match jQ P e with
   |some z=>if 0<=i/\i<n then some (.v (.o (.p x (o+i.toNat*z))))else none
   |none=>none
  |some (.slice e),some (.sl x o n _)=>match jQ P e with
   |some z=>if 0<=i/\i<n then some (.v (.o (.p x (o+i.toNat*z))))else none
   |none=>none
  |_,_=>none
 |_=>none
noncomputable def dg (s:S)(m:Tm)(t:TypeId)(x:Operand)(i:Operand):Option V3:=match cW m i,dd P t,qn m x with
 |some (.i _ i),some (.array n e),some (.g l)=>match jQ P e with
  |some z=>if 0<=i/\i<n then(partOf P e l (i.toNat*z)).map .v else none
  |none=>none
 |some (.i _ i),some .string,some (.o (.s l))=>if 0<=i then match zR i.toNat l with
  |some (.b x::_)=>some (.v (.o (.i .u8 x)))
  |_=>none
  else none
 |_,_,_=>none
noncomputable def tq (m:Tm)(t:Operand)(k:Nat):Option V3:=match ev m t with
 |some (.t l)=>l[k]?.map .v
 |_=>none
noncomputable def KM (s:S)(m:Tm)(t:TypeId)(x:Operand)(i:Operand)(ok:Bool):Option V3:=match dd P t,cW m x,cW m i with
 |some (.map q e),some (.m r),some (.i k n)=>match dd P q,s.h.get r,zero P e with
  |some (.int _),some (.m es _),some z=>if es.all (isKey k)then match es.find? (λ e=>atKey n e.1)with
   |some e=>some (if ok then .t [.o e.2.1,.o (.t true)]else .v (.o e.2.1))
   |none=>some (if ok then .t [z,.o (.t false)]else .v z)
   else none
  |_,_,_=>none
 |_,_,_=>none
noncomputable def KN (s:S)(m:Tm)(it:Operand):Option V3:=match cW m it with
 |some (.p x 0)=>match s.h.get x with
  |some (.it r _ seen k)=>match s.h.get r,seen.getLast? with
   |some (.m es c),some b=>if c=k then match es.find? (λ e=>e.2.2=b)with
    |some e=>some (.t [.o e.1,.o e.2.1])
    |none=>none
    else none
   |_,_=>none
  |_=>none
 |_=>none
noncomputable def KO (s:S)(m:Tm)(args:Array Operand)(argTypes:Array TypeId):Option V3:=match argTypes.toList,args.toList with
 |[t],[x]=>match dd P t,cW m x with
  |some .string,some (.s l)=>some (.v (.o (.i .i64 (lF l))))
  |some (.slice _),some .sn=>some (.v (.o (.i .i64 0)))
  |some (.slice _),some (.sl _ _ n _)=>some (.v (.o (.i .i64 n)))
  |_,_=>none
 |_,_=>none
noncomputable def KP (m:Tm)(args:Array Operand):Option V3:=match oM m args.toList with
 |some [.o (.i k a),.o (.i _ b)]=>some (.v (.o (.i k (if b>a then b else a))))
 |_=>none
noncomputable def KQ (m:Tm)(args:Array Operand):Option V3:=match oM m args.toList with
 |some [.o (.i k a),.o (.i _ b)]=>some (.v (.o (.i k (if b<a then b else a))))
 |_=>none
noncomputable def quiet (s:S)(m:Tm)(o:Oper):Option V3:=match o.op with
 | .move x| .assign x=>ev m x
 | .pick c a b=>q1 m c a b
 | .build t ps=>q2 P m t ps
 | .load t a=>q3 P s m t a
 | .nilCheck x=>q4 m x
 | .binOp op t x y _=>q5 P m op t x y
 | .unOp .not _ x=>q6 m x
 | .unOp .neg _ x=>q7 m x
 | .convert src dst x=>q8 P s m src dst x
 | .makeFunc (.func f) ⟨[]⟩ cs=>q9 m f cs
 | .slice t x lo hi none=>EJ P s m t x lo hi
 | .fieldAddr t x k=>KK P m t x k
 | .field t x k=>KL P m t x k
 | .indexAddr t x i=>iB P m t x i
 | .index t x i=>dg P s m t x i
 | .extract t k=>tq m t k
 | .lookup t x i ok=>KM P s m t x i ok
 | .entry it=>KN s m it
 | .call {callee:=.builtin .len,args,argTypes}=>KO P s m args argTypes
 | .call {callee:=.builtin .max,args,.. }=>KP m args
 | .call {callee:=.builtin .min,args,.. }=>KQ m args
 |_=>none
noncomputable def app (s:S)(e z:Nat)(b:V1)(k:Nat)(l:List V1):Option (V1×S):=match b with
 | .sn=>if k=0 then none else let r:=s.new (.g l e);some (.sl r.1 0 k none,r.2)
 | .sl x o n (some c)=>if c<n+k/\n<=100000 then match s.cut x o (n*z)with
  |some q=>let r:=s.new (.g (q++l) e);some (.sl r.1 0 (n+k) none,r.2)
  |none=>none
  else none
 | .sl x 0 n none=>match s.h.get x with
   |some (.g q f)=>if f=e/\n*z<=q.length/\n<=100000 then
    let r:=S.new {s with h:=s.h.set x none} (.g (q.take (n*z)++l) e)
    some (.sl r.1 0 (n+k) none,r.2)
    else none
   |_=>none
 |_=>none
noncomputable def l0 (s:S)(e:TypeId):Option (V3×S):=match zero P e with
 |some z=>let r:=s.new (.c z.cells e);some (.v (.o (.p r.1 0)),r.2)
 |none=>none
noncomputable def l1 (s:S)(m:Tm)(e:TypeId)(x:Operand):Option (V3×S):=match qn m x with
 |some v=>let r:=s.new (.c v.cells e);some (.v (.o (.p r.1 0)),r.2)
 |none=>none
noncomputable def l2 (s:S)(m:Tm)(t:TypeId)(n:Nat)(ps:Array (Nat×Operand)):Option (V3×S):=match dd P t with
 |some (.slice e)=>match jQ P e,oM m (ps.toList.map (·.2))with
  |some z,some vs=>if 2^24<n*z then none else match zero P e with
   |some zv=>match(if zv.cells.length=0 then none else CI (zeros zv.cells (n*z)) (λ i=>some (i*z,z)) ((ps.toList.map (·.1)).zip vs))with
    |some l=>let r:=s.new (.c l e);some (.v (.o (.sl r.1 0 n (some n))),r.2)
    |none=>none
   |none=>none
  |_,_=>none
 |_=>none
noncomputable def l3 (s:S)(m:Tm)(t:TypeId)(a:Operand)(b:Operand):Option (V3×S):=match dd P t,cW m a,cW m b with
 |some (.slice e),some (.i _ n),some (.i _ c)=>match inf P e,zero P e with
  |some i,some zv=>if n=c/\0<n/\n<100000/\i.bytes<=100000/\0<zv.cells.length then
   let r:=s.new (.c (zeros zv.cells (n.toNat*i.size)) e)
   some (.v (.o (.sl r.1 0 n.toNat (some n.toNat))),r.2)
   else none
  |_,_=>none
 |_,_,_=>none
noncomputable def l5 (s:S)(m:Tm)(t:TypeId)(a:Operand)(x:Operand):Option (V3×S):=match cW m a,qn m x with
 |some (.p x o),some v=>if jQ P t=some v.cells.length then(s.lay x o v.cells).map λ s=>(.t [],s)else none
 |_,_=>none
noncomputable def l6 (s:S)(m:Tm)(t:TypeId)(a:Operand)(k:Operand)(x:Operand):Option (V3×S):=match dd P t,cW m a,cW m k,cW m x with
 |some (.map u _),some (.m r),some (.i j q),some v=>match dd P u,s.h.get r with
  |some (.int _),some (.m es c)=>if es.all (isKey j)&&!es.any (λ e=>atKey q e.1)then some (.t [],s.put r (.m (es++[(.i j q,v,c)]) (c+1)))else none
  |_,_=>none
 |_,_,_,_=>none
noncomputable def l7 (s:S)(m:Tm)(t:TypeId)(x:Operand):Option (V3×S):=match dd P t,cW m x with
 |some (.map _ _),some (.m r)=>match s.h.get r with
  |some (.m _ c)=>let q:=s.new (.it r c [] c);some (.v (.o (.p q.1 0)),q.2)
  |_=>none
 |_,_=>none
noncomputable def l8 (s:S)(m:Tm)(args:Array Operand)(argTypes:Array TypeId):Option (V3×S):=match argTypes.toList,args.toList with
 |[t],[x]=>match dd P t,cW m x with
  |some (.map _ _),some (.m r)=>match s.h.get r with
   |some (.m _ c)=>some (.t [],s.put r (.m [] c))
   |_=>none
  |_,_=>none
 |_,_=>none
noncomputable def l9 (s:S)(m:Tm)(args:Array Operand)(argTypes:Array TypeId):Option (V3×S):=match argTypes.toList,args.toList with
 |[t,u],[x,y]=>match dd P t with
  |some (.slice e)=>match inf P e,zero P e,cW m x,cW m y with
   |some i,some zv,some b,some (.sl y q k _)=>if t=u/\zv.cells.length=i.size/\0<i.size/\i.bytes<=100000/\k<=100000 then match s.cut y q (k*i.size)with
    |some l=>(app s e i.size b k l).map λ r=>(.v (.o r.1),r.2)
    |none=>none
    else none
   |_,_,_,_=>none
  |_=>none
 |_,_=>none
noncomputable def KR (s:S)(m:Tm)(args:Array Operand)(argTypes:Array TypeId):Option (V3×S):=match argTypes.toList,args.toList with
 |t::_,[x,y]=>match dd P t with
  |some (.slice e)=>match jQ P e,cW m x,cW m y with
   |some z,some (.sl x o n _),some (.sl y q k _)=>match s.cut y q (min n k*z)with
    |some l=>(s.lay x o l).map λ s=>(.v (.o (.i .i64 (min n k:Nat))),s)
    |none=>none
   |some _,some (.sl ..),some .sn=>some (.v (.o (.i .i64 0)),s)
   |_,_,_=>none
  |_=>none
 |_,_=>none
noncomputable def loud (s:S)(m:Tm)(o:Oper):Option (V3×S):=match o.op with
 | .alloc e=>l0 P s e
 | .box e x=>l1 s m e x
 | .buildSlice t n ps=>l2 P s m t n ps
 | .makeSlice t a b=>l3 P s m t a b
 | .makeMap _ none=>let r:=s.new (.m [] 0);some (.v (.o (.m r.1)),r.2)
 | .store t a x=>l5 P s m t a x
 | .mapUpdate t a k x=>l6 P s m t a k x
 | .range t x=>l7 P s m t x
 | .call {callee:=.builtin .clear,args,argTypes}=>l8 P s m args argTypes
 | .call {callee:=.builtin .append,args,argTypes}=>l9 P s m args argTypes
 | .call {callee:=.builtin .copy,args,argTypes,.. }=>KR P s m args argTypes
 |_=>none
end Ev
end
section
namespace Ev
open Go.RowKit Go.Lib
def Pc.same:Pc->Pc->Bool
 | .b x,.b y=>x==y
 | .a k n,.a j m=>k==j&&n==m
 | .z n,.z m=>n==m
 |_,_=>false
def V0.same:V0->V0->Bool
 | .p x o,.p y q=>x==y&&o==q
 | .i j x,.i k y=>j==k&&x==y
 |_,_=>false
def yo {A:Type}(f:A->A->Bool):List A->List A->Bool
 |[],[]=>true
 |x::l,y::r=>f x y&&yo f l r
 |_,_=>false
def V1.same:V1->V1->Bool
 | .t x,.t y=>x==y
 | .i j x,.i k y=>j==k&&x==y
 | .s l,.s r=>yo Pc.same l r
 | .p x o,.p y q=>x==y&&o==q
 | .pn,.pn=>true
 | .sl x o n c,.sl y q j d=>x==y&&o==q&&n==j&&c==d
 | .sn,.sn=>true
 | .m x,.m y=>x==y
 | .mn,.mn=>true
 | .f x l,.f y r=>x==y&&yo V0.same l r
 | .at x,.at y=>x==y
 |_,_=>false
def V2.same:V2->V2->Bool
 | .o x,.o y=>x.same y
 | .g l,.g r=>yo V1.same l r
 |_,_=>false
def V3.same:V3->V3->Bool
 | .v x,.v y=>x.same y
 | .t l,.t r=>yo V2.same l r
 |_,_=>false
inductive Ex
 |n
 |x (id:Nat)
 |r
inductive Do
 |code (c:Code)(m:Tm)(s:S)(k:Ex->Tm->S->Bool)
 |call (f:Nat)(args:List V2)(s:S)(k:V3->S->Bool)
 |ops (all:Array Oper)(l:List Oper)(m:Tm)(s:S)(k:Tm->S->Bool)
 |leave (ds:List (Nat×List V0))(m:Tm)(s:S)(rs:List ResultVar)(k:V3->S->Bool)
 |zS (all:Array Oper)(es:List Nat)(x:Nat)(d:Nat)(m:Tm)(s:S)(k:Tm->S->Bool)
def km (o:Oper):Bool:=match o.op with
 | .assign _| .box .. | .buildSlice .. | .makeSlice .. | .makeMap .. | .store .. | .mapUpdate .. | .range .. | .next .. =>true
 | .call {callee:=.builtin .len,.. }| .call {callee:=.builtin .max,.. }| .call {callee:=.builtin .min,.. }=>false
 | .call _=>true
 |_=>false
def GH (o:Oper):Option Nat:=match o.op with
 | .alloc e=>some e
 |_=>none
def reads (o:Oper):Bool:=match o.op with
 | .load .. | .lookup .. | .entry .. | .alloc .. | .slice .. =>true
 |_=>false
noncomputable def want (all:Array Oper)(m:Tm)(o:Oper):Option Bool:=match o.guard with
 |none=>some true
 |some (j,b)=>match all[j]? with
  |some g=>match g.dst with
   |some d=>match m.get d with
    |some (.v (.o (.t c)))=>some (c==b)
    |some (.t [])=>some false
    |_=>none
   |none=>none
  |none=>none
noncomputable def ft (m:Tm)(o:Oper)(v:V3):Tm:=match o.dst with
 |some d=>m.set d v
 |none=>m
def fits (m:Tm)(o:Oper):Bool:=match o.dst with
 |some d=>d<m.n
 |none=>true
def oN:List Oper->List Nat->List Nat
 |[],r=>r
 |o::l,r=>oN l (r++[o.after.toList.foldl (λ b e=>if Region.binds .any e then b|||2^e.on|||(r[e.on]?).getD 0 else b) 0])
def slots (all:Array Oper)(o:Oper):List Nat:=
 (o.op.operands.toList.filterMap λ| .tmp t=>some t|_=>none)++(match o.guard with
   |some (j,_)=>match all[j]? with
    |some g=>g.dst.toList
    |none=>[]
   |none=>[])
def mP (bf:List Nat)(i j:Nat):Bool:=((bf[i]?).getD 0).testBit j
def KS (ops:Array Oper)(bf:List Nat)(x:Oper)(i:Nat)(y:Oper)(j:Nat):Bool:=
 (!km x||!km y||i==j||mP bf i j||mP bf j i)&&
   match x.dst with
   |some d=>(i==j||y.dst !=some d)&&(!(slots ops y).contains d||(i !=j&&mP bf j i)||(km y&&(i==j||mP bf i j))||(km x&&mP bf i j))
   |none=>true
def apart (ops:Array Oper)(bf:List Nat):Bool:=
 ops.toList.zipIdx.all λ (x,i)=>x.after.toList.all (λ e=>!Region.binds .any e||e.on<i)&&ops.toList.zipIdx.all λ (y,j)=>KS ops bf x i y j
variable (P:Program)
noncomputable def pre:List Oper->Nat->T O->Option (T O)
 |[],_,h=>some h
 |o::l,x,h=>match GH o with
  |some e=>match o.guard,zero P e with
   |none,some z=>pre l (x+1) (h.set x (some (.c z.cells e)))
   |_,_=>none
  |none=>pre l (x+1) h
noncomputable def qo (x:Nat)(s:S)(m:Tm)(i:Nat)(o:Oper):Option V3:=match GH o with
 |some e=>match zero P e,s.h.get (x+i)with
  |some z,some (.c l f)=>if f=e/\yo V1.same l z.cells then some (.v (.o (.p (x+i) 0)))else none
  |_,_=>none
 |none=>quiet P s m o
def ready (d:Nat)(o:Oper):Bool:=o.after.toList.all λ e=>!Region.binds .any e||d.testBit e.on
noncomputable def CJ (all:Array Oper)(x:Nat)(s:S):List Oper->Nat->Nat->Tm->Option (Nat×Tm)
 |[],_,d,m=>some (d,m)
 |o::l,i,d,m=>if d.testBit i||km o||!ready d o then CJ all x s l (i+1) d m else match want all m o with
  |some true=>match qo P x s m i o with
   |some v=>CJ all x s l (i+1) (d|||2^i) (ft m o v)
   |none=>none
  |some false=>CJ all x s l (i+1) (d|||2^i) (ft m o (.t []))
  |none=>none
noncomputable def still (all:Array Oper)(x:Nat)(b d:Nat)(m:Tm)(s:S):List Oper->Nat->Bool
 |[],_=>true
 |o::l,i=>(if d.testBit i&&reads o&&!b.testBit i then match want all m o with
   |some true=>match qo P x s m i o,o.dst with
    |some v,some t=>match m.get t with
     |some u=>v.same u
     |none=>false
    |_,_=>false
   |_=>true
  else true)&&still all x b d m s l (i+1)
noncomputable def results (m:Tm)(s:S):List ResultVar->Option (List V2)
 |[]=>some []
 | .tmp t::l=>match m.get t,results m s l with
   |some (.v v),some r=>some (v::r)
   |_,_=>none
 | .cell a t::l=>match m.get a,results m s l with
   |some (.v (.o (.p x o))),some r=>(KI P s t x o).map (·::r)
   |_,_=>none
noncomputable def args (l:List V2):Nat->Tm->Tm:=match l with
 |[]=>λ _ m=>m
 |v::l=>λ i m=>args l (i+1) (m.set i (.v v))
abbrev uA:=Nat->List V2->S->Option (V3×S)
variable (K:uA)
def V0.up:V0->V2
 | .p x o=>.o (.p x o)
 | .i k n=>.o (.i k n)
noncomputable def deferred (m:Tm)(o:Oper):Option (Nat×List V0):=match o.op with
 | .defer {callee:=.value f,args:=⟨[]⟩,.. }=>match cW m f with
   |some (.f g l)=>some (g,l)
   |_=>none
 |_=>none
noncomputable def exec (r:Do->Bool)(m:Tm)(s:S)(o:Oper)(k:V3->S->Bool):Bool:=
 match quiet P s m o with
 |some v=>k v s
 |none=>match loud P s m o with
  |some (v,s)=>k v s
  |none=>match o.op with
   | .call {callee:=.value f,args,.. }=>match cW m f,oM m args.toList with
     |some (.f g l),some vs=>r (.call g (vs++l.map V0.up) s k)
     |_,_=>false
   | .next it false=>match cW m it with
     |some (.p x 0)=>match s.h.get x with
      |some (.it q n seen z)=>match s.h.get q with
       |some (.m es c)=>if !seen.isEmpty&&!es.isEmpty&&es.all (λ e=>z<=e.2.2)then false else let left:=es.filter λ e=>!seen.contains e.2.2
        if left.any λ e=>n<=e.2.2 then false else
        if left.isEmpty then k (.t [.o (.t false)]) {s with h:=s.h.set x none}else
        left.all λ e=>k (.t [.o (.t true),.o e.1,.o e.2.1]) (s.put x (.it q n (seen++[e.2.2]) c))
       |_=>false
      |_=>false
     |_=>false
   |_=>false
noncomputable def step (r:Do->Bool):Do->Bool
 | .code .skip m s k=>k .n m s
 | .code (.label _) m s k=>k .n m s
 | .code (.seq a b) m s k=>r (.code a m s λ| .n,m,s=>r (.code b m s k)|e,m,s=>k e m s)
 | .code (.cond c a b) m s k=>match cW m c with
   |some (.t true)=>r (.code a m s k)
   |some (.t false)=>r (.code b m s k)
   |_=>false
 | .code (.block i c) m s k=>r (.code c m s λ| .x j,m,s=>if j=i then k .n m s else k (.x j) m s|e,m,s=>k e m s)
 | .code (.loop c) m s k=>r (.code c m s λ| .n,m,s=>r (.code (.loop c) m s k)|e,m,s=>k e m s)
 | .code (.scope c) m s k=>r (.code c m s k)
 | .code (.exit i) m s k=>k (.x i) m s
 | .code .ret m s k=>k .r m s
 | .code (.region _ ops false) m s k=>r (.ops ops ops.toList m s (k .n))
 | .code (.region _ ops true) m s k=>if !(ops.toList.all (fits m)&&apart ops (oN ops.toList []))then false else match pre P ops.toList s.n s.h with
   |some h=>r (.zS ops ((List.range ops.size).filter λ i=>(ops[i]?).any km) s.n 0 m {h:=h,n:=s.n+ops.size} (k .n))
   |none=>false
 | .code _ _ _ _=>false
 | .ops _ [] m s k=>k m s
 | .ops all (o::l) m s k=>fits m o&&match want all m o with
   |some true=>match deferred m o with
    |some d=>r (.ops all l (ft {m with d:=d::m.d} o (.t [])) s k)
    |none=>exec P r m s o λ v s=>r (.ops all l (ft m o v) s k)
   |some false=>r (.ops all l (ft m o (.t [])) s k)
   |none=>false
 | .zS all es x d m s k=>match CJ P all x s all.toList 0 d m with
   |none=>false
   |some (d,m)=>match es with
    |[]=>(List.range all.size).all (λ i=>d.testBit i)&&k m s
    |i::es=>match all[i]? with
     |none=>false
     |some o=>km o&&!d.testBit i&&ready d o&&match want all m o with
      |some true=>exec P r m s o λ v s=>still P all x (((oN all.toList [])[i]?).getD 0) d m s all.toList 0&&r (.zS all es x (d|||2^i) (ft m o v) s k)
      |some false=>r (.zS all es x (d|||2^i) (ft m o (.t [])) s k)
      |none=>false
 | .call f ar s k=>match K f ar s with
   |some (v,s)=>k v s
   |none=>match(EH P).get f with
    |some fn=>match fn.body with
     |some c=>r (.code c (args ar 0 {t:=.e,n:=fn.ntmps,d:=[]}) s λ
      | .x _,_,_=>false
      |_,m,s=>r (.leave m.d m s fn.results.toList k))
     |none=>false
    |none=>false
 | .leave [] m s rs k=>match results P m s rs with
   |some [v]=>k (.v v) s
   |some l=>k (.t l) s
   |none=>false
 | .leave ((g,l)::ds) m s rs k=>match(EH P).get g with
   |some fn=>match fn.body with
    |some c=>r (.code c (args (l.map V0.up) 0 {t:=.e,n:=fn.ntmps,d:=[]}) s λ
     | .x _,_,_=>false
     |_,m',s=>m'.d.isEmpty&&fn.results.isEmpty&&r (.leave ds m s rs k))
    |none=>false
   |none=>false
noncomputable def run:Nat->Do->Bool
 |0,_=>false
 |n+1,c=>step P K (run n) c
end Ev
end
section
namespace Ev
open Go.RowKit Go.Lib
theorem T.tr {A:Type}(k:Nat):(T.e:T A).get k=none:=rfl
theorem EK {A:Type}(x y:A)(a b:Nat):(Bool.rec x y (Nat.beq a b):A)=if a=b then y else x:=by
 by_cases h:a=b
 ·rw[if_pos h,h,Nat.beq_refl]
 ·rw[if_neg h]
  cases hb:Nat.beq a b with
  |true=>exact absurd (Nat.eq_of_beq_eq_true hb) h
  |false=>rfl
theorem T.yq {A:Type}(l r:T A)(v:Option A)(k:Nat):(T.n l v r).get k=if k=0 then v else if k%2=1 then l.get (k/2)else r.get (k/2-1):=by
 show(Bool.rec (Bool.rec (r.get (k/2-1)) (l.get (k/2)) (Nat.beq (k%2) 1)) v (Nat.beq k 0):Option A)=_;rw[EK,EK]
theorem T.af5 {A:Type}(f k:Nat)(x:Option A):T.ti (f+1) T.e k x=if k=0 then n e x e else if k%2=1 then n (ti f e (k/2) x) none e else n e none (ti f e (k/2-1) x):=by
 show(Bool.rec (Bool.rec (n e none (ti f e (k/2-1) x)) (n (ti f e (k/2) x) none e) (Nat.beq (k%2) 1)) (n e x e) (Nat.beq k 0):T A)=_;rw[EK,EK]
theorem T.af6 {A:Type}(f k:Nat)(l r:T A)(v x:Option A):T.ti (f+1) (T.n l v r) k x=if k=0 then n l x r else if k%2=1 then n (ti f l (k/2) x) v r else n l v (ti f r (k/2-1) x):=by
 show(Bool.rec (Bool.rec (n l v (ti f r (k/2-1) x)) (n (ti f l (k/2) x) v r) (Nat.beq (k%2) 1)) (n l x r) (Nat.beq k 0):T A)=_;rw[EK,EK]
theorem T.af7 {A:Type}(f:Nat):∀(t:T A) (k j:Nat) (x:Option A),k<f->(T.ti f t k x).get j=if j=k then x else t.get j:=by
 induction f with
 |zero=>intro t k j x h;omega
 |succ f ih=>
  intro t k j x h
  cases t with
  |e=>
   rw[T.af5];by_cases hk:k=0
   ·subst hk;simp only[if_true,T.tr,T.yq];by_cases hj:j=0
    ·simp[hj,T.tr]
    ·simp[hj,T.tr]
   ·rw[if_neg hk];by_cases h2:k%2=1
    ·rw[if_pos h2];simp only[T.tr,T.yq];by_cases hj:j=0
     ·rw[if_pos hj,if_neg aa]
     ·rw[if_neg hj];by_cases h3:j%2=1
      ·rw[if_pos h3,ih _ _ _ _ aa];simp only[T.tr,T.yq];by_cases e:j=k
       ·rw[if_pos aa,if_pos e]
       ·rw[if_neg aa,if_neg e]
      ·rw[if_neg h3,if_neg aa]
    ·rw[if_neg h2];simp only[T.tr,T.yq];by_cases hj:j=0
     ·rw[if_pos hj,if_neg aa]
     ·rw[if_neg hj];by_cases h3:j%2=1
      ·rw[if_pos h3,if_neg aa]
      ·rw[if_neg h3,ih _ _ _ _ aa];simp only[T.tr,T.yq];by_cases e:j=k
       ·rw[if_pos aa,if_pos e]
       ·rw[if_neg aa,if_neg e]
  |n l v r=>
   rw[T.af6];by_cases hk:k=0
   ·subst hk;simp only[if_true,T.tr,T.yq];by_cases hj:j=0
    ·simp[hj,T.tr]
    ·simp[hj,T.tr]
   ·rw[if_neg hk];by_cases h2:k%2=1
    ·rw[if_pos h2];simp only[T.tr,T.yq];by_cases hj:j=0
     ·rw[if_pos hj,if_pos hj,if_neg aa]
     ·rw[if_neg hj,if_neg hj];by_cases h3:j%2=1
      ·rw[if_pos h3,if_pos h3,ih _ _ _ _ aa];by_cases e:j=k
       ·rw[if_pos aa,if_pos e]
       ·rw[if_neg aa,if_neg e]
      ·rw[if_neg h3,if_neg h3,if_neg aa]
    ·rw[if_neg h2];simp only[T.tr,T.yq];by_cases hj:j=0
     ·rw[if_pos hj,if_pos hj,if_neg aa]
     ·rw[if_neg hj,if_neg hj];by_cases h3:j%2=1
      ·rw[if_pos h3,if_pos h3,if_neg aa]
      ·rw[if_neg h3,if_neg h3,ih _ _ _ _ aa];by_cases e:j=k
       ·rw[if_pos aa,if_pos e]
       ·rw[if_neg aa,if_neg e]
theorem T.tt {A:Type}(t:T A)(k j:Nat)(x:Option A):(t.set k x).get j=if j=k then x else t.get j:=T.af7 _ t k j x aa
theorem T.Vl {A:Type}:∀(l:List A) (i:Nat),(T.alt l).1[i]? =l[2*i]? /\(T.alt l).2[i]? =l[2*i+1]? :=by
 intro l;induction l with
 |nil=>intro i;simp[alt]
 |cons x l ih=>
  intro i;refine⟨?_,(ih i).1⟩
  cases i with
  |zero=>rfl
  |succ i=>simp only[alt,eF];rw[(ih i).2];rw[show 2*(i+1)=2*i+1+1 by omega,eF]
theorem T.af8 {A:Type}:∀(l:List A),(T.alt l).1.length<=l.length/\(T.alt l).2.length<=l.length:=by
 intro l;induction l with
 |nil=>simp[alt]
 |cons x l ih=>simp[alt];omega
theorem T.Vm {A:Type}:∀(f:Nat) (l:List A),l.length<=f->∀k,(T.of f l).get k=l[k]? :=by
 intro f;induction f with
 |zero=>intro l h k;cases l with|nil=>rfl|cons _ _=>simp at h
 |succ f ih=>
  intro l h k
  cases l with
  |nil=>rfl
  |cons x l=>
   simp only[aU]at h;have hl:=T.af8 l;simp only[of,T.yq];by_cases hk:k=0
   ·subst hk;rfl
   ·rw[if_neg hk];obtain⟨j,rfl⟩:∃j,k=j+1:=⟨k-1,aa⟩;rw[eF];by_cases h2:(j+1)%2=1
    ·rw[if_pos h2,ih _ aa,(T.Vl l _).1];congr 1;omega
    ·rw[if_neg h2,ih _ aa,(T.Vl l _).2];congr 1;omega
theorem uB {P:Program}{t:TypeId}{d}(h:inf P t=some d):P.info? t=some d:=by
 unfold inf Vj at h;rw[T.Vm _ _ aj,rM]at h;have hl:=(kZ.1 h).1;show Tables.info? _ t=_;unfold Tables.info?;rw[if_pos hl];exact h
theorem zT {P:Program}{t:TypeId}{d}(h:dd P t=some d):P.underlying t=some d:=by
 unfold dd at h;unfold Program.underlying;split at h
 ·rename_i he;rw[uB he];obtain⟨i,hi,rfl⟩:=bp.1 h;simp only[uB hi,Option.map_some]
 ·rename_i i aS he;rw[uB he]
  cases h
  split
  ·rename_i h2;cases h2;exact absurd rfl (aS _ _ _ _ _ _ _ _ _ _ _)
  ·rename_i h2;cases h2;rfl
  ·rename_i h2;cases h2
 ·cases h
theorem dT {P:Program}{t:TypeId}{d}(h:dd P t=some d){w:World}:(underlying t).run P w= .ok d w:=rV (zT h) w
structure Th where
 bw:Nat->Option Nat
 cap:Nat->Option Nat
 str:Nat->Option (List UInt8)
 num:Nat->Option Int
 law:(Nat->Option (List UInt8))->(Nat->Option Int)->Prop
 ok:law str num
structure Th.le (a b:Th):Prop where
 bw:∀x y,a.bw x=some y->b.bw x=some y
 cap:∀x y,a.cap x=some y->b.cap x=some y
 str:∀x y,a.str x=some y->b.str x=some y
 num:∀x y,a.num x=some y->b.num x=some y
 law:b.law=a.law
theorem Th.le.refl (a:Th):a.le a:=⟨λ _ _ h=>h,λ _ _ h=>h,λ _ _ h=>h,λ _ _ h=>h,rfl⟩
theorem Th.le.trans {a b c:Th}(h:a.le b)(k:b.le c):a.le c:=⟨λ x y e=>k.1 _ _ (h.1 x y e),λ x y e=>k.2 _ _ (h.2 x y e),λ x y e=>k.3 _ _ (h.3 x y e),λ x y e=>k.4 _ _ (h.4 x y e),k.5.trans h.5⟩
variable (θ:Th)
def cE:List Pc->Option (List UInt8)
 |[]=>some []
 | .b x::l=>if x<256 then(cE l).map (UInt8.ofNat x::·)else none
 | .a k n::l=>match θ.str k,cE l with
   |some s,some r=>if s.length=n then some (s++r)else none
   |_,_=>none
 | .z n::l=>(cE l).map (List.replicate n 0++·)
def wO:V0->Option Value
 | .p x o=>(θ.bw x).map λ b=>.pointer (some ⟨b,o,none⟩)
 | .i k n=>some (.int k n)
def br:V1->Option Value
 | .t x=>some (.bool x)
 | .i k n=>some (.int k n)
 | .s l=>(cE θ l).map λ b=>.string ⟨b.toArray⟩
 | .p x o=>(θ.bw x).map λ b=>.pointer (some ⟨b,o,none⟩)
 | .pn=>some (.pointer none)
 | .sl x o n (some c)=>(θ.bw x).map λ b=>.slice (some ⟨b,o,none⟩) n c
 | .sl x o n none=>(θ.bw x).bind λ b=>(θ.cap x).map λ c=>.slice (some ⟨b,o,none⟩) n c
 | .sn=>some (.slice none 0 0)
 | .m x=>(θ.bw x).map λ b=>.map (some b)
 | .mn=>some (.map none)
 | .f g l=>(l.mapM (wO θ)).map λ l=>.func (.func g) #[] l.toArray
 | .at k=>(θ.num k).map (.int .i64)
def cf:List V1->Option (List Value)
 |[]=>some []
 |v::l=>(br θ v).bind λ x=>(cf l).map (x::·)
def cX:V2->Option Value
 | .o v=>br θ v
 | .g l=>(cf θ l).map λ l=>.agg l.toArray
def ew:List V2->Option (List Value)
 |[]=>some []
 |v::l=>(cX θ v).bind λ x=>(ew l).map (x::·)
def dQ:V3->Option Value
 | .v v=>cX θ v
 | .t l=>(ew θ l).map λ l=>.tuple l.toArray
def gY:List (V1×V1×Nat)->Option (List MapEntry)
 |[]=>some []
 |e::l=>(br θ e.1).bind λ k=>(br θ e.2.1).bind λ v=>(gY l).map (⟨k,v,e.2.2⟩::·)
variable {θ} {aF:Th}
theorem af9 (h:θ.le aF):∀{l b},cE θ l=some b->cE aF l=some b:=by
 intro l;induction l with
 |nil=>exact λ h=>h
 |cons p l ih=>
  intro b hb
  cases p with
  |b x=>
   simp only[cE]at hb⊢;split at hb
   ·obtain⟨r,hr,rfl⟩:=bp.1 hb;rw[ih hr,if_pos ‹_›];rfl
   ·cases hb
  |a k n=>
   simp only[cE]at hb⊢;split at hb
   ·rename_i s r hs hr;rw[h.str _ _ hs,ih hr];exact hb
   ·cases hb
  |z n=>simp only[cE]at hb⊢;obtain⟨r,hr,rfl⟩:=bp.1 hb;rw[ih hr];rfl
theorem Vn (h:θ.le aF){v V}:wO θ v=some V->wO aF v=some V:=by
 intro e
 cases v with
 |p x o=>simp only[wO]at e⊢;obtain⟨r,hr,rfl⟩:=bp.1 e;rw[h.bw _ _ hr];rfl
 |i k n=>exact e
theorem mapM_mono {A B:Type}{f g:A->Option B}(h:∀a b,f a=some b->g a=some b):∀{l:List A} {r},l.mapM f=some r->l.mapM g=some r:=by
 intro l;induction l with
 |nil=>exact λ h=>h
 |cons a l ih=>
  intro r e;rw[Cl]at e⊢;obtain⟨b,hb,e⟩:=dq.1 e;obtain⟨t,ht,e⟩:=dq.1 e;rw[h _ _ hb];show((l.mapM g).bind _)=_;rw[ih ht];exact e
theorem KU (h:θ.le aF){v V}:br θ v=some V->br aF v=some V:=by
 intro e
 cases v with
 |s l=>simp only[br]at e⊢;obtain⟨r,hr,rfl⟩:=bp.1 e;rw[af9 h hr];rfl
 |p x o=>simp only[br]at e⊢;obtain⟨r,hr,rfl⟩:=bp.1 e;rw[h.bw _ _ hr];rfl
 |sl x o n c=>
  cases c with
  |some c=>simp only[br]at e⊢;obtain⟨r,hr,rfl⟩:=bp.1 e;rw[h.bw _ _ hr];rfl
  |none=>
   simp only[br]at e⊢;obtain⟨b,hb,e⟩:=dq.1 e;obtain⟨r,hr,rfl⟩:=bp.1 e;rw[h.bw _ _ hb,h.cap _ _ hr];rfl
 |m x=>simp only[br]at e⊢;obtain⟨r,hr,rfl⟩:=bp.1 e;rw[h.bw _ _ hr];rfl
 |f g l=>simp only[br]at e⊢;obtain⟨r,hr,rfl⟩:=bp.1 e;rw[mapM_mono (λ a b=>Vn h) hr];rfl
 |_=>first|exact e|(simp only[br]at e⊢;obtain⟨r,hr,rfl⟩:=bp.1 e;rw[h.num _ _ hr];rfl)
theorem zU (h:θ.le aF):∀{l b},cf θ l=some b->cf aF l=some b:=by
 intro l;induction l with
 |nil=>exact λ h=>h
 |cons p l ih=>
  intro b e;simp only[cf]at e⊢;obtain⟨x,hx,e⟩:=dq.1 e;obtain⟨r,hr,rfl⟩:=bp.1 e;rw[KU h hx,ih hr];rfl
theorem Vo (h:θ.le aF){v V}:cX θ v=some V->cX aF v=some V:=by
 intro e
 cases v with
 |o v=>exact KU h e
 |g l=>simp only[cX]at e⊢;obtain⟨r,hr,rfl⟩:=bp.1 e;rw[zU h hr];rfl
theorem aga (h:θ.le aF):∀{l b},ew θ l=some b->ew aF l=some b:=by
 intro l;induction l with
 |nil=>exact λ h=>h
 |cons p l ih=>
  intro b e;simp only[ew]at e⊢;obtain⟨x,hx,e⟩:=dq.1 e;obtain⟨r,hr,rfl⟩:=bp.1 e;rw[Vo h hx,ih hr];rfl
theorem O6 (h:θ.le aF){v V}:dQ θ v=some V->dQ aF v=some V:=by
 intro e
 cases v with
 |v v=>exact Vo h e
 |t l=>simp only[dQ]at e⊢;obtain⟨r,hr,rfl⟩:=bp.1 e;rw[aga h hr];rfl
theorem agb (h:θ.le aF):∀{l b},gY θ l=some b->gY aF l=some b:=by
 intro l;induction l with
 |nil=>exact λ h=>h
 |cons p l ih=>
  intro b e;simp only[gY]at e⊢;obtain⟨x,hx,e⟩:=dq.1 e;obtain⟨y,hy,e⟩:=dq.1 e;obtain⟨r,hr,rfl⟩:=bp.1 e;rw[KU h hx,KU h hy,ih hr];rfl
def zV (P:Program)(θ:Th)(x:Nat)(w:World)(b:Nat):O->Prop
 | .c l e=>∃L,cf θ l=some L/\w.heap[b]? =some (.cells L.toArray e (0,0))
 | .g l e=>∃L cur c z,cf θ l=some L/\θ.cap x=some c/\jQ P e=some z/\c<=maxLen/\cur.size=c*z/\cur.toList.take L.length=L/\w.heap[b]? =some (.cells cur e (0,0))
 | .m es n=>∃E,gY θ es=some E/\w.heap[b]? =some (.map E.toArray n)
 | .it m n l k=>∃q,θ.bw m=some q/\w.heap[b]? =some (.mapIter (some q) n l.toArray k)
structure Bs where
 w:World
 N:Nat->Prop
structure Rel (P:Program)(θ:Th)(s:S)(w0:Bs)(w:World):Prop where
 below:Below w0.w.heap.size w0.w w
 bw:∀x b,θ.bw x=some b->w0.w.heap.size<=b/\b<w.heap.size
 inj:∀x y o p b,s.h.get x=some o->s.h.get y=some p->θ.bw x=some b->θ.bw y=some b->x=y
 obj:∀x o b,s.h.get x=some o->θ.bw x=some b->zV P θ x w b o
 new:∀x,s.n<=x->θ.bw x=none/\θ.cap x=none/\s.h.get x=none
 tu:∀x,w0.N x->θ.bw x=none/\θ.cap x=none/\x<s.n
 sym:∀k,16*(s.n+1)<=k->θ.str k=none/\θ.num k=none
def lG (θ:Th)(m:Tm)(t:Array Value):Prop:=∀k v,m.get k=some v->∃V,dQ θ v=some V/\t[k]? =some V
theorem lG.mono {m:Tm}{t:Array Value}(h:lG θ m t)(k:θ.le aF):lG aF m t:=λ i v e=>let⟨V,a,b⟩:=h i v e;⟨V,O6 k a,b⟩
theorem lG.put {m:Tm}{t:Array Value}(h:lG θ m t){k:Nat}{v:V3}{V:Value}(hv:dQ θ v=some V)(hk:k<t.size):lG θ (m.set k v) (t.setIfInBounds k V):=by
 intro j u hu;rw[show(m.set k v).get j=_ from T.tt _ _ _ _]at hu;by_cases e:j=k
 ·rw[if_pos e]at hu;cases hu;subst e;exact⟨V,hv,by simp[hk]⟩
 ·rw[if_neg e]at hu;obtain⟨U,a,b⟩:=h j u hu;exact⟨U,a,by rw[Gx (λ h=>e h.symm)];exact b⟩
theorem Vp (l:List UInt8):cE θ (GF l)=some l:=by
 induction l with
 |nil=>rfl
 |cons x l ih=>show cE θ (.b x.toNat::GF l)=_;rw[cE,if_pos (by have:=x.toNat_lt;omega),ih];simp
theorem Vq {V:Value}{v:V1}(h:KF V=some v):br θ v=some V:=by
 unfold KF at h;split at h<;>cases h<;>simp[br,Vp]
theorem agc:∀{L:List Value} {l:List V1},KG L=some l->cf θ l=some L:=by
 intro L;induction L with
 |nil=>intro l h;cases h;rfl
 |cons V L ih=>
  intro l h;simp only[KG]at h;split at h
  ·rename_i x m hx hm;cases h;rw[cf,Vq hx,ih hm];rfl
  ·cases h
theorem Vr {V:Value}{v:V3}(h:KH V=some v):dQ θ v=some V:=by
 unfold KH at h;split at h
 ·obtain⟨l,hl,rfl⟩:=bp.1 h;simp[dQ,cX,agc hl]
 ·cases h;rfl
 ·obtain⟨x,hx,rfl⟩:=bp.1 h;exact Vq hx
theorem CK {m:Tm}{a:Act}(h:lG θ m a.tmps){x:Operand}{v:V3}(hv:ev m x=some v):dQ θ v=some (a.eval x):=by
 cases x with
 |tmp t=>obtain⟨V,h1,h2⟩:=h t v hv;rw[h1];simp[Act.eval,h2]
 |const c=>exact Vr hv
 |global g=>cases hv
 |func f=>cases hv;rfl
theorem zW {m:Tm}{a:Act}(h:lG θ m a.tmps){x:Operand}{v:V2}(hv:qn m x=some v):cX θ v=some (a.eval x):=by
 unfold qn at hv;split at hv
 ·cases hv;exact CK h ‹_›
 ·cases hv
theorem dR {m:Tm}{a:Act}(h:lG θ m a.tmps){x:Operand}{v:V1}(hv:cW m x=some v):br θ v=some (a.eval x):=by
 unfold cW at hv;split at hv
 ·cases hv;exact CK h ‹_›
 ·cases hv
theorem EL {m:Tm}{a:Act}(h:lG θ m a.tmps):∀{l:List Operand} {vs:List V2},oM m l=some vs->ew θ vs=some (l.map a.eval):=by
 intro l;induction l with
 |nil=>intro vs e;cases e;rfl
 |cons x l ih=>
  intro vs e;simp only[oM]at e;split at e
  ·rename_i v r hv hr;cases e;rw[ew,zW h hv,ih hr];rfl
  ·cases e
end Ev
end
section
namespace Ev
open Go.RowKit Go.Lib
variable {P:Program} {θ:Th} {s:S} {w0:Bs} {w:World}
theorem yr:∀{l:List V1} {L},cf θ l=some L->L.length=l.length:=by
 intro l;induction l with
 |nil=>intro L h;cases h;rfl
 |cons v l ih=>
  intro L h;simp only[cf]at h;obtain⟨x,_,h⟩:=dq.1 h;obtain⟨r,hr,rfl⟩:=bp.1 h;simp[ih hr]
theorem GI:∀{l m:List V1} {L M},cf θ l=some L->cf θ m=some M->cf θ (l++m)=some (L++M):=by
 intro l;induction l with
 |nil=>intro m L M h k;cases h;exact k
 |cons v l ih=>
  intro m L M h k;simp only[cf]at h;obtain⟨x,hx,h⟩:=dq.1 h;obtain⟨r,hr,rfl⟩:=bp.1 h;simp[cf,hx,ih hr k]
theorem Vs:∀{l:List V1} {L} (n:Nat),cf θ l=some L->cf θ (l.drop n)=some (L.drop n):=by
 intro l;induction l with
 |nil=>intro L n h;cases h;simp[cf]
 |cons v l ih=>
  intro L n h
  cases n with
  |zero=>exact h
  |succ n=>
   simp only[cf]at h;obtain⟨x,hx,h⟩:=dq.1 h;obtain⟨r,hr,rfl⟩:=bp.1 h;exact ih n hr
theorem O7:∀{l:List V1} {L} (n:Nat),cf θ l=some L->cf θ (l.take n)=some (L.take n):=by
 intro l;induction l with
 |nil=>intro L n h;cases h;simp[cf]
 |cons v l ih=>
  intro L n h
  cases n with
  |zero=>simp[cf]
  |succ n=>
   simp only[cf]at h;obtain⟨x,hx,h⟩:=dq.1 h;obtain⟨r,hr,rfl⟩:=bp.1 h;simp[cf,hx,ih n hr]
theorem KV {l r:List V1}{o n:Nat}{L}(h:cut l o n=some r)(k:cf θ l=some L):o+n<=L.length/\cf θ r=some ((L.drop o).take n):=by
 unfold cut at h;split at h
 ·cases h;rw[yr k];exact⟨‹_›,O7 n (Vs o k)⟩
 ·cases h
theorem O8 {l r m:List V1}{o:Nat}{L M}(h:lay l o m=some r)(k:cf θ l=some L)(k2:cf θ m=some M):o+M.length<=L.length/\cf θ r=some (L.take o++M++L.drop (o+M.length)):=by
 unfold lay at h;split at h
 ·cases h;rw[yr k,yr k2];exact⟨‹_›,GI (GI (O7 o k) k2) (Vs _ k)⟩
 ·cases h
theorem KW {v:V1}{V}(h:br θ v=some V):V.oneCell'=true:=by
 cases v with
 |sl x o n c=>
  cases c with
  |some c=>simp only[br]at h;obtain⟨r,hr,rfl⟩:=bp.1 h;rfl
  |none=>
   simp only[br]at h;obtain⟨b,_,h⟩:=dq.1 h;obtain⟨r,_,rfl⟩:=bp.1 h;rfl
 |_=>first|(cases h;rfl)|(simp only[br]at h;obtain⟨r,hr,rfl⟩:=bp.1 h;rfl)
theorem agd {v:V1}{V}(h:br θ v=some V):V.cells=#[V]:=by
 have:=KW h
 cases V<;>first|rfl|cases this
theorem O9:∀{l:List V1} {L},cf θ l=some L->∀v∈L,v.oneCell'=true:=by
 intro l;induction l with
 |nil=>intro L h;cases h;intro v hv;cases hv
 |cons v l ih=>
  intro L h;simp only[cf]at h;obtain⟨x,hx,h⟩:=dq.1 h;obtain⟨r,hr,rfl⟩:=bp.1 h;intro u hu;rcases eW.1 hu with rfl|hu
  ·exact KW hx
  ·exact ih hr u hu
theorem wP {v:V2}{V}(h:cX θ v=some V):cf θ v.cells=some V.cells.toList:=by
 cases v with
 |o v=>rw[agd h];have h:br θ v=some V:=h;simp[V2.cells,cf,h]
 |g l=>simp only[cX]at h;obtain⟨r,hr,rfl⟩:=bp.1 h;simpa[V2.cells,Value.cells]using hr
theorem lH {t:TypeId}{n:Nat}(h:jQ P t=some n)(w:World):(sizeOf t).run P w= .ok n w:=by
 unfold jQ at h;obtain⟨i,hi,rfl⟩:=bp.1 h;simp[sizeOf,typeInfo,uB hi]
theorem KY {t:TypeId}{b:Bool}(h:agg P t=some b)(w:World):(isAgg t).run P w= .ok b w:=by
 unfold agg at h
 cases hu:dd P t with
 |none=>simp[hu]at h
 |some d=>rw[hu]at h;cases d<;>(cases h;simp[isAgg,dT hu])
theorem EM {t:TypeId}{l:List V1}{o:Nat}{v:V2}{L}(h:partOf P t l o=some v)(k:cf θ l=some L)(w:World):∃V,cX θ v=some V/\(part t L.toArray o).run P w= .ok V w:=by
 unfold partOf at h;split at h
 ·rename_i n hn ha;obtain⟨r,hr,rfl⟩:=bp.1 h;have⟨hl,hd⟩:=KV hr k;refine⟨.agg ((L.drop o).take n).toArray,by simp[cX,hd],?_⟩
  have e:L.toArray.extract o (o+n)=((L.drop o).take n).toArray:=by
   apply rN;simp[List.extract_eq_take_drop]
  simp[part,KY ha,lH hn,e]
 ·rename_i n hn ha;obtain⟨r,hr,h⟩:=dq.1 h;have⟨hl,hd⟩:=KV hr k;split at h
  ·cases h
   rename_i v;simp only[cf]at hd;obtain⟨x,hx,hd⟩:=dq.1 hd
   have e:L[o]? =some x:=by
    have:=congrArg (·[0]?) (cG hd);simp at this;exact this.symm
   exact⟨x,hx,by simp[part,KY ha,e]⟩
  ·cases h
 ·cases h
theorem GJ (hR:Rel P θ s w0 w){x o n b:Nat}{r:List V1}(h:s.cut x o n=some r)(hb:θ.bw x=some b):∃R,cf θ r=some R/\R.length=n/\∀j v,R[j]? =some v->w.cell? ⟨b,o+j,none⟩=some v:=by
 unfold S.cut at h;split at h
 ·rename_i ob hx;have ho:=hR.obj _ _ _ hx hb
  cases ob with
  |c l e=>
   simp only[O.cells]at h;obtain⟨L,hL,hw⟩:=ho;have⟨hl,hd⟩:=KV h hL;refine⟨_,hd,by simp;omega,λ j v hj=>?_⟩;rw[mL]at hj;split at hj
   ·rw[rO]at hj;simp[World.cell?,hw,hj]
   ·cases hj
  |g l e=>
   simp only[O.cells]at h;obtain⟨L,cur,c,z,hL,_,_,_,_,ht,hw⟩:=ho;have⟨hl,hd⟩:=KV h hL;refine⟨_,hd,by simp;omega,λ j v hj=>?_⟩;rw[mL]at hj;split at hj
   ·rw[rO,<-ht,mL]at hj;split at hj
    ·simp[World.cell?,hw];simpa using hj
    ·cases hj
   ·cases hj
  |m es n=>cases h
  |it m n l k=>cases h
 ·cases h
theorem wQ (b o j:Nat):(⟨b,o,none⟩:Addr).add j=⟨b,o+j,none⟩:=by unfold Addr.add;split<;>simp_all
theorem Vt (hR:Rel P θ s w0 w){t:TypeId}{x o b:Nat}{v:V2}(h:KI P s t x o=some v)(hb:θ.bw x=some b):∃V,cX θ v=some V/\(loadVar t ⟨b,o,none⟩).run P w= .ok V w:=by
 unfold KI at h;split at h
 ·rename_i n hn ha;obtain⟨r,hr,rfl⟩:=bp.1 h;obtain⟨R,hd,hl,hc⟩:=GJ hR hr hb;refine⟨.agg R.toArray,by simp[cX,hd],?_⟩;have:=run_loadCells_list (P:=P) w ⟨b,o,none⟩ R (λ j v hj=>by rw[wQ];exact hc j v hj);rw[hl]at this;simp[loadVar,KY ha,lH hn,this]
 ·rename_i n hn ha;split at h
  ·rename_i v hv
   cases h
   obtain⟨R,hd,hl,hc⟩:=GJ hR hv hb;simp only[cf]at hd;obtain⟨V,hV,hd⟩:=dq.1 hd
   cases hd
   have:=hc 0 V rfl;exact⟨V,hV,by simp[loadVar,KY ha];simp at this;rw[this]⟩
  ·cases h
 ·cases h
theorem Vu:∀{l:List V2} {L},ew θ l=some L->L.length=l.length:=by
 intro l;induction l with
 |nil=>intro L h;cases h;rfl
 |cons v l ih=>
  intro L h;simp only[ew]at h;obtain⟨x,_,h⟩:=dq.1 h;obtain⟨r,hr,rfl⟩:=bp.1 h;simp[ih hr]
theorem Vv:∀{l:List V2} {L},ew θ l=some L->∀{k:Nat} {v},l[k]? =some v->∃V,cX θ v=some V/\L[k]? =some V:=by
 intro l;induction l with
 |nil=>intro L h k v e;cases e
 |cons v l ih=>
  intro L h k u e;simp only[ew]at h;obtain⟨x,hx,h⟩:=dq.1 h;obtain⟨r,hr,rfl⟩:=bp.1 h
  cases k with
  |zero=>cases e;exact⟨x,hx,rfl⟩
  |succ k=>exact ih hr e
theorem zX:∀{l:List Pc} {b},cE θ l=some b->b.length=lF l:=by
 intro l;induction l with
 |nil=>intro b h;cases h;rfl
 |cons p l ih=>
  intro b h
  cases p with
  |b x=>
   simp only[cE]at h;split at h
   ·obtain⟨r,hr,rfl⟩:=bp.1 h;simp[lF,ih hr]
   ·cases h
  |a k n=>
   simp only[cE]at h;split at h
   ·rename_i s r _ hr;split at h
    ·cases h;simp[lF,ih hr];omega
    ·cases h
   ·cases h
  |z n=>simp only[cE]at h;obtain⟨r,hr,rfl⟩:=bp.1 h;simp[lF,ih hr];omega
theorem age:∀{l m:List Pc} {L M},cE θ l=some L->cE θ m=some M->cE θ (l++m)=some (L++M):=by
 intro l;induction l with
 |nil=>intro m L M h k;cases h;exact k
 |cons p l ih=>
  intro m L M h k
  cases p with
  |b x=>
   simp only[cE,gU]at h⊢;split at h
   ·obtain⟨r,hr,rfl⟩:=bp.1 h;rw[if_pos ‹_›,ih hr k];rfl
   ·cases h
  |a j n=>
   simp only[cE,gU]at h⊢;split at h
   ·rename_i s r hs hr;split at h
    ·cases h;rw[hs,ih hr k];simp[*]
    ·cases h
   ·cases h
  |z n=>simp only[cE,gU]at h⊢;obtain⟨r,hr,rfl⟩:=bp.1 h;rw[ih hr k];simp
theorem O':∀{k:Nat} {l r:List Pc} {L},zR k l=some r->cE θ l=some L->cE θ r=some (L.drop k):=by
 intro k l;fun_induction zR k l<;>intro r L h e<;>(try cases h)
 ·exact e
 ·rename_i ih;simp only[cE]at e;split at e
  ·obtain⟨q,hq,rfl⟩:=bp.1 e;simpa using ih h hq
  ·cases e
 ·rename_i hn ih;simp only[cE]at e;split at e
  ·rename_i q u hq hu;split at e
   ·cases e;subst_vars;rw[ih h hu,List.drop_append,nD hn];simp
   ·cases e
  ·cases e
 ·rename_i k n l hn ih;simp only[cE]at e;obtain⟨q,hq,rfl⟩:=bp.1 e;have h0:(List.replicate n (0:UInt8)).drop (k+1)=[]:=nD (by rw[cA];exact hn);rw[ih h hq,List.drop_append,cA,h0];rfl
 ·rename_i k n l hn;simp only[cE]at e⊢;obtain⟨q,hq,rfl⟩:=bp.1 e;have h0:k+1-n=0:=aa;rw[hq,List.drop_append,List.drop_replicate,cA,h0];rfl
theorem Vw:∀{k:Nat} {l r:List Pc} {L},CG k l=some r->cE θ l=some L->cE θ r=some (L.take k):=by
 intro k l;fun_induction CG k l<;>intro r L h e<;>(try cases h)
 ·simp[cE]
 ·rename_i ih;simp only[cE]at e;split at e
  ·obtain⟨q,hq,rfl⟩:=bp.1 e;obtain⟨u,hu,rfl⟩:=bp.1 h;simp[cE, *,ih hu hq]
  ·cases e
 ·rename_i hn ih;simp only[cE]at e;split at e
  ·rename_i q u hq hu;split at e
   ·cases e
    obtain⟨v,hv,rfl⟩:=bp.1 h;subst_vars;simp[cE,hq,ih hv hu,Ep,bQ hn]
   ·cases e
  ·cases e
 ·rename_i k n l hn ih;simp only[cE]at e;obtain⟨q,hq,rfl⟩:=bp.1 e;obtain⟨v,hv,rfl⟩:=bp.1 h;have h0:(List.replicate n (0:UInt8)).take (k+1)=List.replicate n 0:=bQ (by rw[cA];exact hn);rw[cE,ih hv hq,Ep,cA,h0];rfl
 ·rename_i k n l hn;simp only[cE]at e⊢;obtain⟨q,hq,rfl⟩:=bp.1 e;have h0:k+1-n=0:=aa;have h1:min (k+1) n=k+1:=aa;rw[Ep,List.take_replicate,cA,h0,h1];rfl
end Ev
end
section
namespace Ev
open Go.RowKit Go.Lib
variable {P:Program} {θ:Th} {s:S} {w0:Bs} {w:World}
theorem tw {x:Nat}{l L}(h:cE θ (.b x::l)=some L):x<256/\∃r,cE θ l=some r/\L=UInt8.ofNat x::r:=by
 simp only[cE]at h;split at h
 ·obtain⟨r,hr,rfl⟩:=bp.1 h;exact⟨‹_›,r,hr,rfl⟩
 ·cases h
theorem oO {n:Nat}{l L}(h:cE θ (.z n::l)=some L):∃r,cE θ l=some r/\L=List.replicate n 0++r:=by
 simp only[cE]at h;obtain⟨r,hr,rfl⟩:=bp.1 h;exact⟨r,hr,rfl⟩
theorem O_ {k n:Nat}{l L}(h:cE θ (.a k n::l)=some L):∃s r,θ.str k=some s/\cE θ l=some r/\L=s++r:=by
 simp only[cE]at h;split at h
 ·rename_i s r hs hr;split at h
  ·cases h;exact⟨s,r,hs,hr,rfl⟩
  ·cases h
 ·cases h
theorem KZ {n:Nat}{l r}(h:cE θ l=some r):cE θ (.z n::l)=some (List.replicate n 0++r):=by rw[cE,h];rfl
theorem Pa {x y:Nat}(hx:x<256)(hy:y<256)(h:UInt8.ofNat x=UInt8.ofNat y):x=y:=by
 have:=congrArg UInt8.toNat h;simpa[UInt8.toNat_ofNat,Cm hx,Cm hy]using this
theorem agf:∀{f:Nat} {l m:List Pc} {r:Bool} {L M:List UInt8},tp f l m=some r->cE θ l=some L->cE θ m=some M->(r=true↔L=M):=by
 intro f l m;fun_induction tp f l m<;>intro r L M h hl hm<;>(try cases h)
 ·rename_i ih;obtain⟨u,hu,rfl⟩:=oO hl;simpa using ih h hu hm
 ·rename_i ih;obtain⟨u,hu,rfl⟩:=oO hm;simpa using ih h hl hu
 ·cases hl;cases hm;simp
 ·rename_i ih;obtain⟨hx,u,hu,rfl⟩:=tw hl;obtain⟨hy,v,hv,rfl⟩:=tw hm;simpa using ih h hu hv
 ·rename_i aS;obtain⟨hx,u,hu,rfl⟩:=tw hl;obtain⟨hy,v,hv,rfl⟩:=tw hm;simp;intro e;exact absurd (Pa hx hy e) aS
 ·rename_i he ih;obtain⟨rfl,rfl⟩:=he;obtain⟨a,u,ha,hu,rfl⟩:=O_ hl;obtain⟨b,v,hb,hv,rfl⟩:=O_ hm;rw[ha]at hb;cases hb;simpa using ih h hu hv
 ·rename_i n l m r ao ih;obtain⟨u,hu,rfl⟩:=oO hl;obtain⟨v,hv,rfl⟩:=oO hm;rw[ih h hu (KZ hv),show m.succ=n.succ+(m-n)by omega,<-KB,aN];simp
 ·rename_i n l m r ao fO ih;obtain⟨u,hu,rfl⟩:=oO hl;obtain⟨v,hv,rfl⟩:=oO hm;rw[ih h (KZ hu) hv,show n.succ=m.succ+(n-m)by omega,<-KB,aN];simp
 ·rename_i n l m r ao fO ih;obtain⟨u,hu,rfl⟩:=oO hl;obtain⟨v,hv,rfl⟩:=oO hm;rw[ih h hu hv,show n=m by omega];simp
 ·rename_i ih;obtain⟨u,hu,rfl⟩:=oO hl;obtain⟨hy,v,hv,rfl⟩:=tw hm;rw[ih h (KZ hu) hv];simp[qg]
 ·rename_i aS;obtain⟨u,hu,rfl⟩:=oO hl;obtain⟨hy,v,hv,rfl⟩:=tw hm;simp[qg];intro e;exact absurd (Pa hy (by decide:0<256) e.symm) aS
 ·rename_i ih;obtain⟨u,hu,rfl⟩:=oO hm;obtain⟨hy,v,hv,rfl⟩:=tw hl;rw[ih h hv (KZ hu)];simp[qg]
 ·rename_i aS;obtain⟨u,hu,rfl⟩:=oO hm;obtain⟨hy,v,hv,rfl⟩:=tw hl;simp[qg];intro e;exact absurd (Pa hy (by decide:0<256) e) aS
 ·cases hl;obtain⟨hy,v,hv,rfl⟩:=tw hm;simp
 ·cases hm;obtain⟨hy,v,hv,rfl⟩:=tw hl;simp
 ·cases hl;obtain⟨v,hv,rfl⟩:=oO hm;simp[qg]
 ·cases hm;obtain⟨v,hv,rfl⟩:=oO hl;simp[qg]
theorem Pb {l m:List Pc}{r:Bool}{L M}(h:GD l m=some r)(hl:cE θ l=some L)(hm:cE θ m=some M):(L==M)=r:=by
 have:r=true↔L=M:=by
  unfold GD at h;split at h
  ·exact agf h hl hm
  ·cases h
   rename_i aS;rw[<-zX hl,<-zX hm]at aS;simp;intro e;exact aS (by rw[e])
 cases r<;>simp_all
theorem pC {l:List Pc}{V}(h:br θ (.s l)=some V):∃b,cE θ l=some b/\V= .string ⟨b.toArray⟩:=by
 simp only[br]at h;obtain⟨r,hr,rfl⟩:=bp.1 h;exact⟨r,hr,rfl⟩
theorem agh {op:BinOp}{k:IntKind}{a b:Int}{v:V1}(t:TypeId)(h:arith op k a b=some v)(w:World):∃V,br θ v=some V/\(binOp op t (.int k a) (.int k b)).run P w= .ok V w:=by
 cases op<;>simp only[arith]at h<;>first
  |(cases h;done)
  |(cases h;exact⟨_,rfl,by simp[binOp,Op.intArith,Op.intBits,Op.intCmp]⟩)
  |(split at h
    ·cases h
    ·cases h;exact⟨_,rfl,by simp[binOp,Op.intDiv, *]⟩)
theorem Vx {op:BinOp}{k j:IntKind}{a b:Int}{v:V1}(t:TypeId)(ho:op= .shl∨op= .shr)(h:shift op k a b=some v)(w:World):∃V,br θ v=some V/\(binOp op t (.int k a) (.int j b)).run P w= .ok V w:=by
 unfold shift at h;split at h
 ·cases h
 ·rcases ho with rfl|rfl<;>cases h<;>exact⟨_,rfl,by simp[binOp,Op.shift, *]⟩
theorem agi {d:Nat}{f:TypeId->V2->V2->Option Bool}{l m:List V1}{L M}(hl:cf θ l=some L)(hm:cf θ m=some M)
 (ih:∀t x y r X Y,f t x y=some r->cX θ x=some X->cX θ y=some Y->(Op.equalIn d t X Y).run P w= .ok r w):
 ∀{fs:List Field} {r},GG P f l m fs=some r->(Op.eqFields d L.toArray M.toArray fs).run P w= .ok r w:=by
 intro fs;induction fs with
 |nil=>intro r h;cases h;rfl
 |cons x fs Vy=>
  intro r h;simp only[GG]at h;by_cases hn:x.name= "_"
  ·rw[if_pos hn]at h;simp[Op.eqFields,hn,Vy h]
  ·rw[if_neg hn]at h;split at h
   ·rename_i a b ha hb;obtain⟨A,hA,ra⟩:=EM ha hl w;obtain⟨B,hB,rb⟩:=EM hb hm w;split at h
    ·rename_i he;simp[Op.eqFields,hn,ra,rb,ih _ _ _ _ _ _ he hA hB,Vy h]
    ·rename_i he
     cases r with
     |true=>exact absurd h he
     |false=>simp[Op.eqFields,hn,ra,rb,ih _ _ _ _ _ _ h hA hB]
   ·cases h
theorem agj {d:Nat}{e:TypeId}{z:Nat}{f:V2->V2->Option Bool}{l m:List V1}{L M}(hl:cf θ l=some L)(hm:cf θ m=some M)
 (ih:∀x y r X Y,f x y=some r->cX θ x=some X->cX θ y=some Y->(Op.equalIn d e X Y).run P w= .ok r w):
 ∀{n i:Nat} {r},KJ P f e z l m n i=some r->Sem.run P (forIn (List.range' i n) (none,()) λ i _=>do
  let a<-part e L.toArray (i*z)
  let b<-part e M.toArray (i*z)
  let c<-Op.equalIn d e a b
  if(!c)=true then pure (ForInStep.done (some false,()))else pure (ForInStep.yield (none,()))) w= .ok (if r=true then(none,())else(some false,())) w:=by
 intro n;induction n with
 |zero=>intro i r h;cases h;rfl
 |succ n agk=>
  intro i r h;simp only[KJ]at h;split at h
  ·rename_i a b ha hb;obtain⟨A,hA,ra⟩:=EM ha hl w;obtain⟨B,hB,rb⟩:=EM hb hm w;split at h
   ·rename_i he;have:=agk h;simp only[List.range'_succ,List.forIn_cons,dZ,ra,rb,ih _ _ _ _ _ he hA hB,Result.andThen_ok,Bool.not_true,rP,if_false,Sem.run_pure];exact this
   ·rename_i he
    cases r with
    |true=>exact absurd h he
    |false=>simp[List.range'_succ,ra,rb,ih _ _ _ _ _ h hA hB]
  ·cases h
theorem Vz {k:Nat}{V}(h:br θ (.at k)=some V):∃n,θ.num k=some n/\V= .int .i64 n:=by
 simp only[br]at h;obtain⟨r,hr,rfl⟩:=bp.1 h;exact⟨r,hr,rfl⟩
theorem tx {x o:Nat}{V}(h:br θ (.p x o)=some V):∃b,θ.bw x=some b/\V= .pointer (some ⟨b,o,none⟩):=by
 simp only[br]at h;obtain⟨r,hr,rfl⟩:=bp.1 h;exact⟨r,hr,rfl⟩
theorem rY {x o n:Nat}{c}{V}(h:br θ (.sl x o n c)=some V):∃b d,θ.bw x=some b/\V= .slice (some ⟨b,o,none⟩) n d/\(∀e,c=some e->d=e)/\(c=none->θ.cap x=some d):=by
 cases c with
 |some c=>simp only[br]at h;obtain⟨r,hr,rfl⟩:=bp.1 h;exact⟨r,c,hr,rfl,λ _ e=>cG e,nofun⟩
 |none=>
  simp only[br]at h;obtain⟨b,hb,h⟩:=dq.1 h;obtain⟨r,hr,rfl⟩:=bp.1 h;exact⟨b,r,hb,rfl,nofun,λ _=>hr⟩
theorem K0 {x:Nat}{V}(h:br θ (.m x)=some V):∃b,θ.bw x=some b/\V= .map (some b):=by
 simp only[br]at h;obtain⟨r,hr,rfl⟩:=bp.1 h;exact⟨r,hr,rfl⟩
theorem yt {l:List V1}{V}(h:cX θ (.g l)=some V):∃L,cf θ l=some L/\V= .agg L.toArray:=by
 simp only[cX]at h;obtain⟨r,hr,rfl⟩:=bp.1 h;exact⟨r,hr,rfl⟩
theorem agl {d:Nat}{t e:TypeId}(hu:dd P t=some (.pointer e)){x y:V1}{r X Y}(h:O4 x y=some r)(hx:br θ x=some X)(hy:br θ y=some Y):(Op.equalIn (d+1) t X Y).run P w= .ok r w:=by
 unfold O4 at h;split at h<;>cases h
 ·cases hx;cases hy;simp[Op.equalIn,dT hu]
 ·obtain⟨b,hb,rfl⟩:=tx hx;cases hy;simp[Op.equalIn,dT hu]
 ·obtain⟨b,hb,rfl⟩:=tx hy;cases hx;simp[Op.equalIn,dT hu]
theorem agm {d:Nat}{t e:TypeId}(hu:dd P t=some (.slice e)){x y:V1}{r X Y}(h:O5 x y=some r)(hx:br θ x=some X)(hy:br θ y=some Y):(Op.equalIn (d+1) t X Y).run P w= .ok r w:=by
 unfold O5 at h;split at h<;>cases h
 ·cases hx;cases hy;simp[Op.equalIn,dT hu]
 all_goals first
  |(obtain⟨b,c,hb,rfl,_⟩:=rY hx;cases hy;simp[Op.equalIn,dT hu])
  |(obtain⟨b,c,hb,rfl,_⟩:=rY hy;cases hx;simp[Op.equalIn,dT hu])
theorem agn:∀{d:Nat} (D:Nat) {t:TypeId} {x y:V2} {r X Y},d<=D->EI P d t x y=some r->cX θ x=some X->cX θ y=some Y->(Op.equalIn D t X Y).run P w= .ok r w:=by
 intro d;induction d with
 |zero=>intro D t x y r X Y _ h;cases h
 |succ d ih=>
  intro D t x y r X Y hd h hx hy;obtain⟨D,rfl⟩:∃E,D=E+1:=⟨D-1,aa⟩;simp only[EI]at h;split at h
  ·rename_i hu;cases h;cases hx;cases hy;simp[Op.equalIn,dT hu]
  ·rename_i hu
   cases hx;cases hy
   split at h
   ·cases h;subst_vars;simp[Op.equalIn,dT hu]
   ·cases h
  ·rename_i hu;obtain⟨a,ha,rfl⟩:=Vz hx;obtain⟨b,hb,rfl⟩:=Vz hy;split at h
   ·cases h;subst_vars;rw[ha]at hb;cases hb;simp[Op.equalIn,dT hu]
   ·cases h
  ·rename_i hu;obtain⟨a,ha,rfl⟩:=pC hx;obtain⟨b,hb,rfl⟩:=pC hy;rw[run_equalIn_string w D t _ _ (zT hu),kY,kY];have:=Pb h ha hb;simpa using this
  ·rename_i hu;exact agl hu h hx hy
  ·rename_i hu;exact agm hu h hx hy
  ·rename_i fs l m hu;obtain⟨L,hL,rfl⟩:=yt hx;obtain⟨M,hM,rfl⟩:=yt hy;split at h
   ·cases h
   ·rename_i bu;have e:P.fieldsOf t=fs:=by simp[Program.fieldsOf,zT hu]
    rw[run_equalIn_struct w D t _ _ (by rw[e];exact zT hu) (by simpa using bu),e];exact agi hL hM (λ t x y r X Y h hx hy=>ih D aa h hx hy) h
  ·rename_i n e l m hu;obtain⟨L,hL,rfl⟩:=yt hx;obtain⟨M,hM,rfl⟩:=yt hy;split at h
   ·rename_i z hz;have:=agj hL hM (λ x y r X Y h hx hy=>ih D aa (t:=e) h hx hy) h;simp only[Op.equalIn,dZ,dT hu,Result.andThen_ok,lH hz];simp only[Std.Legacy.Range.forIn_eq_forIn_range',Std.Legacy.Range.size,Nat.sub_zero,qh,Nat.div_one];rw[this]
    cases r<;>rfl
   ·cases h
  ·cases h
theorem agp {op:BinOp}{t:TypeId}{x y:V2}{v X Y}(p q:Operand)(h:bin P op t x y=some v)(hx:cX θ x=some X)(hy:cX θ y=some Y):∃V,br θ v=some V/\(do eqGuard op t p q X Y;binOp op t X Y:Sem Value).run P w= .ok V w:=by
 have hi:∀k n j m,(eqGuard op t p q (.int k n) (.int j m)).run P w= .ok () w:=by intro k n j m;simp[eqGuard]
 have hs:∀n m,(eqGuard op t p q (.string n) (.string m)).run P w= .ok () w:=by intro n m;simp[eqGuard]
 unfold bin at h;split at h
 ·cases hx;cases hy;simp only[dZ,hi,Result.andThen_ok];exact Vx t (.inl rfl) h w
 ·cases hx;cases hy;simp only[dZ,hi,Result.andThen_ok];exact Vx t (.inr rfl) h w
 ·cases hx;cases hy;simp only[dZ,hi,Result.andThen_ok]
  split at h
  ·subst_vars;exact agh t h w
  ·cases h
 ·obtain⟨a,ha,rfl⟩:=pC hx;obtain⟨b,hb,rfl⟩:=pC hy;simp only[dZ,hs,Result.andThen_ok];split at h
  ·cases h
   rename_i ao;rw[<-zX ha,<-zX hb]at ao;refine⟨_,by simp only[br,age ha hb];rfl,?_⟩
   have:¬(((⟨a.toArray⟩:ByteArray).size+(⟨b.toArray⟩:ByteArray).size:Nat):Int)>IntKind.i64.max:=by
    show¬((((a.toArray).size+(b.toArray).size:Nat):Int)>9223372036854775807);simp;omega
   simp only[binOp,Op.stringOp,if_neg this,Sem.run_pure];congr 2
  ·cases h
 ·obtain⟨a,ha,rfl⟩:=pC hx;obtain⟨b,hb,rfl⟩:=pC hy;simp only[dZ,hs,Result.andThen_ok];obtain⟨r,hr,rfl⟩:=bp.1 h;have:=Pb hr ha hb;exact⟨_,rfl,by simp[binOp,Op.stringOp,kY];simpa using this⟩
 ·obtain⟨a,ha,rfl⟩:=pC hx;obtain⟨b,hb,rfl⟩:=pC hy;simp only[dZ,hs,Result.andThen_ok];obtain⟨r,hr,rfl⟩:=bp.1 h;have:=Pb hr ha hb;exact⟨_,rfl,by simp[binOp,Op.stringOp,kY];simpa using this⟩
 all_goals first
  |(cases h;done)
  |(split at h
    ·rename_i hc;obtain⟨r,hr,rfl⟩:=bp.1 h;have he:=agn (w:=w) 10000 aa hr hx hy;refine⟨_,rfl,?_⟩;simp only[k_,Bool.not_eq_true']at hc;obtain⟨ht,hg⟩:=hc;unfold typed at ht;split at ht
     ·cases hx;cases hy;simp[eqGuard,binOp,Op.equal,Op.maxDepth,he]
     ·obtain⟨L,hL,rfl⟩:=yt hx;obtain⟨M,hM,rfl⟩:=yt hy;simp only[dZ,run_eqGuard_agg w _ t p q _ _ hg,Result.andThen_ok,run_eql_struct,run_neq_struct,he]
     ·cases hx
      have:=KW hy
      cases Y<;>first|(cases this;done)|(simp[eqGuard,binOp,Op.equal,Op.maxDepth,he])
     ·obtain⟨b,hb,rfl⟩:=tx hx;cases hy;simp[eqGuard,binOp,Op.equal,Op.maxDepth,he]
     ·cases hx
      have:=KW hy
      cases Y<;>first|(cases this;done)|(simp[eqGuard,binOp,Op.equal,Op.maxDepth,he])
     ·obtain⟨b,c,hb,rfl,_⟩:=rY hx;cases hy;simp[eqGuard,binOp,Op.equal,Op.maxDepth,he]
     ·cases ht
    ·cases h)
end Ev
end
section
namespace Ev
open Go.RowKit Go.Lib
variable {P:Program} {θ:Th} {s:S} {w0:Bs} {w:World}
theorem CM {t:TypeId}{z:V2}(h:zero P t=some z)(w:World):∃Z,cX θ z=some Z/\(zeroValue t).run P w= .ok Z w:=by
 unfold zero at h;split at h
 ·rename_i i hi;split at h
  ·rename_i V hz;split at h
   ·rename_i v hv
    cases h
    exact⟨V,Vr hv,by simp[zeroValue,typeInfo,uB hi,hz]⟩
   ·cases h
  ·cases h
 ·cases h
theorem agq (o:Nat):∀(vs:List Value) (i:Nat) (c:Array Value),o+i+vs.length<=c.size->
 ((vs.zipIdx i).foldl (λ cs (x:Value×Nat)=>cs.setIfInBounds (o+x.2) x.1) c).toList=c.toList.take (o+i)++vs++c.toList.drop (o+i+vs.length):=by
 intro vs;induction vs with
 |nil=>intro i c h;simp
 |cons v vs ih=>
  intro i c h;simp only[aU]at h;rw[List.zipIdx_cons,kH,ih (i+1) _ (by simp;omega)];have e:=list_seg_step c.toList (o+i) v vs (by simp;omega);simpa[yc,rQ]using e
theorem VA {p:Nat->Option (Nat×Nat)}:∀{l:List (Nat×V2)} {r z} {Z:Array Value} {vs:List Value},CI z p l=some r->cf θ z=some Z.toList->ew θ (l.map (·.2))=some vs->
 ∃R,cf θ r=some R/\Instr.fill p Z ((l.map (·.1)).zip vs)=some R.toArray:=by
 intro l;induction l with
 |nil=>intro r z Z vs h hz hv;cases h;cases hv;exact⟨_,hz,by simp[Instr.fill]⟩
 |cons x l ih=>
  obtain⟨i,v⟩:=x;intro r z Z vs h hz hv;simp only[List.map_cons,ew]at hv;obtain⟨V,hV,hv⟩:=dq.1 hv;obtain⟨vs,CN,rfl⟩:=bp.1 hv;simp only[CI]at h;split at h
  ·rename_i o n hp;split at h
   ·rename_i hn;split at h
    ·rename_i z2 gX;have⟨hl,hd⟩:=O8 gX hz (wP hV);have hc:=yr (wP hV);simp at hl hc;have hf:=agq o V.cells.toList 0 Z (by simpa using hl);rw[<-Array.toList_zipIdx,Array.foldl_toList]at hf;obtain⟨R,hR,hF⟩:=ih (Z:=(V.cells.zipIdx.foldl (λ cs (x:Value×Nat)=>cs.setIfInBounds (o+x.2) x.1) Z)) h (by rw[hd,hf];simp) CN;refine⟨R,hR,?_⟩;have h1:(V.cells.size≠n||o+V.cells.size>Z.size)=false:=by simp;omega
     simp only[List.map_cons,List.zip_cons_cons,Instr.fill,hp,h1,rP,if_false];exact hF
    ·cases h
   ·cases h
  ·cases h
theorem agr:∀{l:List Field} {r},places P l=some r->∀w,(l.mapM (λ f=>do pure (f.offset,<-sizeOf f.type)):Sem (List (Nat×Nat))).run P w= .ok r w:=by
 intro l;induction l with
 |nil=>intro r h w;cases h;rfl
 |cons f l ih=>
  intro r h w;simp only[places]at h;split at h
  ·rename_i n q hn hq
   cases h
   rw[Cl];simp only[dZ,lH hn,Result.andThen_ok,Sem.run_pure,ih hq w]
  ·cases h
theorem VB {A B C:Type}(f:B->C):∀(l:List (A×B)),l.map (λ x=>(x.1,f x.2))=(l.map (·.1)).zip ((l.map (·.2)).map f):=by
 intro l;induction l with
 |nil=>rfl
 |cons a l ih=>simp only[List.map_cons,List.zip_cons_cons,ih]
theorem VC {m:Tm}:∀{l:List Operand} {vs},oM m l=some vs->vs.length=l.length:=by
 intro l;induction l with
 |nil=>intro vs h;cases h;rfl
 |cons x l ih=>
  intro vs h;simp only[oM]at h;split at h
  ·rename_i v r hv hr;cases h;simp[ih hr]
  ·cases h
theorem VD {A B:Type}:∀(l:List A) (m:List B),m.length=l.length->(l.zip m).map (·.2)=m/\(l.zip m).map (·.1)=l:=by
 intro l;induction l with
 |nil=>intro m h;cases m with|nil=>exact⟨rfl,rfl⟩|cons _ _=>simp at h
 |cons a l ih=>intro m h;cases m with|nil=>simp at h|cons b m=>simp at h;simp[ih m h]
theorem VE {m:Tm}{a:Act}{t:TypeId}{ps:Array (Nat×Operand)}{z:V2}{vs:List V2}(hT:lG θ m a.tmps)(hz:zero P t=some z)(hv:oM m (ps.toList.map (·.2))=some vs)
 {d:TypeDesc}(hu:dd P t=some d){p:Nat->Option (Nat×Nat)}{l}
 (hd:(∃fs q,d= .struct fs/\places P fs.toList=some q/\p=λ i=>q[i]?)∨∃n e k,d= .array n e/\jQ P e=some k/\p=λ i=>some (i*k,k))
 (hf:CI z.cells p ((ps.toList.map (·.1)).zip vs)=some l):∃V,cX θ (.g l)=some V/\(Instr.build t (ps.map λ (i,x)=>(i,a.eval x))).run P w= .ok V w:=by
 obtain⟨Z,hZ,rz⟩:=CM (θ:=θ) hz w;have CN:=EL hT hv;have hl:=VC hv;simp at hl;have h2:=VD (ps.toList.map (·.1)) vs (by simp[hl]);obtain⟨R,hR,hF⟩:=VA hf (wP hZ) (by rw[h2.1];exact CN);rw[h2.2]at hF
 have e:(ps.map λ (i,x)=>(i,a.eval x)).toList=(ps.toList.map (·.1)).zip ((ps.toList.map (·.2)).map a.eval):=by
  rw[Array.toList_map];exact VB a.eval ps.toList
 refine⟨.agg R.toArray,by simp[cX,hR],?_⟩;rcases hd with⟨fs,q,rfl,hq,rfl⟩|⟨n,e2,k,rfl,hk,rfl⟩
 ·have hm:=agr hq w
  have rZ:(fs.mapM (λ f=>do pure (f.offset,<-sizeOf f.type)):Sem (Array (Nat×Nat))).run P w= .ok q.toArray w:=by
   rw[Array.mapM_eq_mapM_toList];simp only[Sem.run_map,hm,Result.andThen_ok]
  simp only[Instr.build,dZ,rz,Result.andThen_ok,dT hu,Sem.run_pure,rZ,e];have:(λ x:Nat=>q.toArray[x]?)=λ i=>q[i]? :=by funext i;simp
  rw[this,hF];rfl
 ·simp only[Instr.build,dZ,rz,Result.andThen_ok,dT hu,Sem.run_pure,lH hk,e,hF]
end Ev
end
section
namespace Ev
open Go.RowKit Go.Lib
variable {P:Program} {θ:Th} {s:S} {w0:Bs} {w:World}
theorem VF {m:Tm}{a:Act}(hT:lG θ m a.tmps){x:Option Operand}{y}(h:opt m x=some y):(x=none/\y=none)∨∃q v,x=some q/\y=some v/\br θ v=some (a.eval q):=by
 cases x with
 |none=>cases h;exact .inl ⟨rfl,rfl⟩
 |some q=>simp only[opt]at h;obtain⟨v,hv,rfl⟩:=bp.1 h;exact .inr ⟨q,v,rfl,rfl,dR hT hv⟩
theorem K1 {v:V1}{k V}(h:num v=some k)(d:br θ v=some V){y:Nat}(hy:k<=y)(c:BoundsCode)(w:World):(Instr.sliceBound V y c).run P w= .ok k w:=by
 unfold num at h;split at h
 ·split at h
  ·cases h;cases d
   rename_i j h0;have:0<=j/\j<=(y:Int):=aa;simp[Instr.sliceBound,asIntOf,this]
  ·cases h
 ·cases h
theorem GK {m:Tm}{a:Act}(hT:lG θ m a.tmps){lo hi:Option Operand}{l' h'}(hl:opt m lo=some l')(hh:opt m hi=some h'){n c x y:Nat}(h:bounds n c l' h'=some (x,y))(b:Bool):
 x<=y/\y<=c/\(Instr.sliceBounds b n c (lo.map a.eval) (hi.map a.eval) none).run P w= .ok (x,y,c) w:=by
 unfold bounds at h;split at h
 ·rename_i p q hp hq;split at h
  ·rename_i hc
   cases h
   refine⟨hc.1,hc.2,?_⟩;rcases VF hT hl with⟨rfl,rfl⟩|⟨r,v,rfl,rfl,dv⟩<;>rcases VF hT hh with⟨rfl,rfl⟩|⟨r2,v2,rfl,rfl,VG⟩
   ·cases hp;cases hq;simp[Instr.sliceBounds]
   ·cases hq;simp[Instr.sliceBounds,K1 hp VG hc.2]
   ·cases hp;simp[Instr.sliceBounds,K1 hq dv hc.1]
   ·simp[Instr.sliceBounds,K1 hq dv hc.1,K1 hp VG hc.2]
  ·cases h
 ·cases h
theorem VH {f:Nat}{l:List V0}{V}(h:br θ (.f f l)=some V):∃L,l.mapM (wO θ)=some L/\V= .func (.func f) #[] L.toArray:=by
 simp only[br]at h;obtain⟨r,hr,rfl⟩:=bp.1 h;exact⟨r,hr,rfl⟩
theorem ags {v:V2}{x V}(h:hold v=some x)(d:cX θ v=some V):wO θ x=some V:=by
 unfold hold at h;split at h<;>cases h<;>exact d
theorem agt:∀{l:List V2} {r V},l.mapM hold=some r->ew θ l=some V->r.mapM (wO θ)=some V:=by
 intro l;induction l with
 |nil=>intro r V h d;cases h;cases d;rfl
 |cons v l ih=>
  intro r V h d;rw[Cl]at h;obtain⟨b,hb,h⟩:=dq.1 h;obtain⟨t,ht,h⟩:=dq.1 h
  cases h
  simp only[ew]at d;obtain⟨x,hx,d⟩:=dq.1 d;obtain⟨r,hr,rfl⟩:=bp.1 d;rw[Cl,ags hb hx];show((t.mapM (wO θ)).bind _)=_;rw[ih ht hr];rfl
theorem EN {x y:V2}{X Y}(h:cX θ x=some X)(k:cX θ y=some Y):dQ θ (.t [x,y])=some (.tuple #[X,Y]):=by simp[dQ,ew,h,k]
theorem agu {l:List V2}{V}(h:dQ θ (.t l)=some V):∃L,ew θ l=some L/\V= .tuple L.toArray:=by
 simp only[dQ]at h;obtain⟨r,hr,rfl⟩:=bp.1 h;exact⟨r,hr,rfl⟩
theorem zY {r:Nat}{ob:Obj}(h:w.heap[r]? =some ob)(hc:∀c e f,ob≠.cells c e f):(getObj r).run P w= .ok ob w:=by
 cases ob with
 |cells c e f=>exact absurd rfl (hc c e f)
 |_=>simp[getObj,Sem.run,h]
def tz (n:Int):List (V1×V1×Nat)->List MapEntry->Nat->Option (Nat×Value)
 |e::es,x::xs,i=>if atKey n e.1 then some (i,x.val)else tz n es xs (i+1)
 |_,_,_=>none
theorem VI {k:IntKind}{n:Int}{kk:IntKind}:∀{es:List (V1×V1×Nat)} {E:List MapEntry},es.all (isKey k)=true->gY θ es=some E->∀i,Instr.findNow (.int kk) (.int k n) E i=some (tz n es E i):=by
 intro es;induction es with
 |nil=>intro E h hE i;cases hE;rfl
 |cons e es ih=>
  intro E h hE i;simp only[gY]at hE;obtain⟨x,hx,hE⟩:=dq.1 hE;obtain⟨y,hy,hE⟩:=dq.1 hE;obtain⟨r,hr,rfl⟩:=bp.1 hE;simp only[List.all_cons,k_]at h;obtain⟨h1,h2⟩:=h;unfold isKey at h1;split at h1
  ·rename_i j q hq;rw[hq]at hx
   cases hx
   have K3:j=k:=by simpa using h1
   subst K3;simp only[Instr.findNow,Instr.sameNow,tz,hq,atKey,if_true];by_cases hn:n=q
   ·simp[hn]
   ·have:(n==q)=false:=by simpa using hn
    simp only[this,ih h2 hr,rP,if_false]
  ·cases h1
theorem agv {n:Int}:∀{es:List (V1×V1×Nat)} {E:List MapEntry} {e},es.find? (λ e=>atKey n e.1)=some e->gY θ es=some E->∀i,∃V,br θ e.2.1=some V/\∃j,tz n es E i=some (j,V):=by
 intro es;induction es with
 |nil=>intro E e h;cases h
 |cons a es ih=>
  intro E e h hE i;simp only[gY]at hE;obtain⟨x,hx,hE⟩:=dq.1 hE;obtain⟨y,hy,hE⟩:=dq.1 hE;obtain⟨r,hr,rfl⟩:=bp.1 hE;rw[List.find?_cons]at h;split at h
  ·rename_i ha;cases h;exact⟨y,hy,i,by simp[tz,ha]⟩
  ·rename_i ha;obtain⟨V,hV,j,hj⟩:=ih h hr (i+1);exact⟨V,hV,j,by simp[tz,ha,hj]⟩
theorem VJ {n:Int}:∀{es:List (V1×V1×Nat)} {E:List MapEntry},es.find? (λ e=>atKey n e.1)=none->gY θ es=some E->∀i,tz n es E i=none:=by
 intro es;induction es with
 |nil=>intro E h hE i;cases hE;rfl
 |cons a es ih=>
  intro E h hE i;simp only[gY]at hE;obtain⟨x,hx,hE⟩:=dq.1 hE;obtain⟨y,hy,hE⟩:=dq.1 hE;obtain⟨r,hr,rfl⟩:=bp.1 hE;rw[List.find?_cons]at h;split at h
  ·cases h
  ·rename_i ha;simp[tz,ha,ih h hr]
theorem agw {n:Nat}:∀{es:List (V1×V1×Nat)} {E:List MapEntry} {e},es.find? (λ e=>decide (e.2.2=n))=some e->gY θ es=some E->∃K V,br θ e.1=some K/\br θ e.2.1=some V/\E.find? (λ x=>x.born==n)=some ⟨K,V,e.2.2⟩:=by
 intro es;induction es with
 |nil=>intro E e h;cases h
 |cons a es ih=>
  intro E e h hE;simp only[gY]at hE;obtain⟨x,hx,hE⟩:=dq.1 hE;obtain⟨y,hy,hE⟩:=dq.1 hE;obtain⟨r,hr,rfl⟩:=bp.1 hE;rw[List.find?_cons]at h;split at h
  ·rename_i ha;cases h;simp at ha;exact⟨x,y,hx,hy,by simp[List.find?_cons,ha]⟩
  ·rename_i ha;simp at ha;obtain⟨K,V,hK,hV,hf⟩:=ih h hr;have:(a.2.2==n)=false:=by simpa using ha
   exact⟨K,V,hK,hV,by simp only[List.find?_cons,this,hf]⟩
theorem VK {kt:TypeId}{kk:IntKind}(hk:dd P kt=some (.int kk))(e:Bool)(d:Nat)(k:IntKind)(n:Int):(Instr.checkKey e (d+1) kt (.int k n)).run P w= .ok () w:=by simp[Instr.checkKey,dT hk]
theorem VL {t kt el:TypeId}{k kk:IntKind}{n:Int}{b c:Nat}{es:List (V1×V1×Nat)}{E:List MapEntry}{Z:Value}(hu:dd P t=some (.map kt el))(hk:dd P kt=some (.int kk))(hw:w.heap[b]? =some (.map E.toArray c))
 (fP:es.all (isKey k)=true)(hE:gY θ es=some E)(rz:(zeroValue el).run P w= .ok Z w)(ok:Bool):
 (Instr.lookup t (.map (some b)) (.int k n) ok).run P w= .ok (match tz n es E 0 with|some (_,v)=>if ok then .tuple #[v,.bool true]else v|none=>if ok then .tuple #[Z,.bool false]else Z) w:=by
 have r_:=λ e=>VK (P:=P) (w:=w) hk e 9999 k n
 have agx:(Instr.findKey kt (.int k n) E).run P w= .ok (tz n es E 0) w:=by
  have agy:=VI (k:=k) (n:=n) (kk:=kk) fP hE 0;simp only[Instr.findKey,dZ,dT hk,Result.andThen_ok,agy,Sem.run_pure]
 simp only[Instr.lookup,dZ,dT hu,Result.andThen_ok,zY hw nofun,Sem.run_pure,r_,agx]
 cases tz n es E 0 with
 |none=>simp only[dZ,rz,Result.andThen_ok,Sem.run_pure]
 |some x=>simp only[dZ,Result.andThen_ok,Sem.run_pure]
theorem VM {m:Tm}{a:Act}{o:Oper}{v:V3}(hR:Rel P θ s w0 w)(hT:lG θ m a.tmps)(h:quiet P s m o=some v):∃V,dQ θ v=some V/\(execOp a.eval o).run P w= .ok (.value V) w:=by
 unfold quiet at h;split at h
 ·rename_i x e;exact⟨_,CK hT h,by simp[execOp,e]⟩
 ·rename_i x e;exact⟨_,CK hT h,by simp[execOp,e]⟩
 ·rename_i c p q e;unfold q1 at h;split at h
  ·rename_i hc;have:=dR hT hc;exact⟨_,CK hT h,by simp[execOp,e,<-cG this,asBool]⟩
  ·rename_i hc;have:=dR hT hc;exact⟨_,CK hT h,by simp[execOp,e,<-cG this,asBool]⟩
  ·cases h
 ·rename_i t ps e;unfold q2 at h;split at h
  ·rename_i z vs hz hv;split at h
   ·rename_i fs hu;split at h
    ·rename_i q hq;obtain⟨l,hl,rfl⟩:=bp.1 h;obtain⟨V,hV,hr⟩:=VE (w:=w) hT hz hv hu (.inl ⟨_,_,rfl,hq,rfl⟩) hl;exact⟨V,hV,by simp[execOp,e,hr]⟩
    ·cases h
   ·rename_i n el hu;split at h
    ·rename_i k hk;obtain⟨l,hl,rfl⟩:=bp.1 h;obtain⟨V,hV,hr⟩:=VE (w:=w) hT hz hv hu (.inr ⟨_,_,_,rfl,hk,rfl⟩) hl;exact⟨V,hV,by simp[execOp,e,hr]⟩
    ·cases h
   ·cases h
  ·cases h
 ·rename_i t q e;unfold q3 at h;split at h
  ·rename_i x o' hx;obtain⟨u,hu,rfl⟩:=bp.1 h;obtain⟨b,hb,hp⟩:=tx (dR hT hx);obtain⟨V,hV,hr⟩:=Vt hR hu hb;exact⟨V,hV,by simp[execOp,e,hp,Instr.loadAt,Instr.sureAddr,hr]⟩
  ·cases h
 ·rename_i q e;unfold q4 at h;split at h
  ·rename_i x o' hx
   cases h
   have d:=dR hT hx;obtain⟨b,hb,hp⟩:=tx d;exact⟨_,d,by simp[execOp,e,hp]⟩
  ·cases h
 ·rename_i op t x y _ e;unfold q5 at h;split at h
  ·rename_i p q hp hq;obtain⟨u,hu,rfl⟩:=bp.1 h;obtain⟨V,hV,hr⟩:=agp (w:=w) x y hu (zW hT hp) (zW hT hq);refine⟨V,hV,?_⟩;simp only[execOp,e];rw[dZ,hr];rfl
  ·cases h
 ·rename_i x e;unfold q6 at h;split at h
  ·rename_i b hb;cases h;have:=dR hT hb;exact⟨_,rfl,by simp[execOp,e,<-cG this,Op.unary]⟩
  ·cases h
 ·rename_i x e;unfold q7 at h;split at h
  ·rename_i k n hb;cases h;have:=dR hT hb;exact⟨_,rfl,by simp[execOp,e,<-cG this,Op.unary,Op.intArith]⟩
  ·cases h
 ·rename_i src dst x e;unfold q8 at h;split at h
  ·rename_i d1 k k2 n h1 h2 hb;cases h;have:=dR hT hb;exact⟨_,rfl,by simp[execOp,e,<-cG this,convert,dT h1,dT h2,Conv.intToInt]⟩
  ·rename_i d1 l h1 h2 hb;cases h;have d:=dR hT hb;obtain⟨b,hb,hp⟩:=pC d;exact⟨_,d,by simp[execOp,e,hp,convert,dT h1,dT h2]⟩
  ·cases h
 ·rename_i f cs e;unfold q9 at h;split at h
  ·rename_i vs hv;split at h
   ·rename_i l hl
    cases h
    have:=agt hl (EL hT hv);refine⟨.func (.func f) #[] (cs.map a.eval),?_,by simp[execOp,e,Instr.makeFunc]⟩;simp only[dQ,cX,br,this,Option.map_some];rw[show(cs.toList.map a.eval).toArray=cs.map a.eval from by apply rN;simp]
   ·cases h
  ·cases h
 ·rename_i t x lo hi e;unfold EJ at h;split at h
  ·rename_i l K4 uC hx zZ z_;obtain⟨b,hb,hp⟩:=pC (dR hT hx);split at h
   ·rename_i hu;split at h
    ·rename_i p q qp;have⟨h1,h2,hr⟩:=GK (P:=P) (w:=w) hT zZ z_ qp false;split at h
     ·rename_i r hd;obtain⟨r2,cH,rfl⟩:=bp.1 h;have hD:=Vw cH (O' hd hb);refine⟨_,by simp only[dQ,cX,br,hD];rfl,?_⟩;have aG:(⟨b.toArray⟩:ByteArray).size=lF l:=by rw[<-zX hb];rfl
      simp only[execOp,e,hp,Instr.sliceAt,Instr.slice,dZ,dT hu,Result.andThen_ok,aG,Option.map_none,hr,Option.isSome_none,rP,if_false,Sem.run_pure];congr 3;apply ByteArray.ext;apply rN;simp[ByteArray.extract,ByteArray.copySlice]
     ·cases h
    ·cases h
   ·cases h
  ·rename_i K4 uC hx zZ z_;have hp:=cG (dR hT hx);split at h
   ·rename_i el hu;split at h
    ·rename_i z pq hz qp
     cases h
     obtain⟨p,q⟩:=pq;have⟨h1,h2,hr⟩:=GK (P:=P) (w:=w) hT zZ z_ qp true;have GL:p=0:=aa;have lI:q=0:=aa;subst GL;subst lI;refine⟨_,rfl,?_⟩;simp[execOp,e,<-hp,Instr.sliceAt,Instr.slice,dT hu,hr,lH hz]
    ·cases h
   ·cases h
  ·rename_i x' o' n c K4 uC hx zZ z_;obtain⟨b,d,hb,hp,cR,bT⟩:=rY (dR hT hx);split at h
   ·rename_i el hu;split at h
    ·rename_i z hz;split at h
     ·rename_i c;have:=cR _ rfl;subst this;split at h
      ·rename_i p q qp;have⟨h1,h2,hr⟩:=GK (P:=P) (w:=w) hT zZ z_ qp true;split at h
       ·rename_i ao
        cases h
        refine⟨.slice (some ⟨b,o'+p*z,none⟩) (q-p) (d-p),by simp[dQ,cX,br,hb],?_⟩;have aS:¬d=p:=aa;simp[execOp,e,hp,Instr.sliceAt,Instr.slice,dT hu,hr,lH hz,aS,wQ]
       ·cases h
      ·cases h
     ·split at h
      ·rename_i q l f qp hl;split at h
       ·rename_i hc;obtain⟨rfl,CF,hn⟩:=hc
        cases h
        have s5:=bT rfl;obtain⟨L,cur,c,z',hL,yu,K5,_,hcs,jg,_⟩:=hR.obj _ _ _ hl hb;rw[s5]at yu;cases yu;rw[hz]at K5;cases K5
        have uD:n<=d:=by
         have h3:=congrArg List.length jg;have h4:=yr hL;simp at h3;have:n*z<=d*z:=aa;exact Nat.le_of_mul_le_mul_right this CF
        have agz:bounds n d K4 uC=some (0,q):=by
         unfold bounds at qp⊢;split at qp
         ·split at qp
          ·cases qp;rename_i hq;rw[if_pos ⟨aa,aa⟩]
          ·cases qp
         ·cases qp
        have⟨h1,h2,hr⟩:=GK (P:=P) (w:=w) hT zZ z_ agz true;refine⟨.slice (some ⟨b,o',none⟩) q d,by simp[dQ,cX,br,hb,s5],?_⟩;simp[execOp,e,hp,Instr.sliceAt,Instr.slice,dT hu,hr,lH hz,Addr.add]
       ·cases h
      ·cases h
    ·cases h
   ·cases h
  ·rename_i x' o' K4 uC hx zZ z_;obtain⟨b,hb,hp⟩:=tx (dR hT hx);split at h
   ·rename_i n el hu;split at h
    ·rename_i z p q hz qp;have⟨h1,h2,hr⟩:=GK (P:=P) (w:=w) hT zZ z_ qp false;split at h
     ·rename_i ao
      cases h
      refine⟨.slice (some ⟨b,o'+p*z,none⟩) (q-p) (n-p),by simp[dQ,cX,br,hb],?_⟩;have aS:¬n=p:=aa;simp[execOp,e,hp,Instr.sliceAt,dT hu,Instr.sureAddr,hr,lH hz,aS,wQ]
     ·cases h
    ·cases h
   ·cases h
  ·cases h
 ·rename_i t x k e;unfold KK at h;split at h
  ·rename_i x' o' fs hx hu;split at h
   ·rename_i f hf;split at h
    ·rename_i n hn
     cases h
     obtain⟨b,hb,hp⟩:=tx (dR hT hx);refine⟨.pointer (some ⟨b,o'+f.offset,none⟩),by simp[dQ,cX,br,hb],?_⟩;simp[execOp,e,hp,Instr.fieldAt,dT hu,hf,Instr.sureAddr,fieldPlace,lH hn,wQ]
    ·cases h
   ·cases h
  ·cases h
 ·rename_i t x k e;unfold KL at h;split at h
  ·rename_i l fs hx hu;split at h
   ·rename_i f hf;obtain⟨u,Aa,rfl⟩:=bp.1 h;obtain⟨L,hL,hp⟩:=yt (zW hT hx);obtain⟨V,hV,hr⟩:=EM Aa hL w;exact⟨V,hV,by simp[execOp,e,hp,Instr.field,dT hu,hf,asAgg,hr]⟩
   ·cases h
  ·cases h
 ·rename_i t x i e;unfold iB at h;split at h
  ·rename_i k j hi;have di:=cG (dR hT hi);split at h
   ·rename_i n el x' o' hu hx;split at h
    ·rename_i z hz;split at h
     ·rename_i hb
      cases h
      obtain⟨b,aC,hp⟩:=tx (dR hT hx);refine⟨.pointer (some ⟨b,o'+j.toNat*z,none⟩),by simp[dQ,cX,br,aC],?_⟩;simp[execOp,e,hp,<-di,Instr.indexAt,asIntOf,dT hu,Instr.sureAddr,lH hz,wQ,hb]
     ·cases h
    ·cases h
   ·rename_i el x' o' n c hu hx;split at h
    ·rename_i z hz;split at h
     ·rename_i hb
      cases h
      obtain⟨b,d,aC,hp,_⟩:=rY (dR hT hx);refine⟨.pointer (some ⟨b,o'+j.toNat*z,none⟩),by simp[dQ,cX,br,aC],?_⟩;simp[execOp,e,hp,<-di,Instr.indexAt,asIntOf,dT hu,lH hz,wQ,hb]
     ·cases h
    ·cases h
   ·cases h
  ·cases h
 ·rename_i t x i e;unfold dg at h;split at h
  ·rename_i k j n el l hi hu hx;have di:=cG (dR hT hi);obtain⟨L,hL,hp⟩:=yt (zW hT hx);split at h
   ·rename_i z hz;split at h
    ·rename_i hb;obtain⟨u,Aa,rfl⟩:=bp.1 h;obtain⟨V,hV,hr⟩:=EM Aa hL w;exact⟨V,hV,by simp[execOp,e,hp,<-di,Instr.index,asIntOf,dT hu,lH hz,hb,hr]⟩
    ·cases h
   ·cases h
  ·rename_i k j l hi hu hx;have di:=cG (dR hT hi);obtain⟨b,hb,hp⟩:=pC (zW hT hx);split at h
   ·rename_i h0;split at h
    ·rename_i x r hd
     cases h
     obtain⟨hx,u,_,Aa⟩:=tw (O' hd hb)
     have hg:b[j.toNat]? =some (UInt8.ofNat x):=by
      have:=congrArg (·[0]?) Aa;simpa using this
     refine⟨_,rfl,?_⟩
     have dU:(⟨b.toArray⟩:ByteArray)[j.toNat]? =some (UInt8.ofNat x):=by
      obtain⟨ao,hv⟩:=fX.1 hg;rw[getElem?_pos (⟨b.toArray⟩:ByteArray) j.toNat ao];exact congrArg some hv
     simp[execOp,e,hp,<-di,Instr.index,asIntOf,dT hu,h0,dU];omega
    ·cases h
   ·cases h
  ·cases h
 ·rename_i t k e;unfold tq at h;split at h
  ·rename_i l hx;obtain⟨u,hu,rfl⟩:=bp.1 h;obtain⟨L,hL,hp⟩:=agu (CK hT hx);obtain⟨V,hV,hk⟩:=Vv hL hu;exact⟨V,hV,by simp[execOp,e,hp,Instr.extract,hk]⟩
  ·cases h
 ·rename_i t x i ok e;unfold KM at h;split at h
  ·rename_i kt el r k n hu hx hi;have di:=cG (dR hT hi);obtain⟨b,hb,hp⟩:=K0 (dR hT hx);split at h
   ·rename_i kk es c z hk hr hz;split at h
    ·rename_i fP;obtain⟨E,hE,hw⟩:=hR.obj _ _ _ hr hb;obtain⟨Z,hZ,rz⟩:=CM (θ:=θ) hz w;split at h
     ·rename_i e2 wR
      cases h
      obtain⟨V,hV,j,hj⟩:=agv wR hE 0;have hl:=VL (w:=w) hu hk hw fP hE rz ok (n:=n);rw[hj]at hl;refine⟨if ok=true then .tuple #[V,.bool true]else V,?_,by simp only[execOp,e,hp,<-di,dZ,hl,Result.andThen_ok,Sem.run_pure]⟩
      cases ok
      ·exact hV
      ·exact EN (x:=.o e2.2.1) hV rfl
     ·rename_i wR
      cases h
      have hj:=VJ wR hE 0;have hl:=VL (w:=w) hu hk hw fP hE rz ok (n:=n);rw[hj]at hl;refine⟨if ok=true then .tuple #[Z,.bool false]else Z,?_,by simp only[execOp,e,hp,<-di,dZ,hl,Result.andThen_ok,Sem.run_pure]⟩
      cases ok
      ·exact hZ
      ·exact EN (x:=z) hZ rfl
    ·cases h
   ·cases h
  ·cases h
 ·rename_i it e;unfold KN at h;split at h
  ·rename_i x hx;obtain⟨b,hb,hp⟩:=tx (dR hT hx);split at h
   ·rename_i r n seen k hit;obtain⟨q,hq,hw⟩:=hR.obj _ _ _ hit hb;split at h
    ·rename_i es c bo hm hs;obtain⟨E,hE,dS⟩:=hR.obj _ _ _ hm hq;split at h
     ·rename_i r_;split at h
      ·rename_i e2 wR
       cases h
       obtain⟨K,V,hK,hV,hf⟩:=agw wR hE;refine⟨.tuple #[K,V],EN (x:=.o e2.1) (y:=.o e2.2.1) hK hV,?_⟩;have aC:seen.toArray.back? =some bo:=by simpa[Array.back?,List.getLast?_eq_getElem?]using hs
       simp[execOp,e,hp,Instr.entry,zY hw nofun,zY dS nofun,aC,r_,hf]
      ·cases h
     ·cases h
    ·cases h
   ·cases h
  ·cases h
 ·rename_i args iC e;unfold KO at h;split at h
  ·rename_i t x qq CO;have hA:args=#[x]:=by apply rN;simpa using CO
   have hB:iC=#[t]:=by apply rN;simpa using qq
   subst hA;subst hB;split at h
   ·rename_i l hu hx
    cases h
    obtain⟨b,hb,hp⟩:=pC (dR hT hx);refine⟨_,rfl,?_⟩;have aG:(⟨b.toArray⟩:ByteArray).size=lF l:=by rw[<-zX hb];rfl
    simp[execOp,e,resolve,invoke,builtin,Builtin.len_,hp,dT hu,goInt,aG]
   ·rename_i el hu hx
    cases h
    have hp:=cG (dR hT hx);exact⟨_,rfl,by simp[execOp,e,resolve,invoke,builtin,Builtin.len_,<-hp,dT hu,goInt]⟩
   ·rename_i el x' o' n c hu hx
    cases h
    obtain⟨b,d,hb,hp,_⟩:=rY (dR hT hx);exact⟨_,rfl,by simp[execOp,e,resolve,invoke,builtin,Builtin.len_,hp,dT hu,goInt]⟩
   ·cases h
  ·cases h
 ·rename_i args iC e;unfold KP at h;split at h
  ·rename_i k x j y hv
   cases h
   have hd:=EL hT hv;have:args.toList.map a.eval=[.int k x,.int j y]:=(cG hd).symm;refine⟨_,rfl,?_⟩;have h2:args.map a.eval=#[.int k x,.int j y]:=by apply rN;simpa using this
   simp[execOp,e,resolve,invoke,builtin,Builtin.max_,h2,Builtin.max2]
  ·cases h
 ·rename_i args iC e;unfold KQ at h;split at h
  ·rename_i k x j y hv
   cases h
   have hd:=EL hT hv;have:args.toList.map a.eval=[.int k x,.int j y]:=(cG hd).symm;refine⟨_,rfl,?_⟩;have h2:args.map a.eval=#[.int k x,.int j y]:=by apply rN;simpa using this
   simp[execOp,e,resolve,invoke,builtin,Builtin.min_,h2,Builtin.min2]
  ·cases h
 ·cases h
end Ev
end
section
namespace Ev
open Go.RowKit Go.Lib
variable {P:Program} {θ aF:Th} {s:S} {w0:Bs} {w w':World}
theorem zV.mono {x b:Nat}{o:O}(h:θ.le aF)(e:w'.heap[b]? =w.heap[b]?):zV P θ x w b o->zV P aF x w' b o:=by
 cases o with
 |c l t=>rintro⟨L,h1,h2⟩;exact⟨L,zU h h1,e.trans h2⟩
 |g l t=>rintro⟨L,cur,c,z,h1,h2,h3,h4,h5,h6,h7⟩;exact⟨L,cur,c,z,zU h h1,h.cap _ _ h2,h3,h4,h5,h6,e.trans h7⟩
 |m es n=>rintro⟨E,h1,h2⟩;exact⟨E,agb h h1,e.trans h2⟩
 |it m n l k=>rintro⟨q,h1,h2⟩;exact⟨q,h.bw _ _ h1,e.trans h2⟩
theorem Rel.drew (h:Rel P θ s w0 w)(e:w'.heap=w.heap)(eo:w'.os=w.os)(et:w'.tape=w.tape)(ep:w'.output=w.output):Rel P θ s w0 w' where
 below:=h.below.trans ⟨eo,et,ep,by rw[e];exact ai _,λ k _=>by rw[e]⟩
 bw x b hb:=by rw[e];exact h.bw x b hb
 inj:=h.inj
 obj x o b h1 h2:=(h.obj x o b h1 h2).mono (.refl θ) (by rw[e])
 new:=h.new
 tu:=h.tu
 sym:=h.sym
def Th.add (θ:Th)(x b:Nat)(c:Option Nat):Th:={θ with bw:=λ y=>if y=x then some b else θ.bw y,cap:=λ y=>if y=x then c else θ.cap y}
theorem Th.VN {x b:Nat}{c:Option Nat}(h1:θ.bw x=none)(h2:θ.cap x=none):θ.le (θ.add x b c) where
 bw y v e:=by
  show(if y=x then _ else _)=_;by_cases k:y=x
  ·subst k;rw[h1]at e;cases e
  ·rw[if_neg k];exact e
 cap y v e:=by
  show(if y=x then _ else _)=_;by_cases k:y=x
  ·subst k;rw[h2]at e;cases e
  ·rw[if_neg k];exact e
 str _ _ e:=e
 num _ _ e:=e
 law:=rfl
theorem Th.Ab {x b:Nat}{c:Option Nat}:(θ.add x b c).bw x=some b:=if_pos rfl
theorem Th.CP {x b:Nat}{c:Option Nat}:(θ.add x b c).cap x=c:=if_pos rfl
theorem Rel.yv (h:Rel P θ s w0 w)(b:Nat)(c:Option Nat):θ.le (θ.add s.n b c):=Th.VN (h.new _ (ai _)).1 (h.new _ (ai _)).2.1
theorem Rel.VO (h:Rel P θ s w0 w)(o:O)(b:Nat)(c:Option Nat):∀x,w0.N x->(θ.add s.n b c).bw x=none/\(θ.add s.n b c).cap x=none/\x<(s.new o).2.n:=λ x hx=>by
 have:=h.tu x hx;have hn:¬x=s.n:=aa;refine⟨?_,?_,show x<s.n+1 by omega⟩
 ·show(if x=s.n then _ else _)=_;rw[if_neg hn];exact this.1
 ·show(if x=s.n then _ else _)=_;rw[if_neg hn];exact this.2.1
theorem Rel.alloc (h:Rel P θ s w0 w){ob:Obj}{o:O}{c:Option Nat}(e:w'.heap=w.heap.push ob)(eo:w'.os=w.os)(et:w'.tape=w.tape)(ep:w'.output=w.output)
 (ho:zV P (θ.add s.n w.heap.size c) s.n w' w.heap.size o):Rel P (θ.add s.n w.heap.size c) (s.new o).2 w0 w':=by
 have hle:=h.yv w.heap.size c;have hold:∀k,k<w.heap.size->w'.heap[k]? =w.heap[k]? :=λ k hk=>by rw[e,Co,if_neg aa]
 have aG:w'.heap.size=w.heap.size+1:=by rw[e];simp
 have gZ:=h.below.size;have g_:∀x,(s.new o).2.h.get x=if x=s.n then some o else s.h.get x:=λ x=>T.tt _ _ _ _
 have lj:∀x,(θ.add s.n w.heap.size c).bw x=if x=s.n then some w.heap.size else θ.bw x:=λ x=>rfl
 refine⟨h.below.trans ⟨eo,et,ep,aa,λ k hk=>hold k aa⟩,λ x b hx=>?_,λ x y p q b h1 h2 h3 h4=>?_,λ x p b h1 h2=>?_,λ x hx=>?_,h.VO _ _ _,λ k hk=>h.sym k (by have:16*(s.n+1+1)<=k:=hk;omega)⟩
 ·rw[lj]at hx;split at hx
  ·cases hx;omega
  ·have:=h.bw x b hx;omega
 ·rw[g_]at h1 h2;rw[lj]at h3 h4;by_cases hx:x=s.n<;>by_cases hy:y=s.n
  ·rw[hx,hy]
  ·rw[if_pos hx]at h3;rw[if_neg hy]at h4;cases h3;have:=h.bw y _ h4;omega
  ·rw[if_neg hx]at h3;rw[if_pos hy]at h4;cases h4;have:=h.bw x _ h3;omega
  ·rw[if_neg hx]at h1 h3;rw[if_neg hy]at h2 h4;exact h.inj x y _ _ b h1 h2 h3 h4
 ·rw[g_]at h1;rw[lj]at h2;by_cases hx:x=s.n
  ·rw[if_pos hx]at h1 h2;cases h1;cases h2;rw[hx];exact ho
  ·rw[if_neg hx]at h1 h2;exact(h.obj x p b h1 h2).mono hle (hold b (h.bw x b h2).2)
 ·have hx:s.n+1<=x:=hx;rw[g_,lj,if_neg aa,if_neg aa];have:=h.new x aa;exact⟨this.1,by show(if x=s.n then _ else _)=_;rw[if_neg aa];exact this.2.1,this.2.2⟩
theorem Rel.write (h:Rel P θ s w0 w){x b:Nat}{o p:O}(hx:s.h.get x=some o)(hb:θ.bw x=some b)(aG:w'.heap.size=w.heap.size)(e:∀k,k≠b->w'.heap[k]? =w.heap[k]?)(eo:w'.os=w.os)(et:w'.tape=w.tape)(ep:w'.output=w.output)
 (ho:zV P θ x w' b p):Rel P θ (s.put x p) w0 w':=by
 have g_:∀y,(s.put x p).h.get y=if y=x then some p else s.h.get y:=λ y=>T.tt _ _ _ _
 have gz:=h.bw x b hb;refine⟨h.below.trans ⟨eo,et,ep,aa,λ k hk=>e k aa⟩,λ y c hy=>by rw[aG];exact h.bw y c hy,λ y z p q c h1 h2 h3 h4=>?_,λ y q c h1 h2=>?_,λ y hy=>?_,h.tu,h.sym⟩
 ·rw[g_]at h1 h2;by_cases ha:y=x<;>by_cases hc:z=x
  ·rw[ha,hc]
  ·rw[if_neg hc]at h2;exact h.inj y z o q c (by rw[ha];exact hx) h2 h3 h4
  ·rw[if_neg ha]at h1;exact h.inj y z p o c h1 (by rw[hc];exact hx) h3 h4
  ·rw[if_neg ha]at h1;rw[if_neg hc]at h2;exact h.inj y z p q c h1 h2 h3 h4
 ·rw[g_]at h1;by_cases ha:y=x
  ·rw[if_pos ha]at h1;cases h1;subst ha;rw[hb]at h2;cases h2;exact ho
  ·rw[if_neg ha]at h1;have aS:c≠b:=λ k=>ha (h.inj y x q o b h1 hx (by rw[<-k];exact h2) hb);exact(h.obj y q c h1 h2).mono (.refl θ) (e c aS)
 ·have:=h.new y hy;refine⟨this.1,this.2.1,?_⟩;rw[g_];by_cases ha:y=x
  ·subst ha;rw[hx]at this;cases this.2.2
  ·rw[if_neg ha];exact this.2.2
theorem Rel.kill (h:Rel P θ s w0 w)(x:Nat):Rel P θ {s with h:=s.h.set x none} w0 w:=by
 have g_:∀y,(s.h.set x none).get y=if y=x then none else s.h.get y:=λ y=>T.tt _ _ _ _
 refine⟨h.below,h.bw,λ y z p q c h1 h2 h3 h4=>?_,λ y q c h1 h2=>?_,λ y hy=>?_,h.tu,h.sym⟩
 ·have h1:(s.h.set x none).get y=some p:=h1;have h2:(s.h.set x none).get z=some q:=h2;rw[g_]at h1 h2;by_cases ha:y=x
  ·rw[if_pos ha]at h1;cases h1
  ·by_cases hc:z=x
   ·rw[if_pos hc]at h2;cases h2
   ·rw[if_neg ha]at h1;rw[if_neg hc]at h2;exact h.inj y z p q c h1 h2 h3 h4
 ·have h1:(s.h.set x none).get y=some q:=h1;rw[g_]at h1;by_cases ha:y=x
  ·rw[if_pos ha]at h1;cases h1
  ·rw[if_neg ha]at h1;exact h.obj y q c h1 h2
 ·have:=h.new y hy;refine⟨this.1,this.2.1,?_⟩;show(s.h.set x none).get y=none;rw[g_];by_cases ha:y=x
  ·rw[if_pos ha]
  ·rw[if_neg ha];exact this.2.2
theorem Rel.again (h:Rel P θ s w0 w){x b:Nat}{o p:O}{c:Option Nat}(hx:s.h.get x=some o)(hb:θ.bw x=some b)(aG:w'.heap.size=w.heap.size)(e:∀k,k≠b->w'.heap[k]? =w.heap[k]?)(eo:w'.os=w.os)(et:w'.tape=w.tape)(ep:w'.output=w.output)
 (ho:zV P (θ.add s.n b c) s.n w' b p):Rel P (θ.add s.n b c) (S.new {s with h:=s.h.set x none} p).2 w0 w':=by
 have hle:=h.yv b c;have gz:=h.bw x b hb;have CQ:x≠s.n:=λ k=>by have:=(h.new x aa).1;rw[hb]at this;cases this
 have g_:∀y,(S.new {s with h:=s.h.set x none} p).2.h.get y=if y=s.n then some p else if y=x then none else s.h.get y:=λ y=>by
  show(((s.h.set x none).set s.n (some p)).get y)=_;rw[T.tt,T.tt]
 have lj:∀y,(θ.add s.n b c).bw y=if y=s.n then some b else θ.bw y:=λ y=>rfl
 refine⟨h.below.trans ⟨eo,et,ep,aa,λ k hk=>e k aa⟩,λ y d hy=>?_,λ y z p q d h1 h2 h3 h4=>?_,λ y q d h1 h2=>?_,λ y hy=>?_,h.VO p _ _,λ k hk=>h.sym k (by have:16*(s.n+1+1)<=k:=hk;omega)⟩
 ·rw[lj]at hy;rw[aG];split at hy
  ·cases hy;exact gz
  ·exact h.bw y d hy
 ·rw[g_]at h1 h2;rw[lj]at h3 h4;by_cases ha:y=s.n<;>by_cases hc:z=s.n
  ·rw[ha,hc]
  ·rw[if_pos ha]at h3;cases h3;rw[if_neg hc]at h2 h4;by_cases hz:z=x
   ·rw[if_pos hz]at h2;cases h2
   ·rw[if_neg hz]at h2;exact absurd (h.inj z x _ _ b h2 hx h4 hb) hz
  ·rw[if_pos hc]at h4;cases h4;rw[if_neg ha]at h1 h3;by_cases hz:y=x
   ·rw[if_pos hz]at h1;cases h1
   ·rw[if_neg hz]at h1;exact absurd (h.inj y x _ _ b h1 hx h3 hb) hz
  ·rw[if_neg ha]at h1 h3;rw[if_neg hc]at h2 h4;by_cases hz:y=x
   ·rw[if_pos hz]at h1;cases h1
   ·by_cases gX:z=x
    ·rw[if_pos gX]at h2;cases h2
    ·rw[if_neg hz]at h1;rw[if_neg gX]at h2;exact h.inj y z _ _ d h1 h2 h3 h4
 ·rw[g_]at h1;rw[lj]at h2;by_cases ha:y=s.n
  ·rw[if_pos ha]at h1 h2;cases h1;cases h2;rw[ha];exact ho
  ·rw[if_neg ha]at h1 h2;by_cases hz:y=x
   ·rw[if_pos hz]at h1;cases h1
   ·rw[if_neg hz]at h1;have aS:d≠b:=λ k=>hz (h.inj y x q o b h1 hx (by rw[<-k];exact h2) hb);exact(h.obj y q d h1 h2).mono hle (e d aS)
 ·have hy:s.n+1<=y:=hy;have:=h.new y aa;rw[lj,g_,if_neg aa,if_neg aa];refine⟨this.1,by show(if y=s.n then _ else _)=_;rw[if_neg aa];exact this.2.1,?_⟩;by_cases hz:y=x
  ·rw[if_pos hz]
  ·rw[if_neg hz];exact this.2.2
end Ev
end
section
namespace Ev
open Go.RowKit Go.Lib
variable {P:Program} {θ:Th} {s:S} {w0:Bs} {w:World}
theorem agA:∀{l:List V1} {L},cf θ l=some L->∀{k:Nat} {v},l[k]? =some v->∃V,br θ v=some V/\L[k]? =some V:=by
 intro l;induction l with
 |nil=>intro L h k v e;cases e
 |cons v l ih=>
  intro L h k u e;simp only[cf]at h;obtain⟨x,hx,h⟩:=dq.1 h;obtain⟨r,hr,rfl⟩:=bp.1 h
  cases k with
  |zero=>cases e;exact⟨x,hx,rfl⟩
  |succ k=>exact ih hr e
theorem VP {l:List V1}{Z:Array Value}(h:cf θ l=some Z.toList)(h0:0<l.length)(k:Nat):cf θ (zeros l k)=some (((Array.range k).map (Z[·%Z.size]!)).toList):=by
 rw[Array.toList_map,Array.toList_range];unfold zeros;have hl:Z.size=l.length:=by have:=yr h;simpa using this
 generalize List.range k=is;induction is with
 |nil=>rfl
 |cons i is ih=>
  have hi:i%l.length<l.length:=rR _ h0;obtain⟨V,hV,hk⟩:=agA h (aZ hi)
  have hz:Z[i%Z.size]! =V:=by
   rw[hl,Array.getElem!_eq_getD,wH];rw[rM]at hk;rw[hk];rfl
  simp only[List.map_cons,cf,aZ hi,ye,hV,Option.bind_some,ih,Option.map_some,hz]
def After (P:Program)(θ:Th)(w0:Bs)(w:World)(a:Act)(o:Oper)(v:V3)(s':S):Prop:=
 ∃aF V w',θ.le aF/\dQ aF v=some V/\Rel P aF s' w0 w'/\((execOp a.eval o).run P w= .ok (.value V) w'∨((execOp a.eval o).run P w= .ok .skip w'/\V=undef))
theorem K6 (hR:Rel P θ s w0 w){l:List V1}{C:Array Value}(hl:cf θ l=some C.toList)(e:TypeId):
 ∃aF,θ.le aF/\aF.bw s.n=some w.heap.size/\Rel P aF (s.new (.c l e)).2 w0 {w with heap:=w.heap.push (.cells C e)}:=by
 have hle:=hR.yv w.heap.size none;exact⟨_,hle,Th.Ab,hR.alloc (ob:=.cells C e) rfl rfl rfl rfl ⟨_,zU hle hl,aj⟩⟩
theorem VQ (hR:Rel P θ s w0 w){x o b:Nat}{m:List V1}{s':S}{M:List Value}(h:s.lay x o m=some s')(hm:cf θ m=some M)(hb:θ.bw x=some b):∃w',(storeCells ⟨b,o,none⟩ M).run P w= .ok () w'/\Rel P θ s' w0 w':=by
 unfold S.lay at h;split at h
 ·rename_i l e hx;obtain⟨r,hr,rfl⟩:=bp.1 h;obtain⟨L,hL,hw⟩:=hR.obj _ _ _ hx hb;obtain⟨hl,hd⟩:=O8 hr hL hm;have bu:=run_storeCells_at P b o e M 0 L.toArray w hw (by simpa using hl) (O9 hm);simp only[Nat.add_zero,List.toList_toArray]at bu;exact⟨_,bu,hR.write hx hb aj (λ k hk=>setRow_other _ _ _ _ hk) rfl rfl rfl ⟨_,hd,kd _ _ _ _ _ _ hw⟩⟩
 ·rename_i l e hx;obtain⟨r,hr,rfl⟩:=bp.1 h;obtain⟨L,cur,c,z,hL,hc,hz,fG,hcs,jg,hw⟩:=hR.obj _ _ _ hx hb;obtain⟨hl,hd⟩:=O8 hr hL hm;have Ac:L.length<=cur.size:=by have:=congrArg List.length jg;simp at this;omega
  have bu:=run_storeCells_at P b o e M 0 cur w hw aa (O9 hm);simp only[Nat.add_zero]at bu;refine⟨_,bu,hR.write hx hb aj (λ k hk=>setRow_other _ _ _ _ hk) rfl rfl rfl ⟨_,_,c,z,hd,hc,hz,fG,?_,?_,kd _ _ _ _ _ _ hw⟩⟩
  ·simp;omega
  ·have e1:(L.take o++M++L.drop (o+M.length)).length=L.length:=by simp;omega
   rw[e1];simp only[List.toList_toArray];rw[Ep,bQ (by simp;omega)];congr 1
   ·congr 1;rw[<-jg,List.take_take];congr 1;omega
   ·rw[<-jg,List.drop_take];congr 1;simp;omega
 ·cases h
theorem Pd {r:Nat}{ob Pe:Obj}(h:w.heap[r]? =some Pe)(hc:∀c e f,Pe≠.cells c e f):(setObj r ob).run P w= .ok () {w with heap:=w.heap.setIfInBounds r ob}:=by
 cases Pe with
 |cells c e f=>exact absurd rfl (hc c e f)
 |_=>simp[setObj,Sem.run,h]
theorem agB:∀{l m:List (V1×V1×Nat)} {L M},gY θ l=some L->gY θ m=some M->gY θ (l++m)=some (L++M):=by
 intro l;induction l with
 |nil=>intro m L M h k;cases h;exact k
 |cons v l ih=>
  intro m L M h k;simp only[gY]at h;obtain⟨x,hx,h⟩:=dq.1 h;obtain⟨y,hy,h⟩:=dq.1 h;obtain⟨r,hr,rfl⟩:=bp.1 h;simp[gY,hx,hy,ih hr k]
theorem agC {k v:V1}{n:Nat}{K V}(h:br θ k=some K)(h2:br θ v=some V):gY θ [(k,v,n)]=some [⟨K,V,n⟩]:=by simp[gY,h,h2]
theorem heap_set {r:Nat}{ob:Obj}(hr:r<w.heap.size)(k:Nat):(w.heap.setIfInBounds r ob)[k]? =if k=r then some ob else w.heap[k]? :=by
 rw[Array.getElem?_setIfInBounds];by_cases h:r=k
 ·subst h;simp[hr]
 ·rw[if_neg h,if_neg (λ e=>h e.symm)]
theorem VR (hR:Rel P θ s w0 w){e n k d:Nat}{z:Nat}{Z:Value}{l m:List V1}{L M:List Value}{a:Act}{o:Oper}(hz:jQ P e=some z)(lh:Z.cells.size=z)(hL:cf θ l=some L)(hl:L.length=n*z)(hM:cf θ m=some M)(hm:M.length=k*z)(EO:n+k<=200000)
 (jf:(execOp a.eval o).run P w= .ok (.value (.slice (some ⟨w.heap.size,0,none⟩) (n+k) (grownCap w (n+k) d e))) (w.drew.alloc (.cells (L.toArray++M.toArray++Builtin.zeroCells Z.cells (grownCap w (n+k) d e-(n+k))) e))):
 After P θ w0 w a o (.v (.o (.sl s.n 0 (n+k) none))) (s.new (.g (l++m) e)).2:=by
 have hle:=hR.yv w.heap.size (some (grownCap w (n+k) d e));refine⟨_,_,_,hle,?_,hR.alloc (w':=w.drew.alloc (.cells (L.toArray++M.toArray++Builtin.zeroCells Z.cells (grownCap w (n+k) d e-(n+k))) e)) (c:=some (grownCap w (n+k) d e)) rfl rfl rfl rfl ⟨L++M,_,grownCap w (n+k) d e,z,zU hle (GI hL hM),Th.CP,hz,EE w (n+k) d e (by simp[maxLen];omega),?_,?_,l_ w.drew _⟩,.inl jf⟩
 ·show((θ.add s.n _ _).bw s.n).bind _=_;rw[Th.Ab];show((θ.add s.n _ _).cap s.n).map _=_;rw[Th.CP];rfl
 ·have:=grownCap_ge w (n+k) d e;simp only[wI,pv,size_zeroCells,lh,hl,hm,<-Nat.add_mul];congr 1;omega
 ·simp only[Cp,List.toList_toArray];exact Cq
theorem agD {m:Tm}{a:Act}{o:Oper}{v:V3}{s':S}(hR:Rel P θ s w0 w)(hT:lG θ m a.tmps)(h:loud P s m o=some (v,s')):After P θ w0 w a o v s':=by
 unfold loud at h;split at h
 ·rename_i e eo;unfold l0 at h;split at h
  ·rename_i z hz
   cases h
   obtain⟨Z,hZ,rz⟩:=CM (θ:=θ) hz w;obtain⟨aF,hle,hb,kn⟩:=K6 hR (wP hZ) e;refine⟨aF,.pointer (some ⟨w.heap.size,0,none⟩),_,hle,?_,kn,.inl ?_⟩
   ·show(aF.bw s.n).map _=_;rw[hb];rfl
   ·simp[execOp,eo,Instr.alloc,rz,newVar,newRow]
  ·cases h
 ·rename_i e x eo;unfold l1 at h;split at h
  ·rename_i u hx
   cases h
   obtain⟨aF,hle,hb,kn⟩:=K6 hR (wP (zW hT hx)) e;refine⟨aF,.pointer (some ⟨w.heap.size,0,none⟩),_,hle,?_,kn,.inl ?_⟩
   ·show(aF.bw s.n).map _=_;rw[hb];rfl
   ·simp[execOp,eo,Instr.box,newVar,newRow]
  ·cases h
 ·rename_i t n ps eo;unfold l2 at h;split at h
  ·rename_i e hu;split at h
   ·rename_i z vs hz hv;split at h
    ·cases h
    ·rename_i hn;split at h
     ·rename_i zv Ad;split at h
      ·rename_i l hl
       cases h
       split at hl
       ·cases hl
       ·rename_i h0;obtain⟨Z,hZ,rz⟩:=CM (θ:=θ) Ad w;have CN:=EL hT hv;have cI:=VC hv;simp at cI;have h2:=VD (ps.toList.map (·.1)) vs (by simp[cI]);have EP:=VP (wP hZ) aa (n*z);obtain⟨R,iD,hF⟩:=VA hl EP (by rw[h2.1];exact CN);rw[h2.2]at hF
        have e1:(ps.map λ (i,x)=>(i,a.eval x)).toList=(ps.toList.map (·.1)).zip ((ps.toList.map (·.2)).map a.eval):=by
         rw[Array.toList_map];exact VB a.eval ps.toList
        obtain⟨aF,hle,hb,kn⟩:=K6 (C:=R.toArray) hR (by simpa using iD) e;refine⟨aF,.slice (some ⟨w.heap.size,0,none⟩) n n,_,hle,?_,kn,.inl ?_⟩
        ·show(aF.bw s.n).map _=_;rw[hb];rfl
        ·have iR:¬(n*z>2^24):=aa;by_cases Pf:n*z=0
         ·have ra:∀f:Nat->Value,(Array.range 0).map f=#[]:=λ f=>by simp
          rw[Pf,ra]at hF;simp only[execOp,eo,Instr.buildSlice,dZ,dT hu,Result.andThen_ok,lH hz,if_neg iR,Pf,if_true,Sem.run_pure,e1,ra,hF,newRow,run_newObj];rfl
         ·simp only[execOp,eo,Instr.buildSlice,dZ,dT hu,Result.andThen_ok,lH hz,if_neg iR,if_neg Pf,Sem.run_pure,e1,rz,hF,newRow,run_newObj]
      ·cases h
     ·cases h
   ·cases h
  ·cases h
 ·rename_i t x y eo;unfold l3 at h;split at h
  ·rename_i e j n k c hu hn hc;split at h
   ·rename_i i zv hi Ad;split at h
    ·rename_i hk;obtain⟨rfl,h1,h2,h3,h4⟩:=hk
     cases h
     obtain⟨Z,hZ,rz⟩:=CM (θ:=θ) Ad w;have dx:=cG (dR hT hn);have dy:=cG (dR hT hc);have aG:jQ P e=some i.size:=by simp[jQ,hi]
     obtain⟨N,rfl⟩:∃N:Nat,n=(N:Int):=⟨n.toNat,aa⟩;have hN:N<100000:=aa;have hw:IntKind.i64.wrap (N:Int)=N:=by rw[aE];omega
     have hb:¬((i.bytes:Int)*(N:Int)>2^48):=by
      have:=yf h3 (show N<=100000 by omega);have h5:((i.bytes*N:Nat):Int)=(i.bytes:Int)*(N:Int):=aj;omega
     have EP:=VP (wP hZ) h4 (N*i.size);obtain⟨aF,hle,aC,kn⟩:=K6 (C:=(Array.range (N*i.size)).map (Z.cells[·%Z.cells.size]!)) hR EP e;refine⟨aF,.slice (some ⟨w.heap.size,0,none⟩) N N,_,hle,?_,kn,.inl ?_⟩
     ·show(aF.bw s.n).map _=_;rw[aC];rfl
     ·have K7:¬((N:Int)<0):=aa;have iT:¬((N:Int)>N):=aa;simp only[execOp,eo,<-dx,<-dy,Instr.makeSlice,dZ,dT hu,Result.andThen_ok,asInt,asIntOf,Sem.run_pure,typeInfo,run_program,uB hi,hw,lH aG,Int.toNat_natCast];simp only[K7,hb,iT,decide_false,Bool.or_self,rP,if_false,Sem.run_pure,dZ,run_askRoom,Result.andThen_ok,lH aG];by_cases h0:N*i.size=0
      ·have ra:∀f:Nat->Value,(Array.range 0).map f=#[]:=λ f=>by simp
       simp only[h0,if_true,dZ,Sem.run_pure,Result.andThen_ok,newRow,run_newObj,ra]
      ·simp only[h0,if_false,dZ,rz,Sem.run_pure,Result.andThen_ok,newRow,run_newObj]
    ·cases h
   ·cases h
  ·cases h
 ·rename_i t eo
  cases h
  have hle:=hR.yv w.heap.size none;refine⟨_,.map (some w.heap.size),{w with heap:=w.heap.push (.map #[] 0)},hle,?_,hR.alloc (c:=none) (ob:=.map #[] 0) rfl rfl rfl rfl ⟨[],rfl,aj⟩,.inl (by simp[execOp,eo,Instr.makeMap])⟩;show((θ.add s.n w.heap.size none).bw s.n).map _=_;rw[Th.Ab];rfl
 ·rename_i t q x eo;unfold l5 at h;split at h
  ·rename_i y o' v' hq hx;split at h
   ·rename_i hz;obtain⟨s2,eI,h⟩:=bp.1 h
    cases h
    obtain⟨b,hb,hp⟩:=tx (dR hT hq);have hc:=wP (zW hT hx);obtain⟨w',hr,kn⟩:=VQ hR eI hc hb;have hlen:=yr hc;refine⟨θ,undef,w',.refl θ,rfl,kn,.inr ⟨?_,rfl⟩⟩;have aS:¬((a.eval x).cells.size≠v'.cells.length):=by simpa using hlen
    simp only[execOp,eo,hp,Instr.storeAt,Instr.sureAddr,storeVar,dZ,Sem.run_pure,Result.andThen_ok,lH hz,if_neg aS,hr]
   ·cases h
  ·cases h
 ·rename_i t q y x eo;unfold l6 at h;split at h
  ·rename_i kt el r j n v' hu hq hy hx;split at h
   ·rename_i kk es c hk hr;split at h
    ·rename_i fP;simp only[k_,Bool.not_eq_true']at fP
     cases h
     obtain⟨b,hb,hp⟩:=K0 (dR hT hq);have dy:=cG (dR hT hy);have dx:=dR hT hx;obtain⟨E,hE,hw⟩:=hR.obj _ _ _ hr hb;have jh:=(hR.bw _ _ hb).2;have hf:=VI (k:=j) (n:=n) (kk:=kk) fP.1 hE 0
     have agE:tz n es E 0=none:=VJ (by
      have:=fP.2
      rw[List.any_eq_false]at this
      rw[List.find?_eq_none];exact λ z hz=>this z hz) hE 0
     rw[agE]at hf;have r_:=VK (P:=P) (w:=w) hk false 9999 j n;refine⟨θ,undef,{w with heap:=w.heap.setIfInBounds b (.map (E.toArray.push ⟨.int j n,a.eval x,c⟩) (c+1))},.refl θ,rfl,?_,.inr ⟨?_,rfl⟩⟩
     ·refine hR.write hr hb aj (λ k hk=>by rw[heap_set jh,if_neg hk]) rfl rfl rfl ⟨E++[⟨.int j n,a.eval x,c⟩],agB hE (agC rfl dx),?_⟩;show(w.heap.setIfInBounds b _)[b]? =_;rw[heap_set jh,if_pos rfl];simp
     ·simp only[execOp,eo,hp,<-dy,Instr.mapUpdate,dZ,dT hu,Result.andThen_ok,zY hw nofun,r_,Instr.findKey,dT hk,hf,Sem.run_pure,Pd hw nofun]
    ·cases h
   ·cases h
  ·cases h
 ·rename_i t x eo;unfold l7 at h;split at h
  ·rename_i kt el r hu hx;split at h
   ·rename_i es c hr
    cases h
    obtain⟨b,hb,hp⟩:=K0 (dR hT hx);obtain⟨E,hE,hw⟩:=hR.obj _ _ _ hr hb;have hle:=hR.yv w.heap.size none;refine⟨_,.pointer (some ⟨w.heap.size,0,none⟩),{w with heap:=w.heap.push (.mapIter (some b) c #[] c)},hle,?_,hR.alloc (c:=none) (ob:=.mapIter (some b) c #[] c) rfl rfl rfl rfl ⟨b,hle.bw _ _ hb,aj⟩,.inl ?_⟩
    ·show((θ.add s.n w.heap.size none).bw s.n).map _=_;rw[Th.Ab];rfl
    ·simp only[execOp,eo,hp,Instr.range,dZ,dT hu,Result.andThen_ok,zY hw nofun,Sem.run_pure,run_newObj]
   ·cases h
  ·cases h
 ·rename_i args iC eo;unfold l8 at h;split at h
  ·rename_i t x qq CO;have hA:args=#[x]:=by apply rN;simpa using CO
   have hB:iC=#[t]:=by apply rN;simpa using qq
   subst hA;subst hB;split at h
   ·rename_i kt el r hu hx;split at h
    ·rename_i es c hr
     cases h
     obtain⟨b,hb,hp⟩:=K0 (dR hT hx);obtain⟨E,hE,hw⟩:=hR.obj _ _ _ hr hb;have jh:=(hR.bw _ _ hb).2;refine⟨θ,undef,{w with heap:=w.heap.setIfInBounds b (.map #[] c)},.refl θ,rfl,?_,.inl ?_⟩
     ·refine hR.write hr hb aj (λ k hk=>by rw[heap_set jh,if_neg hk]) rfl rfl rfl ⟨[],rfl,?_⟩;show(w.heap.setIfInBounds b _)[b]? =_;rw[heap_set jh,if_pos rfl]
     ·simp only[execOp,eo,resolve,invoke,builtin];simp[hp,Builtin.clear_,dT hu,zY hw nofun,Pd hw nofun];rfl
    ·cases h
   ·cases h
  ·cases h
 ·rename_i args iC eo;unfold l9 at h;split at h
  ·rename_i t u x y qq CO;have hA:args=#[x,y]:=by apply rN;simpa using CO
   have hB:iC=#[t,u]:=by apply rN;simpa using qq
   subst hA;subst hB;split at h
   ·rename_i e hu;split at h
    ·rename_i i zv b y' q k c hi Ad hx hy;split at h
     ·rename_i hk;obtain⟨rfl,h1,h2,h3,h4⟩:=hk;split at h
      ·rename_i l hl;obtain⟨r,hr,h⟩:=bp.1 h
       cases h
       obtain⟨Z,hZ,rz⟩:=CM (θ:=θ) Ad w;have aG:jQ P e=some i.size:=by simp[jQ,hi]
       have Pg:i.zero=some Z:=by
        simp only[zeroValue,dZ,typeInfo,run_program,Result.andThen_ok,uB hi,Sem.run_pure]at rz
        cases hz:i.zero with
        |none=>simp[hz]at rz
        |some z=>simp[hz]at rz;rw[rz]
       have lh:Z.cells.size=i.size:=by have:=yr (wP hZ);simp at this;omega
       obtain⟨b2,d2,aC,dV,_⟩:=rY (dR hT hy);obtain⟨M,hM,yw,Ph⟩:=GJ hR hl aC;have K8:∀j v,M[j]? =some v->w.cell? ((⟨b2,q,none⟩:Addr).add j)=some v:=λ j v hj=>by rw[wQ];exact Ph j v hj
       have dx:=dR hT hx;unfold app at hr;split at hr
       ·split at hr
        ·cases hr
        ·rename_i eR
         cases hr
         have hp:=cG dx;have dC:k*i.bytes<=281474976710656:=by have:=yf h4 h3;omega
         have jf:=run_append_nil (P:=P) w t o.type e i Z (zT hu) (uB hi) Pg ⟨b2,q,none⟩ k d2 M yw K8 aa aa dC;have hle:=hR.yv w.heap.size (some (grownCap w k 0 e));refine⟨_,.slice (some ⟨w.heap.size,0,none⟩) k (grownCap w k 0 e),_,hle,?_,hR.alloc (w':=w.drew.alloc (.cells (M.toArray++Builtin.zeroCells Z.cells (grownCap w k 0 e-k)) e)) (c:=some (grownCap w k 0 e)) rfl rfl rfl rfl ⟨M,_,grownCap w k 0 e,i.size,zU hle hM,Th.CP,aG,EE w k 0 e (by simp[maxLen];omega),?_,?_,l_ w.drew _⟩,.inl ?_⟩
         ·show((θ.add s.n _ _).bw s.n).bind _=_;rw[Th.Ab];show((θ.add s.n _ _).cap s.n).map _=_;rw[Th.CP];rfl
         ·have:=grownCap_ge w k 0 e;simp only[wI,pv,size_zeroCells,lh,yw,<-Nat.add_mul];congr 1;omega
         ·simp
         ·simp only[execOp,eo];simp[resolve,invoke,builtin,<-hp,dV,jf]
       ·rename_i x' o' n c';split at hr
        ·rename_i eR;split at hr
         ·rename_i ql K9
          cases hr
          obtain⟨b3,d3,aO,mQ,mR,_⟩:=rY dx;have:=mR _ rfl;subst this;obtain⟨L,hL,K_,Pj⟩:=GJ hR K9 aO;have Pm:∀j v,L[j]? =some v->w.cell? ((⟨b3,o',none⟩:Addr).add j)=some v:=λ j v hj=>by rw[wQ];exact Pj j v hj
          have qt:Builtin.nextslicecap (n+k) d3*i.bytes<=281474976710656:=growslice_fits aa (by have:=yf (show n+k<=200000 by omega) h3;omega);have jf:=run_append_grow (P:=P) w t o.type e i Z (zT hu) (uB hi) Pg ⟨b3,o',none⟩ n d3 L K_ Pm ⟨b2,q,none⟩ k d2 M yw K8 eR.1 aa qt;exact VR (d:=d3) hR aG lh hL K_ hM yw aa (by simp only[execOp,eo];simp[resolve,invoke,builtin,mQ,dV,jf])
         ·cases hr
        ·cases hr
       ·rename_i x' n;split at hr
        ·rename_i ql f K9;split at hr
         ·rename_i eR;obtain⟨hf,oP,bI⟩:=eR;have hf:=hf.symm;subst hf
          cases hr
          obtain⟨b3,d3,aO,mQ,_,mR⟩:=rY dx;have s5:=mR rfl;obtain⟨L,cur,c3,z3,hL,Ae,VS,fG,hcs,jg,hw⟩:=hR.obj _ _ _ K9 aO;rw[s5]at Ae;cases Ae;rw[aG]at VS;cases VS;have K_:=yr hL;have Pj:=congrArg List.length jg;simp at Pj;have VT:=O7 (n*i.size) hL;have uE:(L.take (n*i.size)).length=n*i.size:=by simp;omega
          by_cases oQ:n+k<=d3
          ·have EO:(n+k)*i.size<=d3*i.size:=Nat.mul_le_mul_right _ oQ;rw[Nat.add_mul]at EO;have jf:=run_append_room (P:=P) w t o.type e i (zT hu) (uB hi) b3 n d3 cur hw ⟨b2,q,none⟩ k d2 M yw K8 (O9 hM) oQ aa;have hle:=hR.yv b3 (some d3);refine⟨_,.slice (some ⟨b3,0,none⟩) (n+k) d3,w.setRow b3 (cur.toList.take (n*i.size)++M++cur.toList.drop (n*i.size+M.length)).toArray,hle,?_,hR.again (w':=w.setRow b3 (cur.toList.take (n*i.size)++M++cur.toList.drop (n*i.size+M.length)).toArray) (c:=some d3) K9 aO aj (λ k hk=>setRow_other _ _ _ _ hk) rfl rfl rfl ⟨L.take (n*i.size)++M,(cur.toList.take (n*i.size)++M++cur.toList.drop (n*i.size+M.length)).toArray,d3,i.size,zU hle (GI VT hM),Th.CP,aG,fG,?_,?_,kd _ _ _ _ _ _ hw⟩,.inl ?_⟩
           ·show((θ.add s.n _ _).bw s.n).bind _=_;rw[Th.Ab];show((θ.add s.n _ _).cap s.n).map _=_;rw[Th.CP];rfl
           ·simp;omega
           ·simp only[List.toList_toArray];rw[show cur.toList.take (n*i.size)=L.take (n*i.size)from by rw[<-jg,List.take_take];congr 1;omega];rw[Ep,bQ (ai _)];simp
           ·simp only[execOp,eo];simp[resolve,invoke,builtin,mQ,dV,jf]
          ·have Pm:∀j v,(L.take (n*i.size))[j]? =some v->w.cell? ((⟨b3,0,none⟩:Addr).add j)=some v:=λ j v hj=>by
            rw[mL]at hj;split at hj
            ·rw[<-jg,mL]at hj;split at hj
             ·rw[wQ];simp[World.cell?,hw];simpa using hj
             ·cases hj
            ·cases hj
           have qt:Builtin.nextslicecap (n+k) d3*i.bytes<=281474976710656:=growslice_fits aa (by have:=yf (show n+k<=200000 by omega) h3;omega);have jf:=run_append_grow (P:=P) w t o.type e i Z (zT hu) (uB hi) Pg ⟨b3,0,none⟩ n d3 (L.take (n*i.size)) uE Pm ⟨b2,q,none⟩ k d2 M yw K8 aa aa qt;exact VR (d:=d3) (s:={s with h:=s.h.set x' none}) (hR.kill x') aG lh VT uE hM yw aa (by simp only[execOp,eo];simp[resolve,invoke,builtin,mQ,dV,jf])
         ·cases hr
        ·cases hr
       ·cases hr
      ·cases h
     ·cases h
    ·cases h
   ·cases h
  ·cases h
 ·rename_i args iC eo;unfold KR at h;split at h
  ·rename_i t r x y qq CO;have hA:args=#[x,y]:=by apply rN;simpa using CO
   subst hA;have hB:iC[0]? =some t:=by rw[<-rM,qq];rfl
   split at h
   ·rename_i e hu;split at h
    ·rename_i z x' o' n c y' q k c2 hz hx hy;split at h
     ·rename_i l hl;obtain⟨s2,eI,h⟩:=bp.1 h
      cases h
      obtain⟨b,d,hb,hp,_⟩:=rY (dR hT hx);obtain⟨b2,d2,aC,dV,_⟩:=rY (dR hT hy);obtain⟨M,hM,yw,Ph⟩:=GJ hR hl aC;obtain⟨w',bu,kn⟩:=VQ hR eI hM hb;have VU:=run_loadCells_list (P:=P) w ⟨b2,q,none⟩ M (λ j v hj=>by rw[wQ];exact Ph j v hj);rw[yw]at VU;refine⟨θ,.int .i64 (min n k:Nat),w',.refl θ,rfl,kn,.inl ?_⟩;have agF:Nat.min k n=min n k:=Nat.min_comm _ _;simp only[execOp,eo,resolve,invoke,builtin];simp[Builtin.copy_,hB,hp,dV,dT hu,Builtin.lenOf,Builtin.firstCells,lH hz,agF,VU,bu,goInt]
     ·cases h
    ·rename_i z x' o' n c hz hx hy
     cases h
     obtain⟨b,d,hb,hp,_⟩:=rY (dR hT hx);have dV:=cG (dR hT hy);refine⟨θ,.int .i64 0,w,.refl θ,rfl,hR,.inl ?_⟩;simp only[execOp,eo,resolve,invoke,builtin];simp[Builtin.copy_,hB,hp,<-dV,dT hu,Builtin.lenOf,Builtin.firstCells,lH hz,storeCells,goInt]
    ·cases h
   ·cases h
  ·cases h
 ·cases h
end Ev
end
section
open Go.RowKit
def be (n:Int):Nat->List UInt8
 |0=>[]
 |w+1=>be (n/256) w++[byteOf n]
def num (l:List UInt8):Nat:=l.foldl (λ n b=>n*256+b.toNat) 0
def wid (n:Nat):Nat:=if n<256 then 1 else if n<65536 then 2 else if n<16777216 then 3 else if n<4294967296 then 4 else
 if n<1099511627776 then 5 else if n<281474976710656 then 6 else if n<72057594037927936 then 7 else 8
def fQ (n:Nat):List UInt8:=if n<248 then[byteOf (n:Int)]else byteOf ((247+wid n:Nat):Int)::be (n:Int) (wid n)
def iE (n:Int):Nat:=min n.toNat 72057594037927935
def qu (l:List Int):List UInt8:=l.flatMap λ n=>fQ (iE n)
def takeN:List UInt8->Option (Nat×List UInt8)
 |[]=>none
 |b::t=>if b.toNat<248 then some (b.toNat,t)else if b.toNat=255 then none else
  if t.length<b.toNat-247 then none else
  if fQ (num (t.take (b.toNat-247)))=b::t.take (b.toNat-247)then some (num (t.take (b.toNat-247)),t.drop (b.toNat-247))else none
def GM (s:List UInt8):Nat:=match takeN s with|some (n,_)=>n|none=>0
def GN (s:List UInt8):List UInt8:=match takeN s with|some (_,r)=>r|none=>[]
def GP (s:List UInt8):Int:=match takeN s with|some _=>0|none=>2
theorem jH (n:Int)(w:Nat):(be n w).length=w:=by
 induction w generalizing n with
 |zero=>rfl
 |succ w ih=>simp[be,ih]
theorem La (l:List UInt8)(b:UInt8):num (l++[b])=num l*256+b.toNat:=by simp[num]
theorem Lb (l:List UInt8):num l<256^l.length:=by
 suffices h:∀(l:List UInt8) (a k:Nat),a<256^k->l.foldl (λ n b=>n*256+b.toNat) a<256^(k+l.length)by
  have:=h l 0 0 aj;simpa[num]using this
 intro l;induction l with
 |nil=>intro a k h;simpa using h
 |cons b l ih=>
  intro a k h;have hb:=gT b;have:=ih (a*256+b.toNat) (k+1) (by rw[Nat.pow_succ];omega);simpa[rQ,Nat.add_comm 1]using this
theorem VV (n:Int)(w:Nat):(num (be n w):Int)=n%256^w:=by
 induction w generalizing n with
 |zero=>simp[be,num,Int.emod_one]
 |succ w ih=>
  have hp:(256:Int)^(w+1)=256*256^w:=by rw[Int.pow_succ,Int.mul_comm]
  have uF:(0:Int)<256^w:=Int.pow_pos aa;rw[be,La,Int.natCast_add,Int.natCast_mul,ih,ym,hp];have h1:=Int.emod_nonneg (n/256) (show(256:Int)^w≠0 by omega);have h2:=Int.emod_lt_of_pos (n/256) uF
  have h3:n=(n/256%256^w*256+n%256)+256*256^w*(n/256/256^w):=by
   have e1:=Int.mul_ediv_add_emod n 256;have e2:=Int.mul_ediv_add_emod (n/256) (256^w);rw[Int.mul_assoc];omega
  generalize n/256%256^w*256+n%256=x at h3;generalize hM:(256:Int)^w=M at*
  have hx:x=n/256%M*256+n%256:=by
   have e1:=Int.mul_ediv_add_emod n 256;have e2:=Int.mul_ediv_add_emod (n/256) M;rw[Int.mul_assoc]at h3;omega
  rw[h3,Int.add_mul_emod_self_left,Int.emod_eq_of_lt aa aa,hx]
theorem agG (l:List UInt8):be (num l:Int) l.length=l:=by
 suffices h:∀(k:Nat) (l:List UInt8),l.length=k->be (num l:Int) k=l from h _ l rfl
 intro k;induction k with
 |zero=>intro l h;rw[dP h];rfl
 |succ k ih=>
  intro l h;obtain⟨r,b,rfl⟩:∃r b,l=r++[b]:=⟨l.dropLast,l.getLast (by intro h';simp[h']at h),(List.dropLast_concat_getLast _).symm⟩;have hr:r.length=k:=by simpa using h
  have hb:=gT b;rw[La,be,show((num r*256+b.toNat:Nat):Int)/256=(num r:Int)from by omega,ih r hr];congr 2;apply yg.1;have:=ym ((num r*256+b.toNat:Nat):Int);omega
theorem Pn (n:Int)(w:Nat):be n (w+1)=byteOf (n/256^w)::be n w:=by
 induction w generalizing n with
 |zero=>simp[be]
 |succ w ih=>
  rw[be,ih,be,Int.ediv_ediv_of_nonneg aa,<-Int.pow_succ',gU]
theorem VW (k:Nat):(2:Int)^(8*k)=256^k:=by rw[Int.pow_mul];rfl
theorem agH (n:Int)(w i:Nat)(h:i<w):(be n w).take (i+1)=(be n w).take i++[byteOf (n/2^(8*(w-1-i)))]:=by
 induction w generalizing i with
 |zero=>omega
 |succ w ih=>
  rw[Pn];match i with
  |0=>simp[VW]
  |i+1=>
   have:=ih i aa;rw[uu,this,uu,gU,show w+1-1-(i+1)=w-1-i from by omega]
theorem agI (n:Int)(j k:Nat):(be n (k+j)).drop j=be n k:=by
 induction j with
 |zero=>rfl
 |succ j ih=>rw[<-rQ,Pn,List.drop_succ_cons,ih]
theorem GQ (n:Nat)(h:n<256):(byteOf (n:Int)).toNat=n:=by have:=ym (n:Int);omega
theorem Po (n:Nat):1<=wid n:=by unfold wid;split<;>(try split)<;>(try split)<;>(try split)<;>(try split)<;>(try split)<;>(try split)<;>omega
theorem Pp (n:Nat):wid n<=8:=by unfold wid;split<;>(try split)<;>(try split)<;>(try split)<;>(try split)<;>(try split)<;>(try split)<;>omega
theorem Pq (n:Nat)(h:n<=72057594037927935):wid n<=7:=by unfold wid;split<;>(try split)<;>(try split)<;>(try split)<;>(try split)<;>(try split)<;>(try split)<;>omega
theorem agJ (n k:Nat)(h1:1<=k)(h8:k<=7):k<wid n↔k<=wid n/\0<n/2^(8*k):=by
 unfold wid;have:k=1∨k=2∨k=3∨k=4∨k=5∨k=6∨k=7:=aa
 rcases this with rfl|rfl|rfl|rfl|rfl|rfl|rfl<;>simp only[Nat.reduceMul,Nat.reducePow]<;>
  (split<;>(try split)<;>(try split)<;>(try split)<;>(try split)<;>(try split)<;>(try split)<;>omega)
theorem agK (n:Nat)(h:n<18446744073709551616):n<256^wid n:=by
 unfold wid;split<;>(try split)<;>(try split)<;>(try split)<;>(try split)<;>(try split)<;>(try split)<;>simp only[Nat.reducePow]<;>omega
theorem agL (n w:Nat)(h:n<256^w)(hw:1<=w):wid n<=w:=by
 by_cases h8:8<=w
 ·have:=Pp n;omega
 ·have:w=1∨w=2∨w=3∨w=4∨w=5∨w=6∨w=7:=aa
  rcases this with rfl|rfl|rfl|rfl|rfl|rfl|rfl<;>simp only[Nat.reducePow]at h<;>
   (unfold wid;split<;>(try split)<;>(try split)<;>(try split)<;>(try split)<;>(try split)<;>(try split)<;>omega)
theorem VX (n:Int):iE n<=72057594037927935:=by unfold iE;omega
theorem GR (n:Nat):(fQ n).length<=9:=by
 unfold fQ;split
 ·simp
 ·simp only[aU,jH];have:=Pp n;omega
theorem agM (n:Nat):1<=(fQ n).length:=by unfold fQ;split<;>simp
theorem agN (l:List Int)(n:Int):qu (l++[n])=qu l++fQ (iE n):=by simp[qu]
theorem agO (l:List Int):(qu l).length<=9*l.length:=by
 induction l with
 |nil=>simp[qu]
 |cons n l ih=>
  have:=GR (iE n);simp only[qu,wJ,ag,aU]at ih⊢;omega
theorem VY (n:Nat)(r:List UInt8)(h:n<=72057594037927935):takeN (fQ n++r)=some (n,r):=by
 by_cases h1:n<248
 ·simp only[fQ,if_pos h1,gU,List.nil_append,takeN,GQ n aa]
 ·have hw:=Pq n h;have hp:=Po n;have hl:n<256^wid n:=agK n aa;have hb:(byteOf ((247+wid n:Nat):Int)).toNat=247+wid n:=GQ _ aa;have tA:fQ n=byteOf ((247+wid n:Nat):Int)::be n (wid n):=by simp only[fQ,if_neg h1]
  rw[tA,gU,takeN,hb];have sb:247+wid n-247=wid n:=aa;have ht:(be n (wid n)++r).take (wid n)=be n (wid n):=by rw[Er (by rw[jH];omega),bQ (by rw[jH];omega)]
  have hd:(be n (wid n)++r).drop (wid n)=r:=by rw[zH (by rw[jH];omega),nD (by rw[jH];omega)];rfl
  have hn:num (be n (wid n))=n:=by
   have e:=VV (n:Int) (wid n);have e2:((n%256^wid n:Nat):Int)=(n:Int)%256^wid n:=aj;rw[<-e2,Cm hl]at e;omega
  rw[if_neg aa,if_neg aa,sb,if_neg (by simp[jH]),ht,hd,hn,tA,if_pos rfl]
theorem agP (l:List UInt8)(h:l.length<=7):num l<=72057594037927935:=by
 have h1:=Lb l;have h2:(256:Nat)^l.length<=256^7:=px aa h;simp only[Nat.reducePow]at h2;omega
theorem Pr (s:List UInt8)(n:Nat)(r:List UInt8)(h:takeN s=some (n,r)):s=fQ n++r/\n<=72057594037927935:=by
 cases s with
 |nil=>simp[takeN]at h
 |cons b t=>
  have hb:=gT b;rw[takeN]at h;by_cases h1:b.toNat<248
  ·rw[if_pos h1]at h;simp only[Es,Prod.mk.injEq]at h;obtain⟨rfl,rfl⟩:=h;refine⟨?_,aa⟩;have gz:byteOf (b.toNat:Int)=b:=yg.1 (GQ _ aa);simp[fQ,h1,gz]
  ·rw[if_neg h1]at h;by_cases h2:b.toNat=255
   ·rw[if_pos h2]at h;cases h
   ·rw[if_neg h2]at h;by_cases h3:t.length<b.toNat-247
    ·rw[if_pos h3]at h;cases h
    ·rw[if_neg h3]at h;by_cases h4:fQ (num (t.take (b.toNat-247)))=b::t.take (b.toNat-247)
     ·rw[if_pos h4]at h;simp only[Es,Prod.mk.injEq]at h;obtain⟨rfl,rfl⟩:=h;refine⟨?_,agP _ (by rw[ba];omega)⟩;rw[h4,gU,gI]
     ·rw[if_neg h4]at h;cases h
theorem agQ (b:UInt8)(l:List UInt8)(h1:248<=b.toNat)(h2:b.toNat<255)(hl:l.length=b.toNat-247):
 fQ (num l)=b::l↔247<num l/\b.toNat-247<=wid (num l):=by
 have ao:=Lb l;constructor
 ·intro h;unfold fQ at h;split at h
  ·have:=congrArg List.length h;simp only[aU,cL]at this;omega
  ·simp only[List.cons.injEq]at h;have h3:=congrArg UInt8.toNat h.1;have:=Pp (num l);rw[GQ _ aa]at h3;omega
 ·rintro⟨h3,h4⟩;have hm:=agL (num l) (b.toNat-247) (by rw[<-hl];exact ao) aa;have hw:wid (num l)=b.toNat-247:=aa;unfold fQ;rw[if_neg aa,hw];have wS:=agG l;rw[hl]at wS
  have au:byteOf ((247+(b.toNat-247):Nat):Int)=b:=by
   apply yg.1;rw[GQ _ aa];omega
  rw[wS,au]
theorem VZ (b:UInt8)(t:List UInt8)(h1:248<=b.toNat)(h:b.toNat=255∨t.length<b.toNat-247):takeN (b::t)=none:=by
 rw[takeN,if_neg aa];by_cases h2:b.toNat=255
 ·rw[if_pos h2]
 ·rw[if_neg h2,if_pos aa]
theorem agR (b:UInt8)(t:List UInt8)(h1:248<=b.toNat)(h2:b.toNat<255)(h3:b.toNat-247<=t.length)(N:Nat)(hN:N=num (t.take (b.toNat-247))):
 takeN (b::t)=if 247<N/\b.toNat-247<=wid N then some (N,t.drop (b.toNat-247))else none:=by
 rw[hN];clear hN
 have e:takeN (b::t)=if fQ (num (t.take (b.toNat-247)))=b::t.take (b.toNat-247)then some (num (t.take (b.toNat-247)),t.drop (b.toNat-247))else none:=by
  rw[takeN,if_neg aa,if_neg aa,if_neg aa]
 rw[e];have:=agQ b (t.take (b.toNat-247)) h1 h2 (by rw[ba];omega);by_cases h:247<num (t.take (b.toNat-247))/\b.toNat-247<=wid (num (t.take (b.toNat-247)))
 ·rw[if_pos h,if_pos (this.2 h)]
 ·rw[if_neg h,if_neg (λ hh=>h (this.1 hh))]
theorem agS (t:List UInt8)(j:Nat)(h:j<t.length):num (t.take (j+1))=num (t.take j)*256+t[j].toNat:=by
 rw[zI h,La]
theorem agT (l:List UInt8)(j:Nat)(h:j<=6):num (l.take j)<=281474976710655:=by
 have h1:=Lb (l.take j);have h2:(256:Nat)^(l.take j).length<=256^6:=px aa (by rw[ba];omega);simp only[Nat.reducePow]at h2;omega
theorem agU (n:Int)(h1:0<=n)(h2:n<=72057594037927935):iE n=n.toNat:=by unfold iE;omega
theorem agV (n:Int)(h1:72057594037927935<n):iE n=72057594037927935:=by unfold iE;omega
theorem agW (n:Nat)(h1:248<=n):fQ n=byteOf ((247+wid n:Nat):Int)::be n (wid n):=by unfold fQ;rw[if_neg aa]
theorem agX (n:Nat)(h1:n<248):fQ n=[byteOf (n:Int)]:=by unfold fQ;rw[if_pos h1]
end
section
namespace Ev
def hd (b:Nat):List V1:=[.i .i64 1,.s [.a 1 16],.i .i64 1,.at b,.at (b+1),.s [.a b 32],.s [.a (b+1) 32]]
def GS (l:List V1):Option Nat:=match l with
 |[_,_,_,.at b,_,_,_]=>if yo V1.same l (hd b)&&b%16==0&&Nat.ble 16 b then some b else none
 |_=>none
def Lc:List Pc->Option Nat->Option Nat
 |[],r=>r
 | .b x::l,some n=>Lc l (some (n*256+x))
 | .z j::l,some n=>Lc l (some (n*256^j))
 |_,_=>none
def Ps:List Pc->Bool
 |[]=>true
 | .z _::l=>Ps l
 |_=>false
def k1 (l:List V2)(s:S):Option (V3×S):=match l with
 |[.o (.s [.b 115]),.o (.s [])]=>some (.v (.g [.s [.a 10 32],.s [.a 11 32],.s [.a 12 32]]),s)
 |_=>none
def k2 (l:List V2)(s:S):Option (V3×S):=match l with
 |[.o (.i .i64 1)]=>some (.v (.o (.s [.a 1 16])),s)
 |_=>none
noncomputable def k3 (l:List V2)(s:S):Option (V3×S):=match l with
 |[.o (.s [.b 115]),.o (.s [.a 1 16]),.o (.i .i64 1),.o (.sl x 0 1 (some 1))]=>match s.h.get x with
  |some (.c [.s [.b 97],.s [.b 120]] _)=>some (.t [.g (hd (16*(s.n+1))++[.sl s.n 0 1 none]),.o (.i .i64 0)],(s.new (.g [.s [.a (16*(s.n+1)+2) 224]] 9)).2)
  |_=>none
 |_=>none
def k4 (l:List V2)(s:S):Option (V3×S):=match l with
 |[.o (.s [.a 12 32]),.g h]=>(GS h).map λ _=>(.v (.o (.i .i64 0)),s)
 |_=>none
def k5 (l:List V2)(s:S):Option (V3×S):=match l with
 |[.g h]=>(GS h).map λ _=>(.v (.o (.i .i64 0)),s)
 |_=>none
def k6 (l:List V2)(s:S):Option (V3×S):=match l with
 |[.g h]=>(GS h).map λ b=>(.t [.o (.s [.a (b+3) 98]),.o (.i .i64 0)],s)
 |_=>none
def k7 (l:List V2)(s:S):Option (V3×S):=match l with
 |[.o (.s [.a k 98])]=>if k%16==3&&Nat.ble 16 k then some (.t [.g (hd (k-3)),.o (.i .i64 0)],s)else none
 |_=>none
def k8 (l:List V2)(s:S):Option (V3×S):=match l with
 |[.o (.i .i64 32),.o (.s [.a k 224])]=>if k%16==2&&Nat.ble 16 k then some (.v (.o (.s [.a (k-2) 32])),s)else none
 |_=>none
def k9 (l:List V2)(s:S):Option (V3×S):=match l with
 |[.o (.i .i64 n),.o (.i .i64 k)]=>some (.v (.o (.s (GF (be n (min k.toNat 8))))),s)
 |_=>none
def Pt (l:List V2)(s:S):Option (V3×S):=match l with
 |[.o (.s t),.o (.i .i64 (.ofNat k))]=>if k<1∨8<k∨100000<lF t then none else if k<=lF t then match CG k t,zR k t with
    |some a,some b=>match Lc a (some 0)with
     |some n=>if n<2^63 then some (.t [.o (.i .i64 n),.o (.s b),.o (.i .i64 0)],s)else none
     |none=>none
    |_,_=>none
  else some (.t [.o (.i .i64 0),.o (.s []),.o (.i .i64 2)],s)
 |_=>none
def Pu (l:List V2)(s:S):Option (V3×S):=match l with
 |[.o (.s [.b 0]),.o (.i .i64 (.ofNat k))]=>if k<=1000 then some (.v (.o (.s [.z k])),s)else none
 |_=>none
def Pv (l:List V2)(s:S):Option (V3×S):=match l with
 |[.o (.s t),.o (.s [.b 0])]=>if Ps t/\lF t<=1000 then some (.v (.o (.s [])),s)else none
 |_=>none
noncomputable def known:uA:=λ f l s=>
 if f=12 then k1 l s
 else if f=125 then k2 l s
 else if f=6 then k3 l s
 else if f=243 then k4 l s
 else if f=78 then k5 l s
 else if f=35 then k6 l s
 else if f=38 then k7 l s
 else if f=62 then k8 l s
 else if f=87 then k9 l s
 else if f=83 then Pt l s
 else if f=59 then Pu l s
 else if f=239 then Pv l s
 else none
end Ev
end
section
open Go.RowKit
theorem Pw (n:Nat)(h:n<4294967296):IntKind.u32.wrap (n:Int)=n:=by rw[Et];omega
theorem ER (n:Nat)(h:n<9223372036854775808):IntKind.i64.wrap (n:Int)=n:=by rw[aE];omega
theorem ES (n:Nat)(h:n<4294967296):(BitVec.ofInt 32 (n:Int)).toNat=n:=by
 rw[qf];simp only[Nat.reducePow];omega
theorem Ld (n:Nat)(h:n<9223372036854775808):(BitVec.ofInt 64 (n:Int)).toNat=n:=by
 rw[qf];simp only[Nat.reducePow];omega
theorem Af (a b:Nat)(ha:a<4294967296)(hb:b<4294967296):bits .or .u32 (a:Int) (b:Int)=((a|||b:Nat):Int):=by
 show IntKind.u32.wrap ((BitVec.ofInt 32 (a:Int)|||BitVec.ofInt 32 (b:Int)).toNat:Int)=_;rw[BitVec.toNat_or,ES a ha,ES b hb];exact Pw _ (uw (n:=32) ha hb)
theorem GU (a b:Nat)(ha:a<4294967296)(hb:b<4294967296):bits .and .u32 (a:Int) (b:Int)=((a&&&b:Nat):Int):=by
 show IntKind.u32.wrap ((BitVec.ofInt 32 (a:Int)&&&BitVec.ofInt 32 (b:Int)).toNat:Int)=_;rw[BitVec.toNat_and,ES a ha,ES b hb];exact Pw _ (Nat.lt_of_le_of_lt Nat.and_le_left ha)
theorem oR (a b:Nat)(ha:a<4294967296)(hb:b<4294967296):bits .xor .u32 (a:Int) (b:Int)=((a^^^b:Nat):Int):=by
 show IntKind.u32.wrap ((BitVec.ofInt 32 (a:Int)^^^BitVec.ofInt 32 (b:Int)).toNat:Int)=_;rw[BitVec.toNat_xor,ES a ha,ES b hb];exact Pw _ (py (n:=32) ha hb)
theorem agY (a b:Nat)(ha:a<9223372036854775808)(hb:b<9223372036854775808):bits .or .i64 (a:Int) (b:Int)=((a|||b:Nat):Int):=by
 show IntKind.i64.wrap ((BitVec.ofInt 64 (a:Int)|||BitVec.ofInt 64 (b:Int)).toNat:Int)=_;rw[BitVec.toNat_or,Ld a ha,Ld b hb];exact ER _ (uw (n:=63) ha hb)
theorem Px (a b:Nat)(ha:a<9223372036854775808)(hb:b<9223372036854775808):bits .xor .i64 (a:Int) (b:Int)=((a^^^b:Nat):Int):=by
 show IntKind.i64.wrap ((BitVec.ofInt 64 (a:Int)^^^BitVec.ofInt 64 (b:Int)).toNat:Int)=_;rw[BitVec.toNat_xor,Ld a ha,Ld b hb];exact ER _ (py (n:=63) ha hb)
def gJ (x k:Nat):Nat:=x/2^k|||x*2^(32-k)%4294967296
theorem qv (x k:Nat)(h:x<4294967296):gJ x k<4294967296:=
 uw (n:=32) (Nat.lt_of_le_of_lt (Nat.div_le_self _ _) h) (rR _ aA)
theorem agZ (x k:Nat)(h:x<4294967296):bits .or .u32 ((x:Int)/2^k) ((x:Int)*2^(32-k)%4294967296)=(gJ x k:Nat):=by
 have e1:(x:Int)/2^k=((x/2^k:Nat):Int):=aj;have e2:(x:Int)*2^(32-k)%4294967296=((x*2^(32-k)%4294967296:Nat):Int):=aj;rw[e1,e2];exact Af _ _ (Nat.lt_of_le_of_lt (Nat.div_le_self _ _) h) (rR _ aA)
end
section
abbrev aT:=Nat×Bool
def eJ:List aT->List aT
 |a::b::l=>(a.1+b.1,true)::eJ l
 |_=>[]
theorem Ag:∀(l:List aT),(eJ l).length=l.length/2
 |[]=>rfl
 |[_]=>by simp[eJ]
 |a::b::l=>by
  rw[eJ,aU,Ag l,aU,aU];omega
theorem V4:∀(l:List aT),∀c∈eJ l,c.2=true
 |[],c,h=>by cases h
 |[_],c,h=>by cases h
 |a::b::l,c,h=>by
  rw[eJ]at h;rcases eW.1 h with e|h
  ·rw[e]
  ·exact V4 l c h
theorem Py:∀(l:List aT) (i:Nat) (a b:aT),l[2*i]? =some a->l[2*i+1]? =some b->(eJ l)[i]? =some (a.1+b.1,true)
 |[],i,a,b,h,_=>by simp at h
 |[x],i,a,b,h,h2=>by
  cases i with
  |zero=>simp at h2
  |succ i=>rw[show 2*(i+1)=2*i+1+1 by omega]at h;simp at h
 |x::y::l,0,a,b,h,h2=>by
  simp at h h2;subst h h2;rfl
 |x::y::l,i+1,a,b,h,h2=>by
  rw[show 2*(i+1)=2*i+1+1 by omega]at h h2;simp only[eF]at h h2;rw[eJ,eF];exact Py l i a b h h2
def tB (l:List aT):Prop:=l.Pairwise λ a b=>a.1<=b.1/\(a.2=true->b.2=false->a.1<b.1)
def f_ (l:List aT):List aT:=l.filter λ c=>!c.2
def eS (l:List aT):List aT:=l.filter λ c=>c.2
theorem GV (l:List aT):(f_ l).length+(eS l).length=l.length:=by
 induction l with
 |nil=>rfl
 |cons c l ih=>
  unfold f_ eS at*
  cases hc:c.2<;>simp[oJ,hc]<;>omega
structure yx (base:List aT)(ahead l:List aT):Prop where
 yy:tB l
 sg:f_ l=base
 pr:eS l=eJ ahead
theorem Pz (l:List aT)(n:Nat):f_ (l.take n)=(f_ l).take (f_ (l.take n)).length/\f_ (l.drop n)=(f_ l).drop (f_ (l.take n)).length:=by
 have h:f_ l=f_ (l.take n)++f_ (l.drop n):=by
  unfold f_;rw[<-kI,gI]
 rw[h,Cq,List.drop_left];exact⟨rfl,rfl⟩
theorem PA (l:List aT)(n:Nat):eS (l.take n)=(eS l).take (eS (l.take n)).length:=by
 have h:eS l=eS (l.take n)++eS (l.drop n):=by
  unfold eS;rw[<-kI,gI]
 rw[h,Cq]
theorem V5 {l:List aT}{c:aT}(h:c∈f_ l):c∈l/\c.2=false:=by
 unfold f_ at h;rw[pz]at h;exact⟨h.1,by simpa using h.2⟩
theorem ag0 {l:List aT}{c:aT}(h:c∈eS l):c∈l/\c.2=true:=by
 unfold eS at h;rw[pz]at h;exact⟨h.1,by simpa using h.2⟩
theorem fewer {base R' R:List aT}{n p:Nat}{ahead:List aT}(hR:yx base R' R)(kn:yx base ahead R')(hp:(eS (R.take n)).length=p):
 (f_ (R'.take (2*p))).length<=(f_ (R.take n)).length:=by
 obtain⟨s,hs⟩:∃s,(f_ (R.take n)).length=s:=⟨_,rfl⟩;obtain⟨t,ht⟩:∃t,(f_ (R'.take (2*p))).length=t:=⟨_,rfl⟩;rw[hs,ht];rcases gx s t with ao|lk
 ·exfalso
  cases t with
  |zero=>omega
  |succ t=>
   have qw:=Pz R' (2*p);rw[ht,kn.sg]at qw
   have oS:t<base.length:=by
    have:=congrArg List.length qw.1;rw[ht,ba]at this;omega
   obtain⟨c,hc⟩:∃c,base[t]? =some c:=⟨_,aZ oS⟩
   have cR:c∈f_ (R'.take (2*p)):=by
    rw[qw.1];exact du (i:=t) (by rw[Gy aa];exact hc)
   have V6:=Pz R n;rw[hs,hR.sg]at V6
   have bT:c∈f_ (R.drop n):=by
    rw[V6.2];refine du (i:=t-s) ?_;rw[rO,show s+(t-s)=t by omega];exact hc
   have GL:0<p:=by
    rcases wG p with h|h
    ·rw[h]at ht;simp[f_]at ht
    ·exact h
   have lJ:p<=R'.length/2:=by
    have h1:=PA R n;have h2:=congrArg List.length h1;rw[hp,hR.pr,ba,Ag]at h2;omega
   obtain⟨a,ha⟩:∃a,R'[2*(p-1)]? =some a:=⟨_,aZ aa⟩;obtain⟨b,hb⟩:∃b,R'[2*(p-1)+1]? =some b:=⟨_,aZ aa⟩;have hw:=Py R' (p-1) a b ha hb
   have wT:c.1<=b.1:=by
    obtain⟨hm,_⟩:=V5 cR;obtain⟨i,hi⟩:=zJ.1 hm
    have cP:i<2*p:=by
     rcases gx i (2*p)with h|h
     ·exact h
     ·rw[List.getElem?_take_eq_none aa]at hi;cases hi
    rw[Gy cP]at hi;rcases gx i (2*(p-1)+1)with h|h
    ·have CS:=fX.1 hi;have aC:=fX.1 hb;have:=(List.pairwise_iff_getElem.1 kn.yy i (2*(p-1)+1) CS.1 aC.1 h).1;rw[CS.2,aC.2]at this;exact this
    ·have:i=2*(p-1)+1:=aa;rw[this,hb]at hi
     cases hi
     exact ai _
   have hq:(a.1+b.1,true)∈eS (R.take n):=by
    rw[PA,hp,hR.pr];exact du (i:=p-1) (by rw[Gy aa];exact hw)
   have h1:=(ag0 hq).1;obtain⟨h2,h3⟩:=V5 bT;have V7:=hR.yy;rw[<-gI n R]at V7;have h4:=((List.pairwise_append.1 V7).2.2 _ h1 _ h2).2 rfl h3;simp only at h4;omega
 ·exact lk
def takes:List (List aT)->Nat->List Nat
 |[],_=>[]
 |R::l,n=>(f_ (R.take n)).length::takes l (2*(eS (R.take n)).length)
def pD (base:List aT):List (List aT)->Prop
 |[]=>True
 |[R]=>R=base
 |R::R'::l=>yx base R' R/\pD base (R'::l)
theorem GW:∀(l:List (List aT)) (n:Nat),(takes l n).length=l.length
 |[],_=>rfl
 |_::l,n=>by rw[takes,aU,GW l,aU]
theorem ag1 {base:List aT}(hs:tB base)(hb:∀c∈base,c.2=false):yx base [] base:=by
 refine⟨hs,?_,?_⟩
 ·unfold f_;exact List.filter_eq_self.2 λ c hc=>by rw[hb c hc];rfl
 ·unfold eS;rw[show eJ ([]:List aT)=[]from rfl];exact rS.2 λ c hc=>by rw[hb c hc];simp
theorem V8 {base:List aT}(hs:tB base)(hb:∀c∈base,c.2=false):∀{R:List aT} {l:List (List aT)},pD base (R::l)->∃ahead,yx base ahead R
 |R,[],h=>⟨[],by rw[show R=base from h];exact ag1 hs hb⟩
 |R,R'::l,h=>⟨R',h.1⟩
theorem V9 {base:List aT}(hs:tB base)(hb:∀c∈base,c.2=false):∀(l:List (List aT)) (n:Nat),pD base l->(takes l n).Pairwise λ a b=>b<=a
 |[],_,_=>List.Pairwise.nil
 |[R],n,_=>by rw[takes,takes];exact List.pairwise_singleton _ _
 |R::R'::l,n,h=>by
  have ih:=V9 hs hb (R'::l) (2*(eS (R.take n)).length) h.2;obtain⟨ahead,ha⟩:=V8 hs hb h.2;have hf:=fewer h.1 ha (n:=n) rfl;rw[takes];refine lX.2 ⟨λ b hb=>?_,ih⟩;rw[takes]at hb ih;rcases eW.1 hb with e|hb
  ·rw[e];exact hf
  ·exact b_ ((lX.1 ih).1 b hb) hf
theorem PB {base:List aT}(hs:tB base)(hb:∀c∈base,c.2=false):∀(l:List (List aT)) (n:Nat),pD base l->∀s∈takes l n,s<=base.length
 |[],_,_,s,h=>by cases h
 |R::l,n,h,s,hm=>by
  rw[takes]at hm;obtain⟨ahead,ha⟩:=V8 hs hb h;rcases eW.1 hm with e|hm
  ·have:=congrArg List.length (Pz R n).1;rw[ba,ha.sg]at this;omega
  ·cases l with
   |nil=>cases hm
   |cons R' l=>exact PB hs hb (R'::l) _ h.2 s hm
def width:List Nat->Nat
 |[]=>0
 |s::l=>s*2^l.length+width l
theorem V' {base:List aT}(hs:tB base)(hb:∀c∈base,c.2=false):∀(R:List aT) (l:List (List aT)) (n:Nat),pD base (R::l)->n<=R.length->width (takes (R::l) n)=n*2^l.length
 |R,[],n,h,hn=>by
  have hR:R=base:=h;have Ah:=GV (R.take n)
  have hp:(eS (R.take n)).length=0:=by
   rw[List.length_eq_zero_iff];unfold eS;exact rS.2 λ c hc=>by rw[hb c (by rw[<-hR];exact s6 hc)];simp
  rw[ba,lB hn]at Ah;simp only[takes,width,cL,Nat.pow_zero,yh];omega
 |R,R'::l,n,h,hn=>by
  have Ah:=GV (R.take n);rw[ba,lB hn]at Ah
  have lJ:2*(eS (R.take n)).length<=R'.length:=by
   have h2:=congrArg List.length (PA R n);rw[h.1.pr,ba,Ag]at h2;omega
  have ih:=V' hs hb R' l (2*(eS (R.take n)).length) h.2 lJ;rw[takes,width,GW,ih,aU,Nat.pow_succ];have:n*(2^l.length*2)=(f_ (R.take n)).length*(2^l.length*2)+(eS (R.take n)).length*(2^l.length*2):=by rw[<-Nat.add_mul,Ah]
  rw[this];congr 1;rw[ld 2 (eS _).length,zK,ld 2]
def lenOf (ts:List Nat)(t:Nat):Nat:=(ts.filter λ s=>decide (t<s)).length
theorem V_:∀(ts:List Nat) (t:Nat),ts.Pairwise (λ a b=>b<=a)->width (ts.map λ s=>if t<s then 1 else 0)+2^(ts.length-lenOf ts t)=2^ts.length
 |[],t,_=>by simp[width,lenOf]
 |s::l,t,h=>by
  have ih:=V_ l t (lX.1 h).2;unfold lenOf at ih⊢;by_cases tC:t<s
  ·simp only[List.map_cons,width,eG,if_pos tC,Nat.one_mul,oJ,fF tC,if_true,aU,Nat.pow_succ];rw[show l.length+1-((l.filter λ s=>decide (t<s)).length+1)=l.length-(l.filter λ s=>decide (t<s)).length by omega];omega
  ·have fP:l.filter (λ s=>decide (t<s))=[]:=rS.2 λ x hx=>by
    have:=(lX.1 h).1 x hx;simp;omega
   have ag2:width (l.map λ s=>if t<s then 1 else 0)=0:=by
    have hz:∀(l:List Nat),(∀x∈l,¬t<x)->width (l.map λ s=>if t<s then 1 else 0)=0:=by
     intro l;induction l with
     |nil=>intro _;rfl
     |cons a l ih=>
      intro h;rw[List.map_cons,width,if_neg (h a aj),ih (λ x hx=>h x (by simp[hx]))];simp
    refine hz l λ x hx=>?_;have:=(lX.1 h).1 x hx;omega
   simp only[List.map_cons,width,if_neg tC,Nat.zero_mul,oJ,ct tC,fP,aU,cL,Nat.sub_zero,ag2];simp
def ee (f:Nat->Nat):Nat->Nat
 |0=>0
 |m+1=>ee f m+f m
theorem Le (f g:Nat->Nat)(m:Nat):ee (λ t=>f t+g t) m=ee f m+ee g m:=by
 induction m with
 |zero=>rfl
 |succ m ih=>simp only[ee,ih];omega
theorem GX (c m:Nat):ee (λ _=>c) m=m*c:=by
 induction m with
 |zero=>simp[ee]
 |succ m ih=>simp only[ee,ih,Nat.succ_mul]
theorem Ai {f g:Nat->Nat}{m:Nat}(h:∀t,t<m->f t=g t):ee f m=ee g m:=by
 induction m with
 |zero=>rfl
 |succ m ih=>simp only[ee];rw[ih (λ t ht=>h t aa),h m aa]
theorem ag3 (s m:Nat)(h:s<=m):ee (λ t=>if t<s then 1 else 0) m=s:=by
 induction m with
 |zero=>simp[ee];omega
 |succ m ih=>
  simp only[ee];rcases gx m s with h1|h1
  ·have e:s=m+1:=aa;subst e;rw[if_pos aa,Ai (g:=λ _=>1) (λ t ht=>by rw[if_pos aa]),GX];omega
  ·rw[if_neg aa,ih h1,Nat.add_zero]
theorem Wa (f:Nat->Nat)(c m:Nat):ee (λ t=>f t*c) m=ee f m*c:=by
 induction m with
 |zero=>simp[ee]
 |succ m ih=>simp only[ee,ih,Nat.add_mul]
theorem Wb:∀(ts:List Nat) (m:Nat),(∀s∈ts,s<=m)->ee (λ t=>width (ts.map λ s=>if t<s then 1 else 0)) m=width ts
 |[],m,_=>by simp[width,GX]
 |s::l,m,h=>by
  simp only[List.map_cons,width,eG];rw[Le,Wa,ag3 s m (h s aj),Wb l m (λ x hx=>h x (by simp[hx]))]
theorem ag4 {base:List aT}(hs:tB base)(hb:∀c∈base,c.2=false)(R:List aT)(l:List (List aT))(hr:pD base (R::l))(h2:1<=base.length)(hn:2*base.length-2<=R.length):
 ee (λ t=>2^(l.length+1-lenOf (takes (R::l) (2*base.length-2)) t)) base.length=2^(l.length+1):=by
 obtain⟨ts,tC⟩:∃ts,takes (R::l) (2*base.length-2)=ts:=⟨_,rfl⟩;have hw:=V' hs hb R l (2*base.length-2) hr hn;have hd:=V9 hs hb (R::l) (2*base.length-2) hr;have hle:=PB hs hb (R::l) (2*base.length-2) hr;have hlen:=GW (R::l) (2*base.length-2);rw[tC]at hw hd hle hlen⊢;have h1:=Wb ts base.length hle;rw[hw]at h1
 have h3:ee (λ t=>width (ts.map λ s=>if t<s then 1 else 0)+2^(l.length+1-lenOf ts t)) base.length=base.length*2^(l.length+1):=by
  rw[<-GX];refine Ai λ t _=>?_;have:=V_ ts t hd;rw[hlen,aU]at this;exact this
 rw[Le,h1]at h3
 have e:base.length*2^(l.length+1)=(2*base.length-2)*2^l.length+2^(l.length+1):=by
  have h4:2*base.length-2+2=2*base.length:=aa;have h5:base.length*2^(l.length+1)=(2*base.length)*2^l.length:=by rw[Nat.pow_succ,ld (2^l.length) 2,<-zK,ld base.length 2]
  have h6:2*base.length*2^l.length=(2*base.length-2)*2^l.length+2*2^l.length:=by rw[<-Nat.add_mul,h4]
  rw[h5,h6,Nat.pow_succ,ld 2 (2^l.length)]
 rw[e]at h3;omega
theorem Wc {base:List aT}:∀(R:List aT) (l:List (List aT)),pD base (R::l)->2*base.length<=R.length+(base.length+2^l.length-1)/2^l.length
 |R,[],h=>by
  rw[show R=base from h];simp;omega
 |R,R'::l,h=>by
  have ih:=Wc R' l h.2;have hR:=GV R;rw[h.1.sg,h.1.pr,Ag]at hR;rw[aU];obtain⟨q,hq⟩:∃q,2^l.length=q:=⟨_,rfl⟩;have lI:0<q:=by rw[<-hq];exact Nat.pow_pos aa
  rw[hq]at ih;rw[Nat.pow_succ,hq];obtain⟨d,hd⟩:∃d,(base.length+q-1)/q=d:=⟨_,rfl⟩;rw[hd]at ih
  have e:(base.length+q*2-1)/(q*2)=(d+1)/2:=by
   rw[<-Eu]
   have:(base.length+q*2-1)/q=d+1:=by
    rw[<-hd,show base.length+q*2-1=(base.length+q-1)+q by omega,Nat.add_div_right _ lI]
   rw[this]
  rw[e];omega
theorem ag5 {base:List aT}(R:List aT)(l:List (List aT))(hr:pD base (R::l))(hm:base.length<=2^(l.length+1)):2*base.length-2<=R.length:=by
 have h:=Wc R l hr;obtain⟨q,hq⟩:∃q,2^l.length=q:=⟨_,rfl⟩;have lI:0<q:=by rw[<-hq];exact Nat.pow_pos aa
 rw[Nat.pow_succ,hq]at hm;rw[hq]at h
 have:(base.length+q-1)/q<=2:=by
  apply Nat.le_of_lt_succ;rw[Nat.div_lt_iff_lt_mul lI];omega
 omega
def aR (ls:List Nat)(n:Nat):Nat:=if n=0 then 0 else(ls.filter λ x=>decide (x=n)).length
def ko (c:Nat->Nat):Nat->Nat
 |0=>0
 |n+1=>2*(ko c n+c n)
def nI (c:Nat->Nat)(n:Nat):Nat:=ko c n+c n
def gK (c:Nat->Nat):Nat->Int
 |0=>1
 |n+1=>2*gK c n-c (n+1)
theorem GY (c:Nat->Nat)(h0:c 0=0):∀n,gK c n=((2^n:Nat):Int)-(nI c n:Int)
 |0=>by simp[gK,nI,ko,h0]
 |n+1=>by
  rw[gK,GY c h0 n];unfold nI;rw[ko,Nat.pow_succ];omega
theorem Wd (c:Nat->Nat):∀(k n:Nat),gK c n<0->gK c (n+k)<0
 |0,_,h=>h
 |k+1,n,h=>by
  have:=Wd c k n h;rw[<-rQ,gK];omega
theorem We {c:Nat->Nat}{n m:Nat}(h:0<=gK c m)(at4:n<=m):0<=gK c n:=by
 rcases Int.lt_or_le (gK c n) 0 with h1|h1
 ·have:=Wd c (m-n) n h1;rw[show n+(m-n)=m by omega]at this;omega
 ·exact h1
theorem PD (c:Nat->Nat):∀(k j:Nat),2^(k+1)*nI c j<=ko c (j+1+k)
 |0,j=>by
  rw[Nat.add_zero,ko];unfold nI;simp
 |k+1,j=>by
  have ih:=PD c k j;rw[<-rQ,ko,Nat.pow_succ,ld (2^(k+1)) 2,zK];omega
def msb (v:Nat):Nat->List Bool
 |0=>[]
 |n+1=>decide (v/2^n%2=1)::msb v n
def ca (b:Bool):Nat:=if b then 1 else 0
theorem wU (v n:Nat):(msb v n).length=n:=by
 induction n with
 |zero=>rfl
 |succ n ih=>rw[msb,aU,ih]
def yz (ls:List Nat)(s:Nat):Nat:=((ls.take s).filter λ x=>decide (x=ls.getD s 0)).length
def iU (ls:List Nat)(s:Nat):Nat:=ko (aR ls) (ls.getD s 0)+yz ls s
def CT (ls:List Nat)(n:Nat):List Nat:=(List.range ls.length).filter λ s=>decide (ls.getD s 0=n)
def ez (ls:List Nat):Nat->List Nat
 |0=>[]
 |n+1=>ez ls n++CT ls (n+1)
def nJ (c:Nat->Nat)(syms:List Nat):Nat->Nat->Nat->Nat->Nat->List Bool->Option (Nat×List Bool)
 |0,_,_,_,_,_=>none
 |_+1,_,_,_,_,[]=>none
 |r+1,n,code,fst,at_,b::bs=>if code+ca b<fst+c n then some (syms.getD (at_+(code+ca b-fst)) 0,bs)else nJ c syms r (n+1) (2*(code+ca b)) (2*(fst+c n)) (at_+c n) bs
def ll (c:Nat->Nat):Nat->Nat
 |0=>0
 |n+1=>ll c n+c (n+1)
theorem PE (ls:List Nat)(n:Nat):∀(m:Nat),m<=ls.length->((List.range m).filter λ s=>decide (ls.getD s 0=n)).length=((ls.take m).filter λ x=>decide (x=n)).length
 |0,_=>by simp
 |m+1,h=>by
  have ih:=PE ls n m aa
  have e:ls.take (m+1)=ls.take m++[ls.getD m 0]:=by
   rw[eu,a_,aZ aa];rfl
  rw[List.range_succ,kI,ag,e,kI,ag,ih];congr 1
  cases hq:decide (ls.getD m 0=n)<;>simp only[oJ,Cr,hq]<;>rfl
theorem Wf (ls:List Nat)(n:Nat)(hn:0<n):(CT ls n).length=aR ls n:=by
 unfold CT aR;rw[if_neg aa,PE ls n ls.length (ai _),zL]
theorem Wg (ls:List Nat)(s:Nat)(hs:s<ls.length):(CT ls (ls.getD s 0))[yz ls s]? =some s:=by
 unfold CT yz;rw[<-PE ls _ s aa]
 have e:List.range ls.length=List.range s++s::(List.range (ls.length-s-1)).map (s+1+·):=by
  have e1:ls.length=s+((ls.length-s-1)+1):=aa;conv=>lhs;rw[e1,List.range_add]
  congr 1;rw[List.range_succ_eq_map,List.map_cons,yi];congr 1;apply Ct;intro a _;simp only[Function.comp];omega
 rw[e,kI,lf (ai _),gy,oJ];simp
theorem ET (ls:List Nat):∀n,(ez ls n).length=ll (aR ls) n
 |0=>rfl
 |n+1=>by rw[ez,ag,ET ls n,Wf ls (n+1) aa,ll]
theorem ag6 (ls:List Nat)(n k:Nat)(i:Nat)(x:Nat)(h:(ez ls n)[i]? =some x):(ez ls (n+k))[i]? =some x:=by
 induction k with
 |zero=>exact h
 |succ k ih=>
  rw[<-rQ,ez,ux (fX.1 ih).1];exact ih
theorem PF (ls:List Nat)(s:Nat)(hs:s<ls.length)(h1:0<ls.getD s 0):yz ls s<aR ls (ls.getD s 0):=by
 rw[<-Wf ls _ h1];exact(fX.1 (Wg ls s hs)).1
theorem ag7 (ls:List Nat)(s M:Nat)(hs:s<ls.length)(h1:0<ls.getD s 0)(hM:ls.getD s 0<=M):(ez ls M)[ll (aR ls) (ls.getD s 0-1)+yz ls s]? =some s:=by
 obtain⟨n,hn⟩:∃n,ls.getD s 0=n+1:=⟨ls.getD s 0-1,aa⟩;have hi:=Wg ls s hs
 have:(ez ls (n+1))[ll (aR ls) n+yz ls s]? =some s:=by
  rw[ez,lf (by rw[ET];omega),ET,zM,<-hn];exact hi
 have h2:=ag6 ls (n+1) (M-(n+1)) _ _ this;rw[show n+1+(M-(n+1))=M by omega]at h2;rw[hn];exact h2
theorem half (v k:Nat):2*(v/2^(k+1))+ca (decide (v/2^k%2=1))=v/2^k:=by
 rw[Nat.pow_succ,<-Eu];unfold ca;have:=Nat.div_add_mod (v/2^k) 2;by_cases h:v/2^k%2=1
 ·simp[h];omega
 ·simp[h];omega
theorem Wh (ls:List Nat)(s M:Nat)(hs:s<ls.length)(h1:0<ls.getD s 0)(hM:ls.getD s 0<=M)(tD:0<=gK (aR ls) (ls.getD s 0))(rest:List Bool):
 ∀(k j:Nat),j+k+1=ls.getD s 0->nJ (aR ls) (ez ls M) (M-j) (j+1) (2*(iU ls s/2^(k+1))) (ko (aR ls) (j+1)) (ll (aR ls) j) (msb (iU ls s) (k+1)++rest)=some (s,rest)
 |0,j,hj=>by
  obtain⟨r,hr⟩:∃r,M-j=r+1:=⟨M-j-1,aa⟩;have hh:=half (iU ls s) 0;rw[Nat.pow_zero,Nat.div_one]at hh;rw[hr,msb,msb,gU,List.nil_append,nJ,Nat.pow_zero,Nat.div_one,hh];have PG:=PF ls s hs h1;have Wi:iU ls s=ko (aR ls) (j+1)+yz ls s:=by unfold iU;rw[<-hj]
  rw[<-hj]at PG;have PG:yz ls s<aR ls (j+1):=PG;rw[if_pos (by rw[Wi];omega),Wi,zM];have hg:=ag7 ls s M hs h1 hM;rw[<-hj]at hg;simp only[Nat.add_zero,qh]at hg;rw[a_,hg];rfl
 |k+1,j,hj=>by
  obtain⟨r,hr⟩:∃r,M-j=r+1:=⟨M-j-1,aa⟩;have hh:=half (iU ls s) (k+1);rw[hr,msb,gU,nJ,hh]
  have lk:nI (aR ls) (j+1)<=iU ls s/2^(k+1):=by
   rw[Nat.le_div_iff_mul_le (Nat.pow_pos aa),ld];have h2:=PD (aR ls) k (j+1);have h3:j+1+1+k=ls.getD s 0:=aa;rw[h3]at h2;unfold iU;omega
  unfold nI at lk;rw[if_neg aa];have ih:=Wh ls s M hs h1 hM tD rest k (j+1) aa;have e1:M-(j+1)=r:=aa;rw[e1]at ih;exact ih
theorem ag8 (ls:List Nat)(s M:Nat)(hs:s<ls.length)(h1:0<ls.getD s 0)(hM:ls.getD s 0<=M)(tD:0<=gK (aR ls) (ls.getD s 0))(rest:List Bool):
 nJ (aR ls) (ez ls M) M 1 0 0 0 (msb (iU ls s) (ls.getD s 0)++rest)=some (s,rest):=by
 have h:=Wh ls s M hs h1 hM tD rest (ls.getD s 0-1) 0 aa
 have ao:iU ls s<2^(ls.getD s 0):=by
  have h2:=GY (aR ls) (by simp[aR]) (ls.getD s 0);have h3:=PF ls s hs h1;unfold nI at h2;unfold iU;omega
 rw[show ls.getD s 0-1+1=ls.getD s 0 by omega,Nat.div_eq_of_lt ao]at h;simpa[ko,aR,ll]using h
theorem Wj (ls:List Nat)(s M:Nat)(hM:ls.getD s 0<=M):
 ∀(k j i:Nat),j+k+1=ls.getD s 0->i<=k->nJ (aR ls) (ez ls M) (M-j) (j+1) (2*(iU ls s/2^(k+1))) (ko (aR ls) (j+1)) (ll (aR ls) j) ((msb (iU ls s) (k+1)).take i)=none
 |k,j,0,hj,_=>by
  obtain⟨r,hr⟩:∃r,M-j=r+1:=⟨M-j-1,aa⟩;rw[hr,mM,nJ]
 |0,j,i+1,_,hi=>by omega
 |k+1,j,i+1,hj,hi=>by
  obtain⟨r,hr⟩:∃r,M-j=r+1:=⟨M-j-1,aa⟩;have hh:=half (iU ls s) (k+1);rw[hr,msb,uu,nJ,hh]
  have lk:nI (aR ls) (j+1)<=iU ls s/2^(k+1):=by
   rw[Nat.le_div_iff_mul_le (Nat.pow_pos aa),ld];have h2:=PD (aR ls) k (j+1);have h3:j+1+1+k=ls.getD s 0:=aa;rw[h3]at h2;unfold iU;omega
  unfold nI at lk;rw[if_neg aa];have ih:=Wj ls s M hM k (j+1) i aa aa;have e1:M-(j+1)=r:=aa;rw[e1]at ih;exact ih
theorem ag9 (ls:List Nat)(s M i:Nat)(hs:s<ls.length)(h1:0<ls.getD s 0)(hM:ls.getD s 0<=M)(tD:0<=gK (aR ls) (ls.getD s 0))(hi:i<ls.getD s 0):
 nJ (aR ls) (ez ls M) M 1 0 0 0 ((msb (iU ls s) (ls.getD s 0)).take i)=none:=by
 have h:=Wj ls s M hM (ls.getD s 0-1) 0 i aa aa
 have ao:iU ls s<2^(ls.getD s 0):=by
  have h2:=GY (aR ls) (by simp[aR]) (ls.getD s 0);have h3:=PF ls s hs h1;unfold nI at h2;unfold iU;omega
 rw[show ls.getD s 0-1+1=ls.getD s 0 by omega,Nat.div_eq_of_lt ao]at h;simpa[ko,aR,ll]using h
def pE (ls:List Nat):Nat:=(ls.map λ n=>if n=0 then 0 else 2^(15-n)).sum
theorem Wk (ls:List Nat):∀(M:Nat),(∀x∈ls,x<=15)->M<=15->nI (aR ls) M*2^(15-M)=(ls.map λ n=>if n=0∨M<n then 0 else 2^(15-n)).sum
 |0,_,_=>by
  have:∀l:List Nat,(l.map λ n=>if n=0∨0<n then 0 else 2^(15-n)).sum=0:=by
   intro l;induction l with
   |nil=>rfl
   |cons x l ih=>
    rw[List.map_cons,List.sum_cons,ih,if_pos aa]
  rw[this];simp[nI,ko,aR]
 |M+1,h,hM=>by
  have ih:=Wk ls M h aa
  have e:nI (aR ls) (M+1)*2^(15-(M+1))=nI (aR ls) M*2^(15-M)+aR ls (M+1)*2^(15-(M+1)):=by
   unfold nI;rw[ko,Nat.add_mul,show 15-M=(15-(M+1))+1 by omega,Nat.pow_succ,ld 2 (ko _ _+_),zK,ld 2]
  rw[e,ih]
  have:∀l:List Nat,(l.map λ n=>if n=0∨M<n then 0 else 2^(15-n)).sum+(l.filter λ x=>decide (x=M+1)).length*2^(15-(M+1))=(l.map λ n=>if n=0∨M+1<n then 0 else 2^(15-n)).sum:=by
   intro l;induction l with
   |nil=>simp
   |cons x l ih=>
    rw[List.map_cons,List.sum_cons,List.map_cons,List.sum_cons,<-ih];by_cases hx:x=M+1
    ·subst hx;rw[if_pos aa,if_neg aa,Gz aj,aU,Nat.succ_mul];omega
    ·rw[List.filter_cons_of_neg (by simpa using hx)];by_cases ff:x=0∨M<x
     ·rw[if_pos ff,if_pos aa];omega
     ·rw[if_neg ff,if_neg aa];omega
  rw[<-this ls];congr 2
theorem PH (ls:List Nat)(h:∀x∈ls,x<=15):gK (aR ls) 15=32768-(pE ls:Int):=by
 rw[GY (aR ls) (by simp[aR])];have e:=Wk ls 15 h (ai _)
 have e2:(ls.map λ n=>if n=0∨15<n then 0 else 2^(15-n)).sum=pE ls:=by
  unfold pE;congr 1;apply Ct;intro x hx;have:=h x hx;by_cases iF:x=0
  ·simp[iF]
  ·rw[if_neg aa,if_neg iF]
 rw[e2]at e;simp only[gy,Nat.pow_zero,yh]at e;rw[e];omega
def ef:List Bool->Nat
 |[]=>0
 |b::l=>(if b then 1 else 0)+2*ef l
def aH (v:Nat):Nat->List Bool
 |0=>[]
 |n+1=>decide (v%2=1)::aH (v/2) n
theorem fi:∀(v n:Nat),(aH v n).length=n
 |_,0=>rfl
 |v,n+1=>by rw[aH,aU,fi (v/2) n]
theorem Lf:∀(v n:Nat),ef (aH v n)=v%2^n
 |v,0=>by rw[aH,ef];omega
 |v,n+1=>by
  rw[aH,ef,Lf (v/2) n,Nat.pow_succ,ld (2^n) 2,Nat.mod_mul];have:v%2=0∨v%2=1:=aa;rcases this with h|h<;>simp[h]
theorem EU:∀(l:List Bool),ef l<2^l.length
 |[]=>by simp[ef]
 |b::l=>by
  have:=EU l;rw[ef,aU,Nat.pow_succ];split<;>omega
theorem Lg:∀(l:List Bool),aH (ef l) l.length=l
 |[]=>rfl
 |b::l=>by
  have ih:=Lg l;rw[aU,aH,ef]
  cases b
  ·simp only[rP,if_false,jd];rw[show 2*ef l/2=ef l by omega,ih];simp
  ·simp only[if_true];rw[show(1+2*ef l)/2=ef l by omega,ih];simp
theorem Lh:∀(a b:List Bool),ef (a++b)=ef a+2^a.length*ef b
 |[],b=>by simp[ef]
 |x::a,b=>by
  rw[gU,ef,ef,Lh a b,aU,Nat.pow_succ,Nat.mul_add,ld (2^a.length) 2,zK];omega
theorem aha (n:Nat):ef (List.replicate n false)=0:=by
 induction n with
 |zero=>rfl
 |succ n ih=>rw[qg,ef,ih];rfl
def fR (l:List Bool):List Nat:=match l with
 |[]=>[]
 |b::l=>ef ((b::l).take 8)::fR ((b::l).drop 8)
 termination_by l.length
 decreasing_by simp;omega
def fS:List Nat->List Bool
 |[]=>[]
 |x::l=>aH x 8++fS l
theorem uG:∀(l:List Nat),(fS l).length=8*l.length
 |[]=>rfl
 |x::l=>by rw[fS,ag,fi,uG l,aU];omega
theorem CU:∀(a b:List Nat),fS (a++b)=fS a++fS b
 |[],b=>rfl
 |x::a,b=>by rw[gU,fS,fS,CU a b,aN]
def jR (n:Nat):Nat:=(8-n%8)%8
theorem ahb (l:List Bool)(n:Nat)(h:l.length<=n):aH (ef l) n=l++List.replicate (n-l.length) false:=by
 have e:ef l=ef (l++List.replicate (n-l.length) false):=by rw[Lh,aha];omega
 rw[e];have:=Lg (l++List.replicate (n-l.length) false);rw[ag,cA,show l.length+(n-l.length)=n by omega]at this;exact this
theorem tE:∀(l:List Bool),fS (fR l)=l++List.replicate (jR l.length) false
 |[]=>by rw[fR];rfl
 |b::l=>by
  rw[fR,fS,tE ((b::l).drop 8)];by_cases h:8<=(b::l).length
  ·have ht:((b::l).take 8).length=8:=by rw[ba,lB h]
   have e:=Lg ((b::l).take 8);rw[ht]at e;rw[e,<-aN,gI];congr 2;rw[cw];unfold jR;rw[show((b::l).length-8)%8=(b::l).length%8 by omega]
  ·have ht:(b::l).take 8=b::l:=bQ aa;have hd:(b::l).drop 8=[]:=nD aa;rw[ht,hd,ahb (b::l) 8 aa];simp only[cL,List.nil_append];rw[show jR 0=0 from rfl,yj,bV];congr 2;have:(b::l).length≠0:=aj;unfold jR;omega
 termination_by l=>l.length
 decreasing_by simp;omega
theorem Li:∀(l:List Bool),(fR l).length=(l.length+7)/8:=λ l=>by
 have h:=congrArg List.length (tE l);rw[uG,ag,cA]at h;unfold jR at h;omega
theorem EV:∀(a b:List Nat),(∀x∈a,x<256)->(∀x∈b,x<256)->fS a=fS b->a=b
 |[],[],_,_,_=>rfl
 |[],y::b,_,_,h=>by
  have:=congrArg List.length h;rw[uG,uG]at this;simp at this
 |x::a,[],_,_,h=>by
  have:=congrArg List.length h;rw[uG,uG]at this;simp at this
 |x::a,y::b,h1,h2,h=>by
  rw[fS,fS]at h;have hl:(aH x 8).length=(aH y 8).length:=by rw[fi,fi]
  obtain⟨e1,e2⟩:=List.append_inj h hl;have e3:=congrArg ef e1;rw[Lf,Lf,Cm (h1 x aj),Cm (h2 y aj)]at e3;rw[e3,EV a b (λ z hz=>h1 z (by simp[hz])) (λ z hz=>h2 z (by simp[hz])) e2]
theorem uH:∀(l:List Bool),∀x∈fR l,x<256
 |[],x,h=>by rw[fR]at h;cases h
 |b::l,x,h=>by
  rw[fR]at h;rcases eW.1 h with e|h
  ·rw[e];have:=EU ((b::l).take 8);have hl:((b::l).take 8).length<=8:=by rw[ba];omega
   exact ur this (by
    have:=px (show 0<2 by omega) hl
    simpa using this)
  ·exact uH _ x h
 termination_by l=>l.length
 decreasing_by simp;omega
theorem ahc (l:List Bool)(b:Bool)(h:l.length%8=0):fR (l++[b])=fR l++[if b then 1 else 0]:=by
 refine EV _ _ (uH _) (λ x hx=>?_) ?_
 ·rcases fE.1 hx with hx|hx
  ·exact uH _ x hx
  ·rw[pA.1 hx];split<;>omega
 ·rw[tE,CU,tE];have e0:jR l.length=0:=by unfold jR;omega
  have e1:jR (l++[b]).length=7:=by rw[ag];unfold jR;simp;omega
  rw[e0,e1,yj,bV,aN];congr 1
  cases b<;>rfl
theorem Wl (l:List Bool)(m:Nat)(h:m%8=0)(hm:m<=l.length):fR l=fR (l.take m)++fR (l.drop m):=by
 refine EV _ _ (uH _) (λ x hx=>?_) ?_
 ·rcases fE.1 hx with hx|hx
  ·exact uH _ x hx
  ·exact uH _ x hx
 ·have hl:(l.take m).length=m:=by rw[ba,lB hm]
  have e0:jR (l.take m).length=0:=by rw[hl];unfold jR;omega
  have e1:jR (l.drop m).length=jR l.length:=by rw[cw];unfold jR;rw[show(l.length-m)%8=l.length%8 by omega]
  rw[CU,tE,tE,tE,e0,e1,yj,bV,<-aN,gI]
theorem Lj (l:List Bool)(h1:l≠[])(h8:l.length<=8):fR l=[ef l]:=by
 cases l with
 |nil=>exact absurd rfl h1
 |cons b l=>
  rw[fR,bQ h8,nD h8,fR]
theorem ahd (l:List Bool)(b:Bool)(h:l.length%8≠0):
 ∃(A:List Nat) (x:Nat),fR l=A++[x]/\A.length=l.length/8/\x<2^(l.length%8)/\fR (l++[b])=A++[x+(if b then 1 else 0)*2^(l.length%8)]:=by
 obtain⟨m,hm⟩:∃m,l.length/8*8=m:=⟨_,rfl⟩;have wV:m%8=0:=aa;have iG:m<=l.length:=aa;have kM:(l.drop m).length=l.length%8:=by rw[cw];omega
 refine⟨fR (l.take m),ef (l.drop m),?_,?_,?_,?_⟩
 ·rw[<-Lj (l.drop m) (λ e=>by rw[e]at kM;simp at kM;omega) aa,<-Wl l m wV iG]
 ·rw[Li,ba];omega
 ·rw[<-kM];exact EU _
 ·rw[Wl (l++[b]) m wV (by rw[ag];omega),Er iG,zH iG,Lj (l.drop m++[b]) aj (by rw[ag];simp;omega),Lh,kM];congr 2
  cases b<;>simp[ef]
def h_ (x:Nat):List Nat->Nat
 |[]=>0
 |y::l=>if y=x then h_ x l+1 else 0
theorem PI (x:Nat):∀l:List Nat,h_ x l<=l.length
 |[]=>ai _
 |y::l=>by
  have:=PI x l;rw[h_];split<;>simp only[aU]<;>omega
theorem Wm (x:Nat):∀(l:List Nat) (k:Nat),k<=h_ x l->l.take k=List.replicate k x
 |[],k,h=>by
  rw[h_]at h;have:k=0:=aa;subst this;rfl
 |y::l,0,_=>rfl
 |y::l,k+1,h=>by
  rw[h_]at h;by_cases hy:y=x
  ·rw[if_pos hy]at h;rw[uu,Wm x l k aa,hy,qg]
  ·rw[if_neg hy]at h;omega
def runK (x k:Nat):Nat:=if x=0/\10<k then min k 138 else if x=0/\2<k then k else if 3<k then min k 7 else 1
def nK (x k:Nat):List (Nat×Nat×Nat):=if x=0/\10<k then[(18,7,min k 138-11)]else if x=0/\2<k then[(17,3,k-3)]else if 3<k then[(x,0,0),(16,2,min k 7-4)]else[(x,0,0)]
theorem EW (x k:Nat):1<=runK x k:=by unfold runK;split<;>(try split)<;>(try split)<;>omega
theorem PJ (x k:Nat)(h:1<=k):runK x k<=k:=by unfold runK;split<;>(try split)<;>(try split)<;>omega
def eK (l:List Nat):List (Nat×Nat×Nat):=match l with
 |[]=>[]
 |x::l=>nK x (h_ x l+1)++eK ((x::l).drop (runK x (h_ x l+1)))
 termination_by l.length
 decreasing_by
  have:=EW x (h_ x l+1)
  simp only[cw,aU]
  omega
def mS (acc:List Nat)(r:Nat×Nat×Nat):List Nat:=
 if r.1<16 then acc++[r.1]else if r.1=16 then acc++List.replicate (3+r.2.2) (acc.getLast?.getD 0)else if r.1=17 then acc++List.replicate (3+r.2.2) 0 else acc++List.replicate (11+r.2.2) 0
theorem ahe (acc:List Nat)(x k:Nat)(hx:x<16)(hk:1<=k):(nK x k).foldl mS acc=acc++List.replicate (runK x k) x:=by
 unfold nK runK;by_cases h1:x=0/\10<k
 ·rw[if_pos h1,if_pos h1];simp only[kH,zN,mS];rw[if_neg aa,if_neg aa,if_neg aa,show 11+(min k 138-11)=min k 138 by omega,h1.1]
 ·rw[if_neg h1,if_neg h1];by_cases h2:x=0/\2<k
  ·rw[if_pos h2,if_pos h2];simp only[kH,zN,mS];rw[if_neg aa,if_neg aa,if_pos (by trivial),show 3+(k-3)=k by omega,h2.1]
  ·rw[if_neg h2,if_neg h2];by_cases h3:3<k
   ·rw[if_pos h3,if_pos h3];simp only[kH,zN,mS];rw[if_pos hx,if_neg aa,if_pos (by trivial),List.getLast?_append];simp only[List.getLast?_singleton,Option.some_or,ye,aN];congr 1;rw[show min k 7=3+(min k 7-4)+1 by omega,qg];simp
   ·rw[if_neg h3,if_neg h3];simp only[kH,zN,mS];rw[if_pos hx];rfl
theorem Wn:∀(l acc:List Nat),(∀x∈l,x<16)->(eK l).foldl mS acc=acc++l
 |[],acc,_=>by rw[eK];simp
 |x::l,acc,h=>by
  rw[eK,rT,ahe acc x _ (h x aj) aa,Wn _ _ (λ y hy=>h y (Cu hy)),aN];congr 1;have hk:=PJ x (h_ x l+1) aa;have ht:(x::l).take (runK x (h_ x l+1))=List.replicate (runK x (h_ x l+1)) x:=Wm x (x::l) _ (by rw[h_,if_pos rfl];exact hk);rw[<-ht,gI]
 termination_by l=>l.length
 decreasing_by
  have:=EW x (h_ x l+1)
  simp only[cw,aU]
  omega
theorem Lk:∀(l:List Nat),(∀x∈l,x<16)->∀r∈eK l,r.1<19/\r.2.2<2^r.2.1/\(r.1<16->r.2.1=0)/\(r.1=16->r.2.1=2)/\(r.1=17->r.2.1=3)/\(r.1=18->r.2.1=7)
 |[],_,r,hr=>by rw[eK]at hr;cases hr
 |x::l,h,r,hr=>by
  rw[eK]at hr;rcases fE.1 hr with hr|hr
  ·have hx:=h x aj;unfold nK at hr;split at hr
   ·rw[pA.1 hr];exact⟨aa,by simp only[Nat.reducePow];omega,λ h=>by simp only at h⊢<;>omega,λ h=>by simp only at h⊢<;>omega,λ h=>by simp only at h⊢<;>omega,λ h=>by simp only at h⊢<;>omega⟩
   ·split at hr
    ·rw[pA.1 hr];exact⟨aa,by simp only[Nat.reducePow];omega,λ h=>by simp only at h⊢<;>omega,λ h=>by simp only at h⊢<;>omega,λ h=>by simp only at h⊢<;>omega,λ h=>by simp only at h⊢<;>omega⟩
    ·split at hr
     ·rcases eW.1 hr with e|hr
      ·rw[e];exact⟨aa,aj,λ h=>rfl,λ h=>by simp only at h;omega,λ h=>by simp only at h;omega,λ h=>by simp only at h;omega⟩
      ·rw[pA.1 hr];exact⟨aa,by simp only[Nat.reducePow];omega,λ h=>by simp only at h⊢<;>omega,λ h=>by simp only at h⊢<;>omega,λ h=>by simp only at h⊢<;>omega,λ h=>by simp only at h⊢<;>omega⟩
     ·rw[pA.1 hr];exact⟨aa,by simp only[Nat.reducePow];omega,λ h=>by simp only at h⊢<;>omega,λ h=>by simp only at h⊢<;>omega,λ h=>by simp only at h⊢<;>omega,λ h=>by simp only at h⊢<;>omega⟩
  ·exact Lk _ (λ y hy=>h y (Cu hy)) r hr
 termination_by l=>l.length
 decreasing_by
  have:=EW x (h_ x l+1)
  simp only[cw,aU]
  omega
def mf (ss:List Nat)(l:List Nat):List Nat:=ss.foldl (λ l s=>l.set s (l.getD s 0+1)) l
theorem GZ:∀(ss l:List Nat),(mf ss l).length=l.length
 |[],_=>rfl
 |s::ss,l=>by
  show(mf ss (l.set s (l.getD s 0+1))).length=_;rw[GZ ss,iP]
theorem Wo:∀(ss l:List Nat) (s:Nat),ss.Nodup->s<l.length->(mf ss l).getD s 0=l.getD s 0+(if s∈ss then 1 else 0)
 |[],l,s,_,_=>by simp[mf]
 |x::ss,l,s,hn,hs=>by
  have iR:=List.nodup_cons.1 hn;have ih:=Wo ss (l.set x (l.getD x 0+1)) s iR.2 (by rw[iP];exact hs);show(mf ss (l.set x (l.getD x 0+1))).getD s 0=_;rw[ih];by_cases hx:x=s
  ·subst hx;rw[if_neg iR.1,if_pos aj,a_,List.getElem?_set_self hs];rfl
  ·rw[a_,List.getElem?_set_ne hx,<-a_];congr 1;by_cases h:s∈ss
   ·rw[if_pos h,if_pos (by simp[h])]
   ·rw[if_neg h,if_neg (by simp[h];exact λ e=>hx e.symm)]
def sc (n:Nat)(syms ts:List Nat):List Nat:=ts.foldl (λ l k=>mf (syms.take k) l) (List.replicate n 0)
theorem PK (syms:List Nat)(hn:syms.Nodup):∀(ts l:List Nat) (s:Nat),s<l.length->(ts.foldl (λ l k=>mf (syms.take k) l) l).getD s 0=l.getD s 0+(ts.filter λ k=>decide (s∈syms.take k)).length
 |[],l,s,_=>rfl
 |k::ts,l,s,hs=>by
  rw[kH,PK syms hn ts _ s (by rw[GZ];exact hs),Wo _ _ _ (hn.sublist (List.take_sublist _ _)) hs];by_cases h:s∈syms.take k
  ·rw[if_pos h,Gz (by simpa using h),aU];omega
  ·rw[if_neg h,List.filter_cons_of_neg (by simpa using h)];omega
theorem Wp (n:Nat)(syms ts:List Nat):(sc n syms ts).length=n:=by
 unfold sc
 have:∀(ts l:List Nat),(ts.foldl (λ l k=>mf (syms.take k) l) l).length=l.length:=by
  intro ts;induction ts with
  |nil=>intro l;rfl
  |cons k ts ih=>intro l;rw[kH,ih,GZ]
 rw[this,cA]
theorem ahf {syms:List Nat}(hn:syms.Nodup){t k s:Nat}(ht:syms[t]? =some s):s∈syms.take k↔t<k:=by
 have jI:=fX.1 ht;constructor
 ·intro h;obtain⟨i,hi⟩:=zJ.1 h;rw[mL]at hi;split at hi
  ·next oT=>
   have CS:=fX.1 hi;have:i=t:=(List.getElem_inj hn).1 (CS.2.trans jI.2.symm);omega
  ·cases hi
 ·intro h;exact du (i:=t) (by rw[Gy h];exact ht)
theorem PL (n:Nat)(syms ts:List Nat)(hn:syms.Nodup)(t s:Nat)(hs:s<n)(ht:syms[t]? =some s):(sc n syms ts).getD s 0=lenOf ts t:=by
 unfold sc;rw[PK syms hn ts _ s (by rw[cA];exact hs)];have e:(List.replicate n 0).getD s 0=0:=by rw[a_,nE];split<;>rfl
 rw[e,jd];unfold lenOf;congr 1;apply List.filter_congr;intro k _;rw[CD];exact ahf hn ht
theorem Wq (n:Nat)(syms ts:List Nat)(hn:syms.Nodup)(s:Nat)(hs:s<n)(h:s∉syms):(sc n syms ts).getD s 0=0:=by
 unfold sc;rw[PK syms hn ts _ s (by rw[cA];exact hs)];have e:(List.replicate n 0).getD s 0=0:=by rw[a_,nE];split<;>rfl
 rw[e,rS.2]
 ·rfl
 ·intro k _ hk;exact h (s6 (by simpa using hk))
theorem Ll (f:Nat->Nat)(s:Nat):∀n,s<n->ee (λ t=>if t=s then f t else 0) n=f s
 |0,h=>by omega
 |n+1,h=>by
  rw[ee];by_cases hn:s<n
  ·rw[Ll f s n hn,if_neg aa,Nat.add_zero]
  ·have:n=s:=aa;subst this;rw[if_pos rfl,Ai (g:=λ _=>0) (λ t ht=>if_neg aa),GX];omega
theorem Wr (f:Nat->Nat)(n:Nat):∀(syms:List Nat),syms.Nodup->(∀s∈syms,s<n)->ee (λ t=>if t∈syms then f t else 0) n=(syms.map f).sum
 |[],_,_=>by
  rw[Ai (g:=λ _=>0) (λ t _=>by simp),GX];rfl
 |s::l,hn,hl=>by
  have iR:=List.nodup_cons.1 hn;have ih:=Wr f n l iR.2 (λ x hx=>hl x (by simp[hx]));rw[List.map_cons,List.sum_cons,<-ih,<-Ll f s n (hl s aj),<-Le];refine Ai λ t _=>?_;by_cases h:t=s
  ·subst h;rw[if_pos aj,if_pos rfl,if_neg iR.1];rfl
  ·rw[if_neg h,jd];by_cases h2:t∈l
   ·rw[if_pos (by simp[h2]),if_pos h2]
   ·rw[if_neg (by simp[h,h2]),if_neg h2]
theorem Ws (g:Nat->Nat):∀(l:List Nat),(l.map g).sum=ee (λ t=>g (l.getD t 0)) l.length
 |l=>by
  have:∀n,n<=l.length->((l.take n).map g).sum=ee (λ t=>g (l.getD t 0)) n:=by
   intro n;induction n with
   |zero=>intro _;simp[ee]
   |succ n ih=>
    intro h;rw[eu,ka,List.sum_append,ih aa,ee,a_,aZ aa];simp
  have h:=this l.length (ai _);rwa [zL]at h
theorem ahg (f:Nat->Nat):∀(syms:List Nat),(syms.map f).sum=ee (λ t=>f (syms.getD t 0)) syms.length:=λ syms=>Ws f syms
theorem ahh (m:Nat)(f:Nat->Nat)(L:Nat)(hL:L<=15)(hf:∀t,t<m->f t<=L)(h:ee (λ t=>2^(L-f t)) m=2^L):ee (λ t=>2^(15-f t)) m=32768:=by
 have e:ee (λ t=>2^(15-f t)) m=ee (λ t=>2^(L-f t)*2^(15-L)) m:=Ai λ t ht=>by
  rw[<-Nat.pow_add];congr 1;have:=hf t ht;omega
 rw[e,Wa,h,<-Nat.pow_add,show L+(15-L)=15 by omega]
theorem Wt (ts:List Nat)(t:Nat):lenOf ts t<=ts.length:=List.length_filter_le _ _
theorem ahi {base:List aT}(hs:tB base)(hb:∀c∈base,c.2=false)(R:List aT)(l:List (List aT))(hr:pD base (R::l))(h2:2<=base.length)(hn:2*base.length-2<=R.length)(CV:l.length+1<=15)
 (n:Nat)(syms:List Nat)(uD:syms.Nodup)(jS:∀s∈syms,s<n)(hlen:syms.length=base.length)(out:List Nat)(pF:sc n syms (takes (R::l) (2*base.length-2))=out):
 out.length=n/\(∀s,s<n->(s∈syms->1<=out.getD s 0/\out.getD s 0<=l.length+1)/\(s∉syms->out.getD s 0=0))/\pE out=32768:=by
 obtain⟨ts,tC⟩:∃ts,takes (R::l) (2*base.length-2)=ts:=⟨_,rfl⟩;have hk:=ag4 hs hb R l hr aa hn;have eL:=GW (R::l) (2*base.length-2);rw[tC]at hk eL pF;subst pF
 have uF:∀t,t<base.length->1<=lenOf ts t:=λ t ht=>by
  rcases wG (lenOf ts t)with h|h
  ·exfalso
   obtain⟨u,hu,at5⟩:∃u,u<base.length/\u≠t:=by
    by_cases h0:t=0
    ·exact⟨1,aa,aa⟩
    ·exact⟨0,aa,aa⟩
   have lk:ee (λ x=>(if x=t then 2^(l.length+1)else 0)+(if x=u then 1 else 0)) base.length<=ee (λ t=>2^(l.length+1-lenOf ts t)) base.length:=by
    have:∀m,ee (λ x=>(if x=t then 2^(l.length+1)else 0)+(if x=u then 1 else 0)) m<=ee (λ t=>2^(l.length+1-lenOf ts t)) m:=by
     intro m;induction m with
     |zero=>exact ai _
     |succ m ih=>
      simp only[ee];have hp:1<=2^(l.length+1-lenOf ts m):=Nat.pow_pos aa
      have:(if m=t then 2^(l.length+1)else 0)+(if m=u then 1 else 0)<=2^(l.length+1-lenOf ts m):=by
       by_cases h1:m=t
       ·rw[if_pos h1,if_neg aa,h1,h];simp
       ·rw[if_neg h1];split<;>omega
      omega
    exact this _
   rw[Le,Ll (λ _=>2^(l.length+1)) t _ ht,Ll (λ _=>1) u _ hu,hk]at lk;omega
  ·exact h
 refine⟨Wp n syms ts,λ s jJ=>⟨λ hm=>?_,λ hm=>Wq n syms ts uD s jJ hm⟩,?_⟩
 ·obtain⟨t,ht⟩:=zJ.1 hm;have ahj:=(fX.1 ht).1;rw[PL n syms ts uD t s jJ ht];have h3:=Wt ts t;rw[eL,aU]at h3;exact⟨uF t aa,h3⟩
 ·unfold pE;rw[Ws,Wp]
  have e1:ee (λ s=>if(sc n syms ts).getD s 0=0 then 0 else 2^(15-(sc n syms ts).getD s 0)) n=ee (λ s=>if s∈syms then 2^(15-(sc n syms ts).getD s 0)else 0) n:=Ai λ s jJ=>by
   by_cases hm:s∈syms
   ·rw[if_pos hm];obtain⟨t,ht⟩:=zJ.1 hm;have ahj:=(fX.1 ht).1;have h3:=uF t aa;rw[PL n syms ts uD t s jJ ht,if_neg aa]
   ·rw[if_neg hm,Wq n syms ts uD s jJ hm,if_pos rfl]
  rw[e1,Wr _ n syms uD jS,ahg]
  have e2:ee (λ t=>2^(15-(sc n syms ts).getD (syms.getD t 0) 0)) syms.length=ee (λ t=>2^(15-lenOf ts t)) syms.length:=Ai λ t ht=>by
   have hg:syms[t]? =some (syms.getD t 0):=by rw[a_,aZ ht];rfl
   rw[PL n syms ts uD t (syms.getD t 0) (jS _ (du hg)) hg]
  rw[e2,hlen];exact ahh base.length (λ t=>lenOf ts t) (l.length+1) CV (λ t _=>by have:=Wt ts t;rw[eL,aU]at this;exact this) hk
def ji (n b:Nat):Nat->Nat
 |0=>0
 |f+1=>if n<b then 0 else ji (n/2) b f+1
theorem PM (b:Nat)(hb:2<=b):∀(f n:Nat),n<b*2^f->n/2^ji n b f<b/\(b<=n->b<=2*(n/2^ji n b f)+1/\1<=ji n b f)
 |0,n,h=>by
  simp at h;simp only[ji,Nat.pow_zero,Nat.div_one];exact⟨h,λ h2=>by omega⟩
 |f+1,n,h=>by
  rw[ji];by_cases h1:n<b
  ·rw[if_pos h1,Nat.pow_zero,Nat.div_one];exact⟨h1,λ h2=>by omega⟩
  ·rw[if_neg h1]
   have hh:n/2<b*2^f:=by
    rw[Nat.pow_succ,<-zK]at h;omega
   have ih:=PM b hb f (n/2) hh
   have e:n/2^(ji (n/2) b f+1)=n/2/2^ji (n/2) b f:=by
    rw[Nat.pow_succ,ld,<-Eu]
   rw[e];refine⟨ih.1,λ _=>⟨?_,aa⟩⟩;by_cases h2:b<=n/2
   ·exact(ih.2 h2).1
   ·have:ji (n/2) b f=0:=by
     cases f with
     |zero=>rfl
     |succ f=>rw[ji,if_pos aa]
    rw[this,Nat.pow_zero,Nat.div_one];omega
def dD (n:Nat):Nat×Nat×Nat:=
 if n=258 then(285,0,0)else if n<11 then(254+n,0,0)else
 (257+4*ji (n-3) 8 62+(n-3)/2^ji (n-3) 8 62,ji (n-3) 8 62,(n-3)%2^ji (n-3) 8 62)
def dJ (n:Nat):Nat×Nat×Nat:=
 if n<5 then(n-1,0,0)else
 (2*ji (n-1) 4 62+(n-1)/2^ji (n-1) 4 62,ji (n-1) 4 62,(n-1)%2^ji (n-1) 4 62)
def CW (s:Nat):Nat×Nat:=if s<265 then(0,s-254)else if s=285 then(0,258)else((s-261)/4,3+(4+(s-265)%4)*2^((s-261)/4))
def Aj (s:Nat):Nat×Nat:=if s<4 then(0,s+1)else((s-2)/2,1+(2+s%2)*2^((s-2)/2))
theorem G0 {n b f e:Nat}(hb:2<=b)(he:n<b*2^e):∀(f:Nat),ji n b f<=e:=by
 intro f;induction f generalizing n e with
 |zero=>exact gV _
 |succ f ih=>
  rw[ji];by_cases h:n<b
  ·rw[if_pos h];exact gV _
  ·rw[if_neg h]
   cases e with
   |zero=>simp at he;omega
   |succ e=>
    have:n/2<b*2^e:=by rw[Nat.pow_succ,<-zK]at he;omega
    have:=ih this;omega
theorem EX (n:Nat)(h3:3<=n)(h:n<=258):257<=(dD n).1/\(dD n).1<=285/\(CW (dD n).1).1=(dD n).2.1/\(CW (dD n).1).2+(dD n).2.2=n/\(dD n).2.2<2^(dD n).2.1/\(dD n).2.1<=5:=by
 unfold dD;by_cases h1:n=258
 ·subst h1;decide
 ·rw[if_neg h1];by_cases h2:n<11
  ·rw[if_pos h2];unfold CW;simp only;rw[if_pos aa];exact⟨aa,aa,rfl,aj,aj,aa⟩
  ·rw[if_neg h2];obtain⟨e,he⟩:∃e,ji (n-3) 8 62=e:=⟨_,rfl⟩;have hs:=PM 8 aa 62 (n-3) aa;have hle:=G0 (n:=n-3) (b:=8) (f:=62) (e:=5) aa aa 62;rw[he]at hs hle⊢;obtain⟨q,hq⟩:∃q,(n-3)/2^e=q:=⟨_,rfl⟩;obtain⟨r,hr⟩:∃r,(n-3)%2^e=r:=⟨_,rfl⟩;have yA:=Nat.div_add_mod (n-3) (2^e);have mT:r<2^e:=by rw[<-hr];exact rR _ (Nat.pow_pos aa)
   rw[hq]at hs yA⊢;rw[hr]at yA⊢;have h4:=hs.2 aa;simp only;have at6:=hs.1;have ahk:4<=q:=aa;have ahl:257+4*e+q<=284:=aa;unfold CW;rw[if_neg aa,if_neg aa];have e1:(257+4*e+q-261)/4=e:=aa;have e2:4+(257+4*e+q-265)%4=q:=aa;rw[e1,e2];refine⟨aa,aa,rfl,?_,mT,hle⟩;rw[ld]at yA;simp only;omega
theorem G1 (n:Nat)(h1:1<=n)(h:n<=32768):(dJ n).1<30/\(Aj (dJ n).1).1=(dJ n).2.1/\(Aj (dJ n).1).2+(dJ n).2.2=n/\(dJ n).2.2<2^(dJ n).2.1/\(dJ n).2.1<=13:=by
 unfold dJ;by_cases h2:n<5
 ·rw[if_pos h2];unfold Aj;simp only;rw[if_pos aa];exact⟨aa,rfl,by simp;omega,aj,aa⟩
 ·rw[if_neg h2];obtain⟨e,he⟩:∃e,ji (n-1) 4 62=e:=⟨_,rfl⟩;have hs:=PM 4 aa 62 (n-1) aa;have hle:=G0 (n:=n-1) (b:=4) (f:=62) (e:=13) aa aa 62;rw[he]at hs hle⊢;obtain⟨q,hq⟩:∃q,(n-1)/2^e=q:=⟨_,rfl⟩;obtain⟨r,hr⟩:∃r,(n-1)%2^e=r:=⟨_,rfl⟩;have yA:=Nat.div_add_mod (n-1) (2^e);have mT:r<2^e:=by rw[<-hr];exact rR _ (Nat.pow_pos aa)
  rw[hq]at hs yA⊢;rw[hr]at yA⊢;have h4:=hs.2 aa;have ahk:=hs.1;have tF:2<=q:=aa;simp only;unfold Aj;rw[if_neg aa];have e1:(2*e+q-2)/2=e:=aa;have e2:2+(2*e+q)%2=q:=aa;rw[e1,e2];refine⟨aa,rfl,?_,mT,hle⟩;rw[ld]at yA;simp only;omega
def nL (d:Nat):Nat->List Nat->List Nat
 |0,out=>out
 |n+1,out=>nL d n (out++[out.getD (out.length-d) 0])
theorem Wu (d:Nat):∀(n:Nat) (out:List Nat),(nL d n out).length=out.length+n
 |0,out=>rfl
 |n+1,out=>by rw[nL,Wu d n];simp;omega
theorem Wv (s:List Nat)(d:Nat)(hd:1<=d):∀(n at_:Nat),d<=at_->at_+n<=s.length->(∀i,i<n->s.getD (at_-d+i) 0=s.getD (at_+i) 0)->nL d n (s.take at_)=s.take (at_+n)
 |0,at_,_,_,_=>rfl
 |n+1,at_,h1,h2,h3=>by
  have hl:(s.take at_).length=at_:=by rw[ba];omega
  have e0:=h3 0 aa;simp only[Nat.add_zero]at e0
  have e1:s.take at_++[(s.take at_).getD ((s.take at_).length-d) 0]=s.take (at_+1):=by
   rw[hl,eu];congr 1;rw[a_,Gy aa,<-a_,e0,a_,aZ aa];rfl
  rw[nL,e1,Wv s d hd n (at_+1) aa aa (λ i hi=>by
   have:=h3 (i+1) aa;rw[show at_+1-d+i=at_-d+(i+1)by omega,show at_+1+i=at_+(i+1)by omega];exact this)]
  congr 1;omega
structure Tk where
 lit:Nat
 len:Nat
 aq:Nat
def fH (out:List Nat)(t:Tk):List Nat:=if t.len=0 then out++[t.lit]else nL t.aq t.len out
def wW (t:Tk)(n:Nat):Prop:=(t.len=0/\t.aq=0/\t.lit<256)∨(t.lit=0/\3<=t.len/\t.len<=258/\1<=t.aq/\t.aq<=n/\t.aq<=4096)
inductive gL (s:List Nat):List Tk->Nat->Prop
 |nil:gL s [] 0
 |lit {l:List Tk} {n:Nat} (h:gL s l n) (hn:n<s.length) (hb:s.getD n 0<256):gL s (l++[⟨s.getD n 0,0,0⟩]) (n+1)
 |copy {l:List Tk} {n k d:Nat} (h:gL s l n) (hk:3<=k) (bI:k<=258) (hd:1<=d) (CX:d<=n) (fj:d<=4096) (hl:n+k<=s.length) (he:∀i,i<k->s.getD (n-d+i) 0=s.getD (n+i) 0):gL s (l++[⟨0,k,d⟩]) (n+k)
theorem gL.out {s:List Nat}{l:List Tk}{n:Nat}(h:gL s l n):l.foldl fH []=s.take n/\n<=s.length:=by
 induction h with
 |nil=>exact⟨rfl,gV _⟩
 |lit h hn hb ih=>
  rw[rT,ih.1];refine⟨?_,aa⟩;simp only[kH,zN,fH,if_pos];rw[eu,a_,aZ hn];rfl
 |copy h hk bI hd CX fj hl he ih=>
  rw[rT,ih.1];refine⟨?_,aa⟩;simp only[kH,zN,fH];rw[if_neg aa,Wv s _ hd _ _ CX hl he]
theorem ahm (out:List Nat)(t:Tk):(fH out t).length=out.length+max t.len 1:=by
 unfold fH;split
 ·next h=>rw[ag,h];simp
 ·rw[Wu];omega
def bW (ls:List Nat)(s:Nat):List Bool:=msb (iU ls s) (ls.getD s 0)
def ia (lens:List Nat)(r:Nat×Nat×Nat):List Bool:=bW lens r.1++aH r.2.2 r.2.1
def gA (lit aq:List Nat)(t:Tk):List Bool:=
 if t.len=0 then bW lit t.lit else bW lit (dD t.len).1++(aH (dD t.len).2.2 (dD t.len).2.1++(bW aq (dJ t.aq).1++aH (dJ t.aq).2.2 (dJ t.aq).2.1))
def CY (lit aq:List Nat)(l:List Tk):List Bool:=l.flatMap (gA lit aq)++bW lit 256
structure dh (ls:List Nat):Prop where
 le:∀x∈ls,x<=15
 room:pE ls=32768∨(pE ls=16384/\aR ls 1=1/\∀n,2<=n->aR ls n=0)∨(∀n,aR ls n=0)
theorem dh.free {ls:List Nat}(h:dh ls){n:Nat}(hn:n<=15):0<=gK (aR ls) n:=by
 refine We (m:=15) ?_ hn;rcases h.room with h1|⟨h1,_⟩|h1
 ·rw[PH ls h.le,h1];decide
 ·rw[PH ls h.le,h1];decide
 ·have:∀n,gK (aR ls) n=((2^n:Nat):Int):=by
   intro n;induction n with
   |zero=>rfl
   |succ n ih=>
    rw[gK,ih,h1 (n+1),Nat.pow_succ];omega
  rw[this];decide
theorem there {A F E F':List Bool}(hA:A=F.take A.length)(hF:F=E++F')(h:E.length<=A.length):A=E++A.drop E.length/\A.drop E.length=F'.take (A.length-E.length):=by
 have e1:A.take E.length=E:=by
  rw[hA,List.take_take,lB h,hF,Cq]
 refine⟨?_,?_⟩
 ·conv=>lhs;rw[<-gI E.length A,e1]
 ·conv=>lhs;rw[hA,hF]
  rw[List.drop_take,List.drop_left]
theorem ahn {A F E F':List Bool}(hA:A=F.take A.length)(hF:F=E++F')(h:A.length<E.length):A=E.take A.length:=by
 conv=>lhs;rw[hA,hF]
 rw[Er aa]
theorem aho {ls:List Nat}{s:Nat}{A F F':List Bool}(hg:dh ls)(hs:s<ls.length)(h1:0<ls.getD s 0)(hA:A=F.take A.length)(hF:F=bW ls s++F')(h:(bW ls s).length<=A.length):
 nJ (aR ls) (ez ls 15) 15 1 0 0 0 A=some (s,A.drop (bW ls s).length):=by
 have hle:ls.getD s 0<=15:=hg.le _ (by rw[a_,aZ hs];exact mN hs);have h2:=(there hA hF h).1;rw[h2];have:=ag8 ls s 15 hs h1 hle (hg.free hle) (A.drop (bW ls s).length);rw[show(bW ls s++A.drop (bW ls s).length).drop (bW ls s).length=A.drop (bW ls s).length from List.drop_left];exact this
theorem ahp {ls:List Nat}{s:Nat}{A F F':List Bool}(hg:dh ls)(hs:s<ls.length)(h1:0<ls.getD s 0)(hA:A=F.take A.length)(hF:F=bW ls s++F')(h:A.length<(bW ls s).length):
 nJ (aR ls) (ez ls 15) 15 1 0 0 0 A=none/\A.length<15:=by
 have hle:ls.getD s 0<=15:=hg.le _ (by rw[a_,aZ hs];exact mN hs);have hl:(bW ls s).length=ls.getD s 0:=wU _ _;rw[hl]at h;refine⟨?_,aa⟩;have h2:=ahn hA hF (by rw[hl];exact h);rw[h2];exact ag9 ls s 15 A.length hs h1 hle (hg.free hle) h
structure wX (kq:List Nat)(limit:Nat)(out:List Nat):Prop where
 len:out.length=kq.length
 pos:∀s,0<kq.getD s 0->1<=out.getD s 0
 zero:∀s,kq.getD s 0=0->out.getD s 0=0
 le:∀x∈out,x<=limit
 good:dh out
theorem G2 {l:List Nat}{m:Nat}(h:∀s,s<l.length->l.getD s 0<=m):∀x∈l,x<=m:=λ x hx=>by
 obtain⟨i,hi,e⟩:=List.getElem_of_mem hx;have:=h i hi;rwa [a_,aZ hi,ye,e]at this
theorem Ww {l:List Nat}{s:Nat}(h:l.length<=s):l.getD s 0=0:=by
 rw[a_,s7 h];rfl
theorem mU {l:List Nat}{s:Nat}(h:0<l.getD s 0):s<l.length:=by
 rcases gx s l.length with h1|h1
 ·exact h1
 ·rw[Ww h1]at h;omega
theorem ahq {base:List aT}(hs:tB base)(hb:∀c∈base,c.2=false)(R:List aT)(l:List (List aT))(hr:pD base (R::l))(h2:2<=base.length)(hn:2*base.length-2<=R.length)(CV:l.length+1<=15)
 (kq syms:List Nat)(uD:syms.Nodup)(jS:∀s,s∈syms↔0<kq.getD s 0)(hlen:syms.length=base.length):
 wX kq (l.length+1) (sc kq.length syms (takes (R::l) (2*base.length-2))):=by
 obtain⟨h1,h3,h4⟩:=ahi hs hb R l hr h2 hn CV kq.length syms uD (λ s h=>mU ((jS s).1 h)) hlen _ rfl
 have hle:∀x∈sc kq.length syms (takes (R::l) (2*base.length-2)),x<=l.length+1:=G2 λ s h=>by
  rw[h1]at h;by_cases hm:s∈syms
  ·exact((h3 s h).1 hm).2
  ·rw[(h3 s h).2 hm];omega
 refine⟨h1,λ s h=>((h3 s (mU h)).1 ((jS s).2 h)).1,λ s h=>?_,hle,⟨λ x hx=>b_ (hle x hx) CV,.inl h4⟩⟩;rcases gx s kq.length with h5|h5
 ·exact(h3 s h5).2 λ hm=>by have:=(jS s).1 hm;omega
 ·exact Ww (by rw[h1];exact h5)
theorem EY (n k:Nat):aR (List.replicate n 0) k=0:=by
 unfold aR;by_cases h:k=0
 ·rw[if_pos h]
 ·rw[if_neg h,rS.2 (by simp;omega)];rfl
theorem PN (n:Nat):pE (List.replicate n 0)=0:=by
 unfold pE;rw[List.map_replicate,if_pos rfl];induction n with
 |zero=>rfl
 |succ n ih=>rw[qg,List.sum_cons,ih]
theorem PO (a b:List Nat):pE (a++b)=pE a+pE b:=by unfold pE;rw[ka,List.sum_append]
theorem G3 (a b:List Nat)(k:Nat):aR (a++b) k=aR a k+aR b k:=by
 unfold aR;split
 ·rfl
 ·rw[kI,ag]
theorem ahr (kq:List Nat)(limit:Nat)(h:∀s,kq.getD s 0=0):wX kq limit (List.replicate kq.length 0):=by
 have hx:∀x∈List.replicate kq.length 0,x=0:=λ x hx=>(List.mem_replicate.1 hx).2
 have hg:∀s,(List.replicate kq.length 0).getD s 0=0:=λ s=>by
  rw[a_,nE];split<;>rfl
 exact⟨cA,λ s hs=>by rw[h s]at hs;omega,λ s _=>hg s,λ x h=>by rw[hx x h];omega,⟨λ x h=>by rw[hx x h];omega,.inr (.inr λ n=>EY _ n)⟩⟩
theorem ahs (n s:Nat)(h:s<n):(List.replicate n 0).set s 1=List.replicate s 0++[1]++List.replicate (n-s-1) 0:=by
 apply List.ext_getElem?;intro i;rw[zO,cA,List.getElem?_append,List.getElem?_append,ag,cA,nE,nE,nE];simp only[List.length_singleton];by_cases h1:s=i
 ·subst h1;rw[if_pos rfl,if_pos h,if_pos aa,if_neg aa,gy];rfl
 ·rw[if_neg h1];by_cases h2:i<s
  ·rw[if_pos aa,if_pos aa,if_pos h2,if_pos h2]
  ·rw[if_neg (by omega:¬i<s+1)];by_cases h3:i<n
   ·rw[if_pos h3,if_pos aa]
   ·rw[if_neg h3,if_neg aa]
theorem aht (kq:List Nat)(limit s:Nat)(hl:1<=limit)(h1:0<kq.getD s 0)(h:∀t,t≠s->kq.getD t 0=0):wX kq limit ((List.replicate kq.length 0).set s 1):=by
 have hs:=mU h1
 have hg:∀t,((List.replicate kq.length 0).set s 1).getD t 0=if t=s then 1 else 0:=λ t=>by
  rw[a_,zO,cA,nE];by_cases h2:t=s
  ·subst h2;rw[if_pos rfl,if_pos hs,if_pos rfl];rfl
  ·rw[if_neg (λ h=>h2 h.symm),if_neg h2];split<;>rfl
 have Wx:∀x∈(List.replicate kq.length 0).set s 1,x<=1:=G2 λ t _=>by rw[hg t];split<;>omega
 refine⟨by rw[iP,cA],λ t ht=>?_,λ t ht=>?_,λ x hx=>b_ (Wx x hx) hl,⟨λ x hx=>b_ (Wx x hx) aa,.inr (.inl ?_)⟩⟩
 ·rw[hg t];by_cases h2:t=s
  ·rw[if_pos h2];omega
  ·rw[h t h2]at ht;omega
 ·rw[hg t];by_cases h2:t=s
  ·subst h2;omega
  ·rw[if_neg h2]
 ·rw[ahs _ _ hs];refine⟨?_,?_,λ n hn=>?_⟩
  ·rw[PO,PO,PN,PN];rfl
  ·rw[G3,G3,EY,EY];rfl
  ·rw[G3,G3,EY,EY];unfold aR;rw[if_neg aa,List.filter_cons_of_neg (by simp;omega)];rfl
structure lK (l:List Nat)(least:Nat)(out:List Nat):Prop where
 ex:∃m,out=l.take m/\least<=m/\m<=l.length/\∀x∈l.drop m,x=0
theorem lK.split {l out:List Nat}{least:Nat}(h:lK l least out):∃k,l=out++List.replicate k 0:=by
 obtain⟨m,e,_,_,hz⟩:=h.ex;refine⟨(l.drop m).length,?_⟩;rw[e,<-List.eq_replicate_iff.2 ⟨rfl,hz⟩,gI]
theorem lK.len {l out:List Nat}{least:Nat}(h:lK l least out):least<=out.length/\out.length<=l.length:=by
 obtain⟨m,e,h1,h2,_⟩:=h.ex;rw[e,ba];omega
theorem lK.get {l out:List Nat}{least:Nat}(h:lK l least out)(s:Nat):out.getD s 0=l.getD s 0:=by
 obtain⟨k,e⟩:=h.split;rw[e,a_,a_,List.getElem?_append];split
 ·rfl
 ·rename_i h1;rw[s7 aa,nE];split<;>rfl
theorem lK.good {l out:List Nat}{least:Nat}(h:lK l least out)(hg:dh l):dh out:=by
 obtain⟨k,e⟩:=h.split;have hw:pE l=pE out:=by rw[e,PO,PN,Nat.add_zero]
 have hc:∀n,aR l n=aR out n:=λ n=>by rw[e,G3,EY,Nat.add_zero]
 refine⟨λ x hx=>hg.le x (by rw[e];exact List.mem_append_left _ hx),?_⟩;have h2:=hg.room;simp only[hw,hc]at h2;exact h2
def ic:List Nat:=List.replicate 144 8++(List.replicate 112 9++(List.replicate 24 7++List.replicate 8 8))
def kN:List Nat:=List.replicate 32 5
theorem Lm:dh ic:=⟨λ x hx=>by
 unfold ic at hx;simp only[fE,List.mem_replicate]at hx;omega,.inl (by decide+kernel)⟩
theorem Ln:dh kN:=⟨λ x hx=>by
 unfold kN at hx;simp only[List.mem_replicate]at hx;omega,.inl (by decide+kernel)⟩
theorem Lq (s:Nat)(h:s<288):1<=ic.getD s 0:=by
 have h2:ic.length=288:=by decide+kernel
 have:∀x∈ic,1<=x:=λ x hx=>by
  unfold ic at hx;simp only[fE,List.mem_replicate]at hx;omega
 rw[a_,aZ aa];exact this _ (mN _)
theorem ahu (s:Nat)(h:s<32):1<=kN.getD s 0:=by
 have h2:kN.length=32:=cA;rw[a_,aZ aa];show 1<=kN[s];unfold kN;rw[List.getElem_replicate];omega
def ie:List Nat:=[16,17,18,0,8,7,9,6,10,5,11,4,12,3,13,2,14,1,15]
def wY (lens:List Nat)(k:Nat):List Nat:=(ie.take k).foldl (λ l s=>l.set s (lens.getD s 0)) (List.replicate 19 0)
theorem Wy (lens:List Nat):∀(o l:List Nat) (s:Nat),(∀x∈o,x<l.length)->s<l.length->(o.foldl (λ l s=>l.set s (lens.getD s 0)) l).getD s 0=if s∈o then lens.getD s 0 else l.getD s 0
 |[],l,s,_,_=>by rw[if_neg aj];rfl
 |x::o,l,s,ho,hs=>by
  rw[kH,Wy lens o _ s (λ y hy=>by rw[iP];exact ho y (Ew _ hy)) (by rw[iP];exact hs)];by_cases h1:s∈o
  ·rw[if_pos h1,if_pos (Ew _ h1)]
  ·rw[if_neg h1,a_,zO];by_cases h2:x=s
   ·subst h2;rw[if_pos rfl,if_pos (ho x (s9 ..)),if_pos (s9 ..)];rfl
   ·rw[if_neg h2,if_neg (λ h=>by rcases eW.1 h with h|h;exact h2 h.symm;exact h1 h),a_]
theorem Wz (lens:List Nat):∀(o l:List Nat),(o.foldl (λ l s=>l.set s (lens.getD s 0)) l).length=l.length
 |[],_=>rfl
 |x::o,l=>by rw[kH,Wz lens o,iP]
theorem ahv {lens out:List Nat}(hl:lens.length=19)(h:lK (ie.map λ s=>lens.getD s 0) 4 out):wY lens out.length=lens:=by
 obtain⟨m,e,_,h2,hz⟩:=h.ex;have hm:out.length=m:=by rw[e,ba];exact lB h2
 rw[hm];have hlen:(wY lens m).length=19:=by unfold wY;rw[Wz,cA]
 apply List.ext_getElem
 ·rw[hlen,hl]
 ·intro s h3 h4;have hs:s<19:=aa
  have e2:(wY lens m).getD s 0=lens.getD s 0:=by
   have ho:∀x∈ie.take m,x<19:=λ x hx=>by
    exact(by decide:∀x∈ie,x<19) x (s6 hx)
   unfold wY;rw[Wy lens _ _ s (by rw[cA];exact ho) (by rw[cA];exact hs)];by_cases yB:s∈ie.take m
   ·rw[if_pos yB]
   ·rw[if_neg yB]
    have fP:s∈ie:=by
     have:∀s,s<19->s∈ie:=aA;exact this s hs
    rw[<-gI m ie]at fP;rcases fE.1 fP with h5|h5
    ·exact absurd h5 yB
    ·rw[hz (lens.getD s 0) (by rw[<-List.map_drop];exact kJ.2 ⟨s,h5,rfl⟩),a_,nE];split<;>rfl
  rw[a_,a_,aZ h3,aZ h4]at e2;exact e2
def yC (last:Bool):List Bool:=aH (ca last) 1++aH 1 2
def Ak (last:Bool)(lit aq lens sorted:List Nat):List Bool:=
 aH (ca last) 1++(aH 2 2++(aH (lit.length-257) 5++(aH (aq.length-1) 5++(aH (sorted.length-4) 4++(sorted.flatMap (λ n=>aH n 3)++(eK (lit++aq)).flatMap (ia lens))))))
structure fu (U A todo:List Bool)(k:Nat):Prop where
 split:∃d,U=d++todo/\d.length=k
 le:k<=A.length
 pre:∃F,A=(U++F).take A.length
theorem fu.here {U A E t:List Bool}{k:Nat}(h:fu U A (E++t) k):∃F,A.drop k=(E++F).take (A.drop k).length:=by
 obtain⟨d,e,hd⟩:=h.split;obtain⟨F,hF⟩:=h.pre;refine⟨t++F,?_⟩;have hle:=h.le;conv=>lhs;rw[hF,e]
 rw[List.drop_take,cw,aN,aN,zH aa,<-hd,List.drop_length,List.nil_append]
theorem fu.next {U A E t:List Bool}{k:Nat}(h:fu U A (E++t) k)(hk:k+E.length<=A.length):fu U A t (k+E.length):=by
 obtain⟨d,e,hd⟩:=h.split;exact⟨⟨d++E,by rw[e,aN],by rw[ag,hd]⟩,hk,h.pre⟩
theorem fu.short {U A E t:List Bool}{k:Nat}(h:fu U A (E++t) k)(hk:A.length<k+E.length):A.length<U.length:=by
 obtain⟨d,e,hd⟩:=h.split;rw[e,ag,ag,hd];omega
theorem fu.part {U A E t:List Bool}{k:Nat}(h:fu U A (E++t) k)(hk:k+E.length<=A.length):(A.drop k).take E.length=E:=by
 obtain⟨F,hF⟩:=h.here;have hl:E.length<=(A.drop k).length:=by rw[cw];omega
 rw[hF,List.take_take,lB hl,Cq]
theorem fu.num {U A t:List Bool}{k v m:Nat}(h:fu U A (aH v m++t) k)(hv:v<2^m)(hk:k+m<=A.length):ef ((A.drop k).take m)=v/\fu U A t (k+m):=by
 have hl:(aH v m).length=m:=fi v m;have h1:=h.part (by rw[hl];exact hk);rw[hl]at h1;refine⟨by rw[h1,Lf,Cm hv],?_⟩;have h2:=h.next (by rw[hl];exact hk)
 rwa [hl]at h2
theorem fu.ahw {U A t:List Bool}{k v m:Nat}(h:fu U A (aH v m++t) k)(hk:A.length<k+m):A.length<U.length:=
 h.short (by rw[fi];exact hk)
theorem fu.sym {U A t:List Bool}{k s:Nat}{ls:List Nat}(h:fu U A (bW ls s++t) k)(hg:dh ls)(hs:s<ls.length)(h1:0<ls.getD s 0)(hk:k+(bW ls s).length<=A.length):
 nJ (aR ls) (ez ls 15) 15 1 0 0 0 (A.drop k)=some (s,A.drop (k+(bW ls s).length))/\fu U A t (k+(bW ls s).length):=by
 obtain⟨F,hF⟩:=h.here;have hl:(bW ls s).length<=(A.drop k).length:=by rw[cw];omega
 have h2:=aho hg hs h1 hF rfl hl;rw[uy]at h2;exact⟨h2,h.next hk⟩
theorem fu.ahx {U A t:List Bool}{k s:Nat}{ls:List Nat}(h:fu U A (bW ls s++t) k)(hg:dh ls)(hs:s<ls.length)(h1:0<ls.getD s 0)(hk:A.length<k+(bW ls s).length):
 nJ (aR ls) (ez ls 15) 15 1 0 0 0 (A.drop k)=none/\(A.drop k).length<15/\A.length<U.length:=by
 obtain⟨F,hF⟩:=h.here;have hle:=h.le;have hl:(A.drop k).length<(bW ls s).length:=by rw[cw];omega
 have h2:=ahp hg hs h1 hF rfl hl;exact⟨h2.1,h2.2,h.short hk⟩
theorem fu.start {U A F:List Bool}(h:A=(U++F).take A.length):fu U A U 0:=⟨⟨[],rfl,rfl⟩,gV _,⟨F,h⟩⟩
theorem fu.whole {U A:List Bool}{k:Nat}(h:fu U A [] k):k=U.length/\U.length<=A.length:=by
 obtain⟨d,e,hd⟩:=h.split;rw[bV]at e;have:=h.le;rw[e,hd];exact⟨rfl,this⟩
def bX (us:List (List Bool))(k:Nat):Nat:=((us.take k).flatten).length
theorem WA (us:List (List Bool))(k:Nat)(u:List Bool)(h:us[k]? =some u):bX us (k+1)=bX us k+u.length:=by
 unfold bX;rw[eu,h,Cv,ag];simp
theorem ahy (us:List (List Bool))(k:Nat):bX us k<=us.flatten.length:=by
 unfold bX;conv=>rhs;rw[<-gI k us,Cv,ag]
 omega
theorem WB (us:List (List Bool))(k:Nat)(h:us.length<=k):bX us k=us.flatten.length:=by
 unfold bX;rw[bQ h]
theorem gL.at {s:List Nat}{l:List Tk}{n:Nat}(h:gL s l n):∀(k:Nat) (t:Tk),l[k]? =some t->
 ∃m,(l.take k).foldl fH []=s.take m/\wW t m/\(l.take (k+1)).foldl fH []=s.take (m+max t.len 1)/\m+max t.len 1<=s.length:=by
 have last:∀(l:List Tk) (t':Tk) (n:Nat),gL s l n->wW t' n->gL s (l++[t']) (n+max t'.len 1)->n+max t'.len 1<=s.length->
  (∀(k:Nat) (t:Tk),l[k]? =some t->∃m,(l.take k).foldl fH []=s.take m/\wW t m/\(l.take (k+1)).foldl fH []=s.take (m+max t.len 1)/\m+max t.len 1<=s.length)->
  ∀(k:Nat) (t:Tk),(l++[t'])[k]? =some t->∃m,((l++[t']).take k).foldl fH []=s.take m/\wW t m/\((l++[t']).take (k+1)).foldl fH []=s.take (m+max t.len 1)/\m+max t.len 1<=s.length:=by
  intro l t' n h bq h2 hle ih k t hk;rcases gx k l.length with h1|h1
  ·rw[ux h1]at hk;rw[Er aa,Er aa];exact ih k t hk
  ·rw[lf h1]at hk
   have eR:k-l.length=0:=by
    rcases wG (k-l.length)with h3|h3
    ·exact h3
    ·rw[s7 (by simp;omega)]at hk;cases hk
   rw[eR]at hk;have ht:t'=t:=by simpa using hk
   subst ht;have mV:k=l.length:=aa;refine⟨n,?_,bq,?_,hle⟩
   ·rw[mV,Cq];exact h.out.1
   ·rw[mV,bQ aj];exact h2.out.1
 induction h with
 |nil=>intro k t hk;cases hk
 |lit h hn hb ih=>
  refine last _ _ _ h (.inl ⟨rfl,rfl,hb⟩) ?_ ?_ ih
  ·exact gL.lit h hn hb
  ·show _+max 0 1<=_;omega
 | @copy l n k d h hk bI hd CX fj hl he ih=>
   refine last _ _ _ h (.inr ⟨rfl,hk,bI,hd,CX,fj⟩) ?_ ?_ ih
   ·show gL s _ (n+max k 1);rw[Nat.max_eq_left aa];exact gL.copy h hk bI hd CX fj hl he
   ·show n+max k 1<=_;rw[Nat.max_eq_left aa];exact hl
def bump (l:List Nat)(s:Nat):List Nat:=l.set s (l.getD s 0+1)
theorem Lr (l:List Nat)(s:Nat):(bump l s).length=l.length:=iP
theorem G4 (l:List Nat)(s t:Nat)(h:s<l.length):(bump l s).getD t 0=l.getD t 0+if t=s then 1 else 0:=by
 unfold bump;rw[a_,zO,a_];by_cases e:s=t
 ·subst e;rw[if_pos rfl,if_pos h,if_pos rfl];simp
 ·rw[if_neg e,if_neg (λ h=>e h.symm),a_];rfl
theorem G5 (l:List Nat)(s t:Nat):l.getD t 0<=(bump l s).getD t 0/\(bump l s).getD t 0<=l.getD t 0+1:=by
 rcases gx s l.length with h|h
 ·rw[G4 l s t h];split<;>omega
 ·unfold bump;rw[List.set_eq_of_length_le h];omega
def dK (p:List Nat×List Nat)(t:Tk):List Nat×List Nat:=if t.len=0 then(bump p.1 t.lit,p.2)else(bump p.1 (dD t.len).1,bump p.2 (dJ t.aq).1)
theorem WC (p:List Nat×List Nat)(t:Tk):(dK p t).1.length=p.1.length/\(dK p t).2.length=p.2.length:=by
 unfold dK;split
 ·exact⟨Lr _ _,rfl⟩
 ·exact⟨Lr _ _,Lr _ _⟩
theorem ahz (p:List Nat×List Nat)(t:Tk)(s:Nat):(p.1.getD s 0<=(dK p t).1.getD s 0/\(dK p t).1.getD s 0<=p.1.getD s 0+1)/\(p.2.getD s 0<=(dK p t).2.getD s 0/\(dK p t).2.getD s 0<=p.2.getD s 0+1):=by
 unfold dK;split
 ·exact⟨G5 _ _ _,ai _,yk _⟩
 ·exact⟨G5 _ _ _,G5 _ _ _⟩
theorem Ls (l:List Tk):∀(p:List Nat×List Nat),(l.foldl dK p).1.length=p.1.length/\(l.foldl dK p).2.length=p.2.length:=by
 induction l with
 |nil=>exact λ p=>⟨rfl,rfl⟩
 |cons t l ih=>
  intro p;rw[kH];have h1:=ih (dK p t);have h2:=WC p t;exact⟨h1.1.trans h2.1,h1.2.trans h2.2⟩
theorem G6 (s:Nat)(l:List Tk):∀(p:List Nat×List Nat),(p.1.getD s 0<=(l.foldl dK p).1.getD s 0/\(l.foldl dK p).1.getD s 0<=p.1.getD s 0+l.length)/\(p.2.getD s 0<=(l.foldl dK p).2.getD s 0/\(l.foldl dK p).2.getD s 0<=p.2.getD s 0+l.length):=by
 induction l with
 |nil=>exact λ p=>⟨⟨ai _,ai _⟩,⟨ai _,ai _⟩⟩
 |cons t l ih=>
  intro p;rw[kH,aU];have h1:=ih (dK p t);have h2:=ahz p t s;omega
def Has (lit aq:List Nat)(t:Tk):Prop:=(t.len=0->0<lit.getD t.lit 0)/\(t.len≠0->0<lit.getD (dD t.len).1 0/\0<aq.getD (dJ t.aq).1 0)
theorem WD {t:Tk}{n:Nat}(bq:wW t n):∀(l:List Tk) (p:List Nat×List Nat),p.1.length=286->p.2.length=30->t∈l->Has (l.foldl dK p).1 (l.foldl dK p).2 t
 |[],_,_,_,h=>by cases h
 |u::l,p,h1,h2,h=>by
  rw[kH];have hl:=WC p u;rcases eW.1 h with e|h
  ·subst e;rcases bq with⟨a1,_,a3⟩|⟨_,b2,b3,b4,_,b6⟩
   ·refine⟨λ _=>?_,λ h=>absurd a1 h⟩;have g1:=(G6 t.lit l (dK p t)).1.1
    have g2:0<(dK p t).1.getD t.lit 0:=by
     unfold dK;rw[if_pos a1];show 0<(bump p.1 t.lit).getD t.lit 0;rw[G4 _ _ _ aa,if_pos rfl];omega
    omega
   ·refine⟨λ h=>by omega,λ _=>?_⟩;have hb:=EX t.len b2 b3;have hd:=G1 t.aq b4 aa;have g1:=(G6 (dD t.len).1 l (dK p t)).1.1;have g2:=(G6 (dJ t.aq).1 l (dK p t)).2.1
    have g3:0<(dK p t).1.getD (dD t.len).1 0:=by
     unfold dK;rw[if_neg aa];show 0<(bump p.1 (dD t.len).1).getD (dD t.len).1 0;rw[G4 _ _ _ aa,if_pos rfl];omega
    have g4:0<(dK p t).2.getD (dJ t.aq).1 0:=by
     unfold dK;rw[if_neg aa];show 0<(bump p.2 (dJ t.aq).1).getD (dJ t.aq).1 0;rw[G4 _ _ _ aa,if_pos rfl];omega
    omega
  ·exact WD bq l (dK p u) aa aa h
theorem WE {t:Tk}{n:Nat}(bq:wW t n):Has ic kN t:=by
 rcases bq with⟨a1,_,a3⟩|⟨_,b2,b3,b4,_,b6⟩
 ·exact⟨λ _=>Lq _ aa,λ h=>absurd a1 h⟩
 ·have hb:=EX t.len b2 b3;have hd:=G1 t.aq b4 aa;exact⟨λ h=>by omega,λ _=>⟨Lq _ aa,ahu _ aa⟩⟩
def nM (s:List Nat):List Bool:=aH 1 1++(aH 0 2++(List.replicate 5 false++(aH s.length 16++(aH (s.length^^^65535) 16++fS s))))
inductive sd (s:List Nat):List (List Bool)->Prop
 |stored (h:s.length<=65535):sd s [nM s]
 |fixed (l:List Tk) (h:gL s l s.length):sd s (yC true::(l.map (gA ic kN)++[bW ic 256]))
 |WG (l:List Tk) (lit aq lens sorted:List Nat) (h:gL s l s.length) (hl:dh lit) (hd:dh aq) (hn:dh lens) (lL:257<=lit.length) (cI:lit.length<=286) (jT:1<=aq.length) (fj:aq.length<=30)
  (he:0<lit.getD 256 0) (hh:∀t∈l,Has lit aq t) (hr:∀r∈eK (lit++aq),0<lens.getD r.1 0) (iR:lens.length=19) (Lt:∀x∈lens,x<=7) (hs:lK (ie.map λ s=>lens.getD s 0) 4 sorted):
  sd s (Ak true lit aq lens sorted::(l.map (gA lit aq)++[bW lit 256]))
def iH (s:List UInt8)(i:Nat):List UInt8:=(s.drop (192*i)).take 192++List.replicate (192-((s.drop (192*i)).take 192).length) 0
def cM (s:List UInt8):Nat:=(s.length+191)/192
def EZ (s:List UInt8):List (List UInt8):=(List.range (cM s)).map (iH s)
def oU (s:List UInt8):List UInt8:=s++List.replicate (192*cM s-s.length) 0
theorem G7 (s:List UInt8)(i:Nat):(iH s i).length=192:=by
 unfold iH;rw[ag,cA,ba];omega
theorem WH (s:List UInt8):(EZ s).length=cM s:=by unfold EZ;rw[eG,List.length_range]
theorem PQ (s:List UInt8)(i:Nat)(h:i<cM s):(EZ s)[i]? =some (iH s i):=by
 unfold EZ;rw[eH,List.getElem?_range h];rfl
theorem PR (s:List UInt8):(oU s).length=192*cM s:=by
 unfold oU cM;rw[ag,cA];omega
theorem ahA (s:List UInt8)(i:Nat)(h:i<cM s):iH s i=((oU s).drop (192*i)).take 192:=by
 have h1:=h;unfold cM at h1;unfold iH oU;rw[zH aa,Ep];congr 1;rw[List.take_replicate,ba,cw];congr 1;unfold cM;omega
end
section
namespace So
set_option linter.unusedSectionVars false
variable {β:Type} [Inhabited β]
def aM (x y:Nat×β):Prop:=x.1<y.1
theorem uI (x:Nat×β):¬aM x x:=Nat.lt_irrefl _
theorem PS {x y z:Nat×β}(h:aM x y)(h2:aM y z):aM x z:=Nat.lt_trans h h2
theorem Lu {x y:Nat×β}(h:¬aM x y)(h2:¬aM y x):x.1=y.1:=by unfold aM at h h2;omega
theorem CZ {x y:Nat×β}(h:aM x y):x.1≠y.1:=λ e=>by unfold aM at h;omega
theorem C0 {x y:Nat×β}(h:aM x y):¬aM y x:=λ h2=>uI _ (PS h h2)
theorem Am {x y z:Nat×β}(h:aM x y)(h2:¬aM z y):aM x z:=by unfold aM at h h2⊢;omega
theorem C3 {x y z:Nat×β}(h:¬aM y x)(h2:aM y z):aM x z:=by unfold aM at h h2⊢;omega
theorem nN {x y z:Nat×β}(h:¬aM y x)(h2:¬aM z y):¬aM z x:=by unfold aM at h h2⊢;omega
def sw (l:List (Nat×β))(i j:Nat):List (Nat×β):=(l.set i (l.getD j default)).set j (l.getD i default)
theorem yD (l:List (Nat×β))(i j:Nat):(sw l i j).length=l.length:=by simp[sw]
theorem getD_some {l:List (Nat×β)}{i:Nat}(h:i<l.length):l[i]? =some (l.getD i default):=by
 rw[a_,aZ h];rfl
theorem tG (A B C:List (Nat×β))(x y:(Nat×β))(i j:Nat)(hi:i=A.length)(hj:j=A.length+1+B.length):sw (A++x::(B++y::C)) i j=A++y::(B++x::C):=by
 subst hi;subst hj
 have e1:(A++x::(B++y::C)).getD (A.length+1+B.length) default=y:=by
  rw[a_,lf aa,show A.length+1+B.length-A.length=B.length+1 by omega,eF,lf (ai _),gy];rfl
 have e2:(A++x::(B++y::C)).getD A.length default=x:=by
  rw[a_,lf (ai _),gy];rfl
 unfold sw;rw[e1,e2,qi _ _ (ai _),gy,bL,qi _ _ aa,show A.length+1+B.length-A.length=B.length+1 by omega,bN,qi _ _ (ai _),gy,bL]
def dE (l:List (Nat×β))(a b:Nat):Nat->List (Nat×β)
 |0=>l
 |n+1=>sw (dE l a b n) (a+n) (b+n)
theorem se (l:List (Nat×β))(a b n:Nat):(dE l a b n).length=l.length:=by
 induction n with
 |zero=>rfl
 |succ n ih=>rw[dE,yD,ih]
theorem PT (P M S:List (Nat×β))(U V:List (Nat×β))(h:U.length=V.length)(n:Nat)(hn:n<=U.length):
 dE (P++(U++(M++(V++S)))) P.length (P.length+U.length+M.length) n=P++((V.take n++U.drop n)++(M++((U.take n++V.drop n)++S))):=by
 induction n with
 |zero=>simp[dE]
 |succ n ih=>
  rw[dE,ih aa];have hu:n<U.length:=aa;have hv:n<V.length:=aa;have d1:U.drop n=U[n]::U.drop (n+1):=qj hu;have d2:V.drop n=V[n]::V.drop (n+1):=qj hv;have t1:U.take (n+1)=U.take n++[U[n]]:=by rw[eu,aZ hu];rfl
  have t2:V.take (n+1)=V.take n++[V[n]]:=by rw[eu,aZ hv];rfl
  have e:=tG (P++V.take n) (U.drop (n+1)++(M++U.take n)) (V.drop (n+1)++S) U[n] V[n] (P.length+n) (P.length+U.length+M.length+n)
   (by rw[ag,ba];omega) (by simp only[ag,ba,cw];omega)
  rw[d1,d2,t1,t2];simp only[aN,gU,List.nil_append]at e⊢;exact e
theorem wZ (P M S U V:List (Nat×β))(h:U.length=V.length)(a b n:Nat)(ha:a=P.length)(hb:b=P.length+U.length+M.length)(hn:n=U.length):
 dE (P++(U++(M++(V++S)))) a b n=P++(V++(M++(U++S))):=by
 subst ha;subst hb;subst hn;rw[PT P M S U V h _ (ai _),List.drop_length,zL,bQ aa,rU aa,bV,bV]
def aI (l:List (Nat×β)):Prop:=l.Pairwise λ x y=>¬aM y x
theorem cJ {a b:List (Nat×β)}:aI (a++b)↔aI a/\aI b/\∀x∈a,∀y∈b,¬aM y x:=List.pairwise_append
theorem Lv (x:(Nat×β)):aI [x]:=List.pairwise_singleton _ _
def aK (a b:List (Nat×β)):Prop:=∀p:Nat,a.filter (λ x=>decide (x.1=p))=b.filter (λ x=>decide (x.1=p))
theorem aK.dW (a:List (Nat×β)):aK a a:=λ _=>rfl
theorem aK.symm {a b:List (Nat×β)}(h:aK a b):aK b a:=λ p=>(h p).symm
theorem aK.trans {a b c:List (Nat×β)}(h:aK a b)(h2:aK b c):aK a c:=λ p=>(h p).trans (h2 p)
theorem aK.app {a b c d:List (Nat×β)}(h:aK a b)(h2:aK c d):aK (a++c) (b++d):=λ p=>by rw[kI,kI,h p,h2 p]
theorem aK.mem {a b:List (Nat×β)}(h:aK a b){x:(Nat×β)}(hx:x∈b):x∈a:=by
 have h1:x∈b.filter (λ y=>decide (y.1=x.1)):=pz.2 ⟨hx,aj⟩;rw[<-h x.1]at h1;exact(pz.1 h1).1
theorem aK.comm {a b:List (Nat×β)}(h:∀x∈a,∀y∈b,x.1≠y.1):aK (a++b) (b++a):=λ p=>by
 rw[kI,kI];by_cases ha:∃x∈a,x.1=p
 ·obtain⟨x,hx,rfl⟩:=ha;have:b.filter (λ y=>decide (y.1=x.1))=[]:=rS.2 λ y hy=>by simpa using(h x hx y hy).symm
  rw[this];simp
 ·have:a.filter (λ y=>decide (y.1=p))=[]:=rS.2 λ y hy=>by simpa using λ e=>ha ⟨y,hy,e⟩
  rw[this];simp
theorem E0:∀a b:List (Nat×β),aI a->aI b->aK a b->a=b
 |[],[],_,_,_=>rfl
 |[],y::b,_,_,h=>absurd (h.mem (s9)) aj
 |x::a,[],_,_,h=>absurd (h.symm.mem (s9)) aj
 |x::a,y::b,ha,hb,h=>by
  have Ao:=lX.1 ha;have oV:=lX.1 hb
  have h1:¬aM y x:=by
   have:y∈x::a:=h.mem s9;rcases eW.1 this with rfl|h1
   ·exact uI _
   ·exact Ao.1 y h1
  have h2:¬aM x y:=by
   have:x∈y::b:=h.symm.mem s9;rcases eW.1 this with rfl|h1
   ·exact uI _
   ·exact oV.1 x h1
  have hp:x.1=y.1:=Lu h2 h1;have hx:=h x.1;rw[oJ,oJ,if_pos aj,if_pos (by simp[hp])]at hx;have G8:x=y:=(yl hx).1;subst G8
  have hs:aK a b:=λ p=>by
   have hq:=h p;rw[oJ,oJ]at hq;by_cases e:x.1=p
   ·rw[if_pos (by simpa using e),if_pos (by simpa using e)]at hq;exact(yl hq).2
   ·rw[if_neg (by simpa using e),if_neg (by simpa using e)]at hq;exact hq
  rw[E0 a b Ao.2 oV.2 hs]
theorem Lw {X1 X2 Y1 Y2 Z1 Z2:List (Nat×β)}(hX:aI (X1++X2))(hY:aI (Y1++Y2))(h1:∀x∈X1,∀y∈Y2,¬aM y x)(h2:∀y∈Y1,∀x∈X2,aM y x)
 (s1:aI Z1)(s2:aI Z2)(t1:aK (X1++Y1) Z1)(t2:aK (X2++Y2) Z2):aI (Z1++Z2)/\aK ((X1++X2)++(Y1++Y2)) (Z1++Z2):=by
 obtain⟨_,_,hx⟩:=cJ.1 hX;obtain⟨_,_,hy⟩:=cJ.1 hY;refine⟨cJ.2 ⟨s1,s2,λ a ha b hb=>?_⟩,?_⟩
 ·rcases fE.1 (t1.mem ha)with ha|ha<;>rcases fE.1 (t2.mem hb)with hb|hb
  ·exact hx a ha b hb
  ·exact h1 a ha b hb
  ·exact C0 (h2 a ha b hb)
  ·exact hy a ha b hb
 ·have hc:aK (X2++Y1) (Y1++X2):=aK.comm λ x hx y hy=>(CZ (h2 y hy x hx)).symm
  have e1:aK ((X1++X2)++(Y1++Y2)) (X1++(Y1++X2)++Y2):=by
   rw[show(X1++X2)++(Y1++Y2)=X1++(X2++Y1)++Y2 by simp only[aN]];exact((aK.dW X1).app hc).app (aK.dW Y2)
  refine e1.trans ?_;rw[show X1++(Y1++X2)++Y2=(X1++Y1)++(X2++Y2)by simp only[aN]];exact t1.app t2
theorem nO {X:List (Nat×β)}{x:(Nat×β)}(h:aI (X++[x])):∀a∈X++[x],¬aM x a:=λ a ha=>by
 rcases fE.1 ha with h1|h1
 ·exact(cJ.1 h).2.2 a h1 x aj
 ·simp at h1;subst h1;exact uI _
theorem qx {X:List (Nat×β)}{x:(Nat×β)}(h:aI (x::X)):∀a∈x::X,¬aM a x:=λ a ha=>by
 rcases eW.1 ha with rfl|h1
 ·exact uI _
 ·exact(lX.1 h).1 a h1
theorem tH {A1 A2:List (Nat×β)}{x:(Nat×β)}(hA:aI (A1++A2))(h1:∀a∈A1,¬aM x a)(h2:∀a∈A2,aM x a):aI (A1++x::A2)/\aK ((A1++A2)++[x]) (A1++x::A2):=by
 obtain⟨a1,a2,a3⟩:=cJ.1 hA;have hs:aI (x::A2):=lX.2 ⟨λ a ha=>C0 (h2 a ha),a2⟩;refine⟨cJ.2 ⟨a1,hs,λ a ha b hb=>?_⟩,?_⟩
 ·rcases eW.1 hb with rfl|hb
  ·exact h1 a ha
  ·exact a3 a ha b hb
 ·rw[aN];exact(aK.dW A1).app (aK.comm λ a ha y hy=>by simp at hy;subst hy;exact(CZ (h2 a ha)).symm)
theorem Lx {A1 A2:List (Nat×β)}{x:(Nat×β)}(hA:aI (A1++A2))(h1:∀a∈A1,aM a x)(h2:∀a∈A2,¬aM a x):aI (A1++x::A2)/\aK ([x]++(A1++A2)) (A1++x::A2):=by
 obtain⟨a1,a2,a3⟩:=cJ.1 hA;have hs:aI (x::A2):=lX.2 ⟨λ a ha=>h2 a ha,a2⟩;refine⟨cJ.2 ⟨a1,hs,λ a ha b hb=>?_⟩,?_⟩
 ·rcases eW.1 hb with rfl|hb
  ·exact C0 (h1 a ha)
  ·exact a3 a ha b hb
 ·rw[<-aN,show A1++x::A2=(A1++[x])++A2 by simp];exact(aK.comm λ y hy a ha=>by simp at hy;subst hy;exact(CZ (h1 a ha)).symm).app (aK.dW A2)
theorem pG (X:List (Nat×β))(i:Nat)(h:i<=X.length):∃X1 X2,X=X1++X2/\X1.length=i:=⟨X.take i,X.drop i,(gI i X).symm,by rw[ba];omega⟩
def sf (n:Nat)(Bs:List (List (Nat×β))):Prop:=∀B∈Bs,B.length=n/\aI B
def w_ (l:List (Nat×β))(a:Nat)(row:List (Nat×β)):Prop:=∃(Bs:List (List (Nat×β))) (R:List (Nat×β)),sf 20 Bs/\row=Bs.flatten++R/\Bs.flatten.length=a/\aK l row/\row.length=l.length
def qy (l:List (Nat×β))(n:Nat)(row:List (Nat×β)):Prop:=∃(Bs:List (List (Nat×β))) (R:List (Nat×β)),sf n Bs/\aI R/\R.length<n/\row=Bs.flatten++R/\aK l row/\row.length=l.length
def qA (l:List (Nat×β))(n a:Nat)(row:List (Nat×β)):Prop:=∃(Cs Bs:List (List (Nat×β))) (R:List (Nat×β)),sf (2*n) Cs/\sf n Bs/\aI R/\R.length<n/\row=Cs.flatten++(Bs.flatten++R)/\Cs.flatten.length=a/\aK l row/\row.length=l.length
theorem G9 {n:Nat}{Bs:List (List (Nat×β))}{B:List (Nat×β)}(h:sf n Bs)(h1:B.length=n)(h2:aI B):sf n (Bs++[B]):=λ C hC=>by
 rcases fE.1 hC with h3|h3
 ·exact h C h3
 ·simp at h3;subst h3;exact⟨h1,h2⟩
theorem yE (Bs:List (List (Nat×β)))(B:List (Nat×β)):(Bs++[B]).flatten=Bs.flatten++B:=aj
theorem Ly (l:List (Nat×β)):w_ l 0 l:=⟨[],l,λ B h=>(by cases h),aj,rfl,aK.dW _,rfl⟩
theorem C4 {l row:List (Nat×β)}{a n:Nat}(h:w_ l a row)(hn:a+n<=row.length):∃P X S,row=P++(X++S)/\P.length=a/\X.length=n/\
 (n=20->∀Z,Z.length=X.length->aI Z->aK X Z->w_ l (a+20) (P++(Z++S)))/\(a+n=row.length->n<20->∀Z,Z.length=X.length->aI Z->aK X Z->qy l 20 (P++(Z++S))):=by
 obtain⟨Bs,R,h1,rfl,h3,h4,h5⟩:=h;rw[ag]at hn;obtain⟨X,S,rfl,hX⟩:=pG R n aa;refine⟨Bs.flatten,X,S,rfl,h3,hX,λ e Z z1 z2 z3=>?_,λ e e2 Z z1 z2 z3=>?_⟩
 ·refine⟨Bs++[Z],S,G9 h1 aa z2,by rw[yE,aN],by rw[yE,ag];omega,h4.trans ?_,?_⟩
  ·exact(aK.dW _).app (z3.app (aK.dW S))
  ·rw[<-h5];simp only[ag];omega
 ·have:S=[]:=dP (by simp only[ag]at e;omega);subst this;refine⟨Bs,Z,h1,z2,aa,aj,h4.trans ?_,?_⟩
  ·exact(aK.dW _).app (z3.app (aK.dW []))
  ·rw[<-h5];simp only[ag];omega
theorem Lz {l row:List (Nat×β)}{n:Nat}(h:qy l n row):qA l n 0 row:=by
 obtain⟨Bs,R,h1,h2,h3,h4,h5,h6⟩:=h;exact⟨[],Bs,R,λ B hB=>(by cases hB),h1,h2,h3,by simpa using h4,rfl,h5,h6⟩
theorem LA {l row:List (Nat×β)}{n a:Nat}(h:qA l n a row)(hn:a+2*n<=row.length):∃P X Y S,row=P++(X++(Y++S))/\P.length=a/\X.length=n/\Y.length=n/\aI X/\aI Y/\
 ∀Z,Z.length=(X++Y).length->aI Z->aK (X++Y) Z->qA l n (a+2*n) (P++(Z++S)):=by
 obtain⟨Cs,Bs,R,h1,h2,h3,h4,rfl,h6,h7,h8⟩:=h;simp only[ag]at hn;match Bs,h2,h7,h8,hn with
 |[],_,_,_,hn=>simp only[fY,kK,ag,cL,bV]at hn;omega
 |[B],h2,_,_,hn=>have:=(h2 B aj).1;simp only[fY,kK,ag,cL,bV]at hn;omega
 |B1::B2::Bs,h2,h7,h8,hn=>
  obtain⟨a1,a2⟩:=h2 B1 aj;obtain⟨b1,b2⟩:=h2 B2 aj;refine⟨Cs.flatten,B1,B2,Bs.flatten++R,aj,h6,a1,b1,a2,b2,λ Z z1 z2 z3=>?_⟩;rw[ag]at z1;refine⟨Cs++[Z],Bs,R,G9 h1 aa z2,λ B hB=>h2 B (by simp[hB]),h3,h4,by rw[yE,aN],by rw[yE,ag];omega,h7.trans ?_,?_⟩
  ·rw[show Cs.flatten++((B1::B2::Bs).flatten++R)=Cs.flatten++((B1++B2)++(Bs.flatten++R))by simp];exact(aK.dW _).app (z3.app (aK.dW _))
  ·rw[<-h8];simp only[ag,fY];omega
theorem LB {l row:List (Nat×β)}{n a:Nat}(h:qA l n a row)(hn:row.length<a+2*n)(h0:0<n)(ao:a+n<row.length):∃P X Y,row=P++(X++(Y++[]))/\P.length=a/\X.length=n/\0<Y.length/\a+n+Y.length=row.length/\aI X/\aI Y/\
 ∀Z,Z.length=(X++Y).length->aI Z->aK (X++Y) Z->qy l (2*n) (P++(Z++[])):=by
 obtain⟨Cs,Bs,R,h1,h2,h3,h4,rfl,h6,h7,h8⟩:=h;simp only[ag]at hn ao;match Bs,h2,h7,h8,hn,ao with
 |[],_,_,_,hn,ao=>simp only[fY,kK,ag,cL,bV]at ao;omega
 |B1::B2::Bs,h2,_,_,hn,_=>
  have a1:=(h2 B1 aj).1;have b1:=(h2 B2 aj).1;simp only[fY,kK,ag,cL,bV]at hn;omega
 |[B],h2,h7,h8,hn,ao=>
  obtain⟨a1,a2⟩:=h2 B aj;simp only[fY,kK,bV]at hn ao h7 h8⊢;refine⟨Cs.flatten,B,R,rfl,h6,a1,aa,by simp only[ag];omega,a2,h3,λ Z z1 z2 z3=>?_⟩;rw[ag]at z1;refine⟨Cs,Z,h1,z2,aa,rfl,h7.trans ((aK.dW _).app z3),?_⟩;rw[<-h8];simp only[ag];omega
theorem LC {l row:List (Nat×β)}{n a:Nat}(h:qA l n a row)(h0:0<n)(ao:row.length<=a+n):qy l (2*n) row:=by
 obtain⟨Cs,Bs,R,h1,h2,h3,h4,rfl,h6,h7,h8⟩:=h;simp only[ag]at ao;match Bs,h2,h7,h8,ao with
 |[],_,h7,h8,ao=>exact⟨Cs,R,h1,h3,aa,aj,h7,h8⟩
 |B1::B2::Bs,h2,_,_,ao=>
  have a1:=(h2 B1 aj).1;have b1:=(h2 B2 aj).1;simp only[fY,kK,ag,cL,bV]at ao;omega
 |[B],h2,h7,h8,ao=>
  obtain⟨a1,a2⟩:=h2 B aj;simp only[fY,kK,bV]at ao h7 h8⊢;have:R=[]:=dP aa;subst this;exact⟨Cs,B,h1,a2,aa,aj,h7,h8⟩
theorem LD {l row:List (Nat×β)}{n:Nat}(h:qy l n row)(hn:row.length<=n):row.length=l.length/\aI row/\aK l row:=by
 obtain⟨Bs,R,h1,h2,h3,rfl,h5,h6⟩:=h;refine⟨h6,?_,h5⟩;rw[ag]at hn;match Bs,h1,hn with
 |[],_,_=>simpa using h2
 |B1::B2::Bs,h1,hn=>
  have a1:=(h1 B1 aj).1;have b1:=(h1 B2 aj).1;simp only[fY,kK,ag,cL,bV]at hn;omega
 |[B],h1,hn=>
  obtain⟨a1,a2⟩:=h1 B aj;simp only[fY,kK,ag,cL,bV]at hn;have:R=[]:=dP aa;subst this;simpa using a2
end So
end
section
open So (aI aK aM)
theorem ahB {base ahead l:List aT}(hb:∀c∈base,c.2=false)(LF:aI base)(bu:aI (eJ ahead))(hl:aI l)(hs:aK (base++eJ ahead) l):yx base ahead l:=by
 have hp:=V4 ahead;have key:∀p:Nat,l.filter (λ x=>decide (x.1=p))=base.filter (λ x=>decide (x.1=p))++(eJ ahead).filter (λ x=>decide (x.1=p)):=λ p=>by rw[<-hs p,kI]
 have ahC:∀p:Nat,(f_ l).filter (λ x=>decide (x.1=p))=base.filter (λ x=>decide (x.1=p)):=λ p=>by
  unfold f_;rw[List.filter_filter,show(λ a:aT=>decide (a.1=p)&&!a.2)=(λ a:aT=>!a.2&&decide (a.1=p))from funext λ a=>Bool.and_comm _ _,<-List.filter_filter,key p,kI];have n1:(base.filter λ x=>decide (x.1=p)).filter (λ a=>!a.2)=base.filter λ x=>decide (x.1=p):=List.filter_eq_self.2 λ c hc=>by rw[hb c (pz.1 hc).1];rfl
  have n2:((eJ ahead).filter λ x=>decide (x.1=p)).filter (λ a=>!a.2)=[]:=rS.2 λ c hc=>by rw[hp c (pz.1 hc).1];simp
  rw[n1,n2,bV]
 have ahD:∀p:Nat,(eS l).filter (λ x=>decide (x.1=p))=(eJ ahead).filter (λ x=>decide (x.1=p)):=λ p=>by
  unfold eS;rw[List.filter_filter,show(λ a:aT=>decide (a.1=p)&&a.2)=(λ a:aT=>a.2&&decide (a.1=p))from funext λ a=>Bool.and_comm _ _,<-List.filter_filter,key p,kI];have n1:(base.filter λ x=>decide (x.1=p)).filter (λ a=>a.2)=[]:=rS.2 λ c hc=>by rw[hb c (pz.1 hc).1];simp
  have n2:((eJ ahead).filter λ x=>decide (x.1=p)).filter (λ a=>a.2)=(eJ ahead).filter λ x=>decide (x.1=p):=List.filter_eq_self.2 λ c hc=>by rw[hp c (pz.1 hc).1]
  rw[n1,n2,List.nil_append]
 refine⟨?_,So.E0 _ _ (List.Pairwise.filter _ hl) LF ahC,So.E0 _ _ (List.Pairwise.filter _ hl) bu ahD⟩;unfold tB;rw[List.pairwise_iff_forall_sublist];intro a b pH;have h1:¬aM b a:=(List.pairwise_iff_forall_sublist.1 hl) pH;refine⟨Nat.not_lt.1 h1,λ ha aC=>?_⟩;rcases gx a.1 b.1 with h|h
 ·exact h
 ·exfalso;have e:a.1=b.1:=Nat.le_antisymm (Nat.not_lt.1 h1) h;have h3:=pH.filter (λ x=>decide (x.1=a.1));rw[Gz aj,Gz (by simp[e]),Cr,key a.1]at h3;obtain⟨l1,l2,e2,h4,h5⟩:=List.sublist_append_iff.1 h3;match l1,e2 with
  |[],e2=>
   have:b∈eJ ahead:=(pz.1 (h5.subset (by rw[List.nil_append]at e2;rw[<-e2];simp))).1;rw[hp b this]at aC;cases aC
  |x::l1,e2=>
   have:a∈base:=(pz.1 (h4.subset (by rw[gU]at e2;rw[(yl e2).1];simp))).1;rw[hb a this]at ha;cases ha
theorem WI:∀(l:List aT),aI l->aI (eJ l)
 |[],_=>List.Pairwise.nil
 |[_],_=>List.Pairwise.nil
 |a::b::l,h=>by
  have h1:=lX.1 h;have h2:=lX.1 h1.2;rw[eJ];refine lX.2 ⟨λ c hc=>?_,WI l h2.2⟩
  have mem:∀(l:List aT) (c:aT),c∈eJ l->∃x∈l,∃y∈l,c.1=x.1+y.1:=by
   intro l;induction l using eJ.induct with
   |case1 a b l ih=>
    intro c hc;rw[eJ]at hc;rcases eW.1 hc with rfl|hc
    ·exact⟨a,aj,b,aj,rfl⟩
    ·obtain⟨x,hx,y,hy,e⟩:=ih c hc;exact⟨x,by simp[hx],y,by simp[hy],e⟩
   |case2 l hl=>
    intro c hc;rw[eJ.eq_2 _ hl]at hc
    cases hc
  obtain⟨x,hx,y,hy,e⟩:=mem l c hc;have g1:=h1.1 x (by simp[hx]);have g2:=h2.1 y hy;unfold aM at g1 g2⊢;show¬c.1<a.1+b.1;omega
end
section
open So (aI aK)
def jj (F:List Nat)(i:Nat):List Nat:=(List.range i).filter λ s=>decide (0<F.getD s 0)
theorem ahE {F:List Nat}{i:Nat}(h:0<F.getD i 0):jj F (i+1)=jj F i++[i]:=by
 unfold jj;rw[List.range_succ,kI,Gz (by simpa using h),Cr]
theorem ahF {F:List Nat}{i:Nat}(h:¬0<F.getD i 0):jj F (i+1)=jj F i:=by
 unfold jj;rw[List.range_succ,kI,List.filter_cons_of_neg (by simpa using h),Cr,bV]
theorem PU (F:List Nat)(i:Nat):(jj F i).length<=i:=by
 unfold jj;have:=List.length_filter_le (λ s=>decide (0<F.getD s 0)) (List.range i);rwa [List.length_range]at this
theorem PV {F:List Nat}{s:Nat}:s∈jj F F.length↔0<F.getD s 0:=by
 unfold jj;rw[pz,List.mem_range];constructor
 ·intro h;simpa using h.2
 ·intro h;exact⟨mU h,by simpa using h⟩
theorem ahG (F:List Nat)(i:Nat):(jj F i).Nodup:=List.nodup_range.filter _
def Ap (F:List Nat)(l:List Nat):List (Nat×Nat):=l.map λ s=>(F.getD s 0,s)
theorem ahH {X Z:List (Nat×Nat)}(h:aK X Z):Z.Perm X:=by
 rw[List.perm_iff_count];intro a;have h1:=h a.1;have e1:(Z.filter λ y=>decide (y.1=a.1)).count a=Z.count a:=List.count_filter aj;have e2:(X.filter λ y=>decide (y.1=a.1)).count a=X.count a:=List.count_filter aj;rw[<-e1,<-e2,h1]
def iV (Z:List (Nat×Nat)):List aT:=Z.map λ x=>(x.1,false)
theorem WJ (Z:List (Nat×Nat)):(iV Z).length=Z.length:=eG _
theorem LG (Z:List (Nat×Nat)):∀c∈iV Z,c.2=false:=λ c hc=>by
 obtain⟨x,_,rfl⟩:=kJ.1 hc;rfl
theorem ahI {Z:List (Nat×Nat)}(h:aI Z):aI (iV Z):=by
 unfold aI iV at*;rw[List.pairwise_map];exact h.imp λ h=>h
theorem WK {Z:List (Nat×Nat)}(h:aI Z):tB (iV Z):=by
 unfold aI at h;unfold tB iV;rw[List.pairwise_map];exact h.imp λ {a b} h=>⟨by unfold So.aM at h;omega,λ h=>by cases h⟩
structure PX (F:List Nat)(Z:List (Nat×Nat)):Prop where
 yy:aI Z
 nodup:(Z.map (·.2)).Nodup
 mem:∀s,s∈Z.map (·.2)↔0<F.getD s 0
 key:∀x∈Z,x.2<F.length/\x.1=F.getD x.2 0
 len:Z.length=(jj F F.length).length
theorem WL (F l:List Nat):(Ap F l).map (·.2)=l:=by
 unfold Ap;rw[yi];exact List.map_id' _
theorem WM {F:List Nat}{Z:List (Nat×Nat)}(hs:aI Z)(h:aK (Ap F (jj F F.length)) Z):PX F Z:=by
 have hp:=ahH h
 have dV:(Z.map (·.2)).Perm (jj F F.length):=by
  have:=hp.map (·.2);rwa [WL]at this
 refine⟨hs,dV.nodup_iff.2 (ahG _ _),λ s=>dV.mem_iff.trans PV,λ x hx=>?_,?_⟩
 ·obtain⟨s,hs,rfl⟩:=kJ.1 (hp.mem_iff.1 hx);exact⟨mU (PV.1 hs),rfl⟩
 ·rw[hp.length_eq];unfold Ap;rw[eG]
end
section
def jk (D:List (Nat×Nat×Nat))(i:Nat):List Nat:=(D.take i).foldl (λ l r=>bump l r.1) (List.replicate 19 0)
theorem G' {D:List (Nat×Nat×Nat)}{i:Nat}{r:Nat×Nat×Nat}(h:D[i]? =some r):jk D (i+1)=bump (jk D i) r.1:=by
 unfold jk;rw[eu,h,rT];rfl
theorem Aq (D:List (Nat×Nat×Nat)):∀i,(jk D i).length=19
 |0=>by unfold jk;rw[mM];exact cA
 |i+1=>by
  rcases gx i D.length with h|h
  ·rw[G' (aZ h),Lr,Aq D i]
  ·have e:jk D (i+1)=jk D i:=by unfold jk;rw[bQ aa,bQ h]
   rw[e,Aq D i]
theorem LH (D:List (Nat×Nat×Nat))(s:Nat):∀i,(jk D i).getD s 0<=i
 |0=>by unfold jk;rw[mM,zN,a_,nE];split<;>simp
 |i+1=>by
  rcases gx i D.length with h|h
  ·rw[G' (aZ h)];have h1:=(G5 (jk D i) D[i].1 s).2;have h2:=LH D s i;omega
  ·have e:jk D (i+1)=jk D i:=by unfold jk;rw[bQ aa,bQ h]
   rw[e];have h2:=LH D s i;omega
theorem ahJ (D:List (Nat×Nat×Nat))(s i:Nat):(jk D i).getD s 0<=(jk D (i+1)).getD s 0:=by
 rcases gx i D.length with h|h
 ·rw[G' (aZ h)];exact(G5 _ _ _).1
 ·have e:jk D (i+1)=jk D i:=by unfold jk;rw[bQ aa,bQ h]
  rw[e];exact ai _
theorem WN (D:List (Nat×Nat×Nat))(s i:Nat):∀k,(jk D i).getD s 0<=(jk D (i+k)).getD s 0
 |0=>ai _
 |k+1=>b_ (WN D s i k) (ahJ D s (i+k))
theorem ahK {D:List (Nat×Nat×Nat)}{r:Nat×Nat×Nat}(h:r∈D)(G_:r.1<19):0<(jk D D.length).getD r.1 0:=by
 obtain⟨i,hi⟩:=Ey h;have ao:=(fX.1 hi).1;have h1:=WN D r.1 (i+1) (D.length-(i+1));rw[show i+1+(D.length-(i+1))=D.length by omega,G' hi,G4 _ _ _ (by rw[Aq];exact G_),if_pos rfl]at h1;omega
structure Ha (s:List Nat)(l:List Tk)(lit aq lens sorted:List Nat):Prop where
 gl:dh lit
 gd:dh aq
 gn:dh lens
 l1:257<=lit.length
 l2:lit.length<=286
 d1:1<=aq.length
 d2:aq.length<=30
 LI:0<lit.getD 256 0
 has:∀t∈l,Has lit aq t
 run:∀r∈eK (lit++aq),0<lens.getD r.1 0
 n19:lens.length=19
 n7:∀x∈lens,x<=7
 so:lK (ie.map λ s=>lens.getD s 0) 4 sorted
theorem Ha.ahL {s:List Nat}{l:List Tk}{lit aq lens sorted:List Nat}(h:Ha s l lit aq lens sorted)(hT:gL s l s.length):sd s (Ak true lit aq lens sorted::(l.map (gA lit aq)++[bW lit 256])):=
 sd.WG l lit aq lens sorted hT h.gl h.gd h.gn h.l1 h.l2 h.d1 h.d2 h.LI h.has h.run h.n19 h.n7 h.so
theorem ahM {s:List Nat}{l:List Tk}{n:Nat}(hT:gL s l n){F1 F2 L1 L2 lit aq lens sorted:List Nat}(hF:l.foldl dK ((List.replicate 286 0).set 256 1,List.replicate 30 0)=(F1,F2))(h1:wX F1 15 L1)(h2:wX F2 15 L2)(t1:lK L1 257 lit)(t2:lK L2 1 aq)
 (h3:wX (jk (eK (lit++aq)) (eK (lit++aq)).length) 7 lens)(t3:lK (ie.map λ s=>lens.getD s 0) 4 sorted):Ha s l lit aq lens sorted:=by
 have hlen:=Ls l ((List.replicate 286 0).set 256 1,List.replicate 30 0);rw[hF]at hlen;have lL:F1.length=286:=hlen.1.trans (by rw[iP,cA]);have cI:F2.length=30:=hlen.2.trans cA;have qB:L1.length=286:=h1.len.trans lL;have nP:L2.length=30:=h2.len.trans cI;have g1:=t1.good h1.good;have g2:=t2.good h2.good
 have ao:∀x∈lit++aq,x<16:=λ x hx=>by
  rcases fE.1 hx with h|h
  ·have:=g1.le x h;omega
  ·have:=g2.le x h;omega
 refine⟨g1,g2,h3.good,t1.len.1,by have:=t1.len.2;omega,t2.len.1,by have:=t2.len.2;omega,?_,λ t ht=>?_,λ r hr=>?_,by rw[h3.len,Aq],h3.le,t3⟩
 ·rw[t1.get];refine h1.pos 256 ?_;have h:=(G6 256 l ((List.replicate 286 0).set 256 1,List.replicate 30 0)).1.1;rw[hF]at h
  have e:((List.replicate 286 0).set 256 1).getD 256 0=1:=by
   rw[a_,List.getElem?_set_self (by rw[cA];omega)];rfl
  rw[e]at h;exact h
 ·obtain⟨k,hk⟩:=Ey ht;obtain⟨m,_,bq,_⟩:=hT.at k t hk;have hh:=WD bq l ((List.replicate 286 0).set 256 1,List.replicate 30 0) (by rw[iP,cA]) cA ht;rw[hF]at hh;exact⟨λ h0=>by rw[t1.get];exact h1.pos _ (hh.1 h0),λ h0=>⟨by rw[t1.get];exact h1.pos _ (hh.2 h0).1,by rw[t2.get];exact h2.pos _ (hh.2 h0).2⟩⟩
 ·exact h3.pos _ (ahK hr (Lk _ ao r hr).1)
def qC (x k:Nat):Nat:=x*2^k%4294967296|||x/2^(32-k)
theorem Ar (x k:Nat)(h:x<4294967296):qC x k<4294967296:=by
 unfold qC;have h1:x*2^k%4294967296<2^32:=rR _ aA;have h2:x/2^(32-k)<2^32:=Nat.lt_of_le_of_lt (Nat.div_le_self _ _) h;exact uw h1 h2
def Hb (a b:Nat):Nat:=(a+b)%4294967296
def E1 (a b d:Nat):Nat:=qC (d^^^Hb a b) 16
def E2 (a b c d:Nat):Nat:=(c+E1 a b d)%4294967296
def E3 (a b c d:Nat):Nat:=qC (b^^^E2 a b c d) 12
def xc (a b c d:Nat):Nat:=(Hb a b+E3 a b c d)%4294967296
def xe (a b c d:Nat):Nat:=qC (E1 a b d^^^xc a b c d) 8
def xf (a b c d:Nat):Nat:=(E2 a b c d+xe a b c d)%4294967296
def Au (a b c d:Nat):Nat:=qC (E3 a b c d^^^xf a b c d) 7
def xg (s:List Nat)(q:Nat×Nat×Nat×Nat):List Nat:=
 let a:=s.getD q.1 0;let b:=s.getD q.2.1 0;let c:=s.getD q.2.2.1 0;let d:=s.getD q.2.2.2 0
 (((s.set q.1 (xc a b c d)).set q.2.1 (Au a b c d)).set q.2.2.1 (xf a b c d)).set q.2.2.2 (xe a b c d)
def ahN (i:Nat):Nat×Nat×Nat×Nat:=(i,4+i,8+i,12+i)
def WO (i:Nat):Nat×Nat×Nat×Nat:=(i,4+(i+1)%4,8+(i+2)%4,12+(i+3)%4)
def yF:Nat->List Nat->List Nat
 |0,s=>s
 |n+1,s=>xg (yF n s) (ahN n)
def uJ:Nat->List Nat->List Nat
 |0,s=>s
 |n+1,s=>xg (uJ n s) (WO n)
def uK:Nat->List Nat->List Nat
 |0,s=>s
 |n+1,s=>uJ 4 (yF 4 (uK n s))
def jU (s:List UInt8)(i:Nat):Nat:=(s.getD (4*i) 0).toNat|||(s.getD (4*i+1) 0).toNat*256|||(s.getD (4*i+2) 0).toNat*65536|||(s.getD (4*i+3) 0).toNat*16777216
def uL (key bJ:List UInt8)(bD:Nat):List Nat:=
 [1634760805,857760878,2036477234,1797285236]++((List.range 8).map (jU key)++(bD::(List.range 3).map (jU bJ)))
def xh (x:Nat):List UInt8:=[UInt8.ofNat x,UInt8.ofNat (x/256),UInt8.ofNat (x/65536),UInt8.ofNat (x/16777216)]
def xj (key bJ:List UInt8)(bD:Nat):List UInt8:=
 (List.zipWith (λ x y=>(x+y)%4294967296) (uK 10 (uL key bJ bD)) (uL key bJ bD)).flatMap xh
def Av (key bJ:List UInt8)(bD i:Nat):UInt8:=(xj key bJ (bD+i/64)).getD (i%64) 0
def pI (key bJ:List UInt8)(bD:Nat)(s:List UInt8):List UInt8:=s.mapIdx λ i b=>b^^^Av key bJ bD i
theorem He (key bJ:List UInt8)(bD:Nat)(s:List UInt8):(pI key bJ bD s).length=s.length:=by unfold pI;rw[uz]
theorem ahO (key bJ:List UInt8)(bD:Nat)(s:List UInt8):pI key bJ bD (pI key bJ bD s)=s:=by
 unfold pI;apply List.ext_getElem
 ·rw[uz,uz]
 ·intro i h1 h2;rw[Cw,Cw,UInt8.xor_assoc,UInt8.xor_self,UInt8.xor_zero]
theorem WQ (s:List Nat)(q:Nat×Nat×Nat×Nat):(xg s q).length=s.length:=by unfold xg;simp only[iP]
theorem LJ:∀(n:Nat) (s:List Nat),(yF n s).length=s.length
 |0,_=>rfl
 |n+1,s=>by rw[yF,WQ,LJ n]
theorem PY:∀(n:Nat) (s:List Nat),(uJ n s).length=s.length
 |0,_=>rfl
 |n+1,s=>by rw[uJ,WQ,PY n]
theorem LK:∀(n:Nat) (s:List Nat),(uK n s).length=s.length
 |0,_=>rfl
 |n+1,s=>by rw[uK,PY,LJ,LK n]
theorem WR (key bJ:List UInt8)(bD:Nat):(uL key bJ bD).length=16:=by simp[uL]
theorem ahP (a b c d:Nat)(ha:a<4294967296)(hb:b<4294967296)(hc:c<4294967296)(hd:d<4294967296):
 Hb a b<4294967296/\E1 a b d<4294967296/\E2 a b c d<4294967296/\E3 a b c d<4294967296/\xc a b c d<4294967296/\xe a b c d<4294967296/\xf a b c d<4294967296/\Au a b c d<4294967296:=by
 have LL:∀x y:Nat,x<4294967296->y<4294967296->x^^^y<4294967296:=λ x y hx hy=>py (n:=32) hx hy;have h1:Hb a b<4294967296:=rR _ aA;have h2:E1 a b d<4294967296:=Ar _ _ (LL _ _ hd h1);have h3:E2 a b c d<4294967296:=rR _ aA;have h4:E3 a b c d<4294967296:=Ar _ _ (LL _ _ hb h3);have h5:xc a b c d<4294967296:=rR _ aA;have h6:xe a b c d<4294967296:=Ar _ _ (LL _ _ h2 h5);have h7:xf a b c d<4294967296:=rR _ aA;exact⟨h1,h2,h3,h4,h5,h6,h7,Ar _ _ (LL _ _ h4 h7)⟩
def mg (s:List Nat):Prop:=∀x∈s,x<4294967296
theorem mg.get {s:List Nat}(h:mg s)(i:Nat):s.getD i 0<4294967296:=by
 rcases gx i s.length with h1|h1
 ·rw[a_,aZ h1];exact h _ (mN h1)
 ·rw[a_,s7 h1];exact(by decide:(0:Nat)<4294967296)
theorem mg.set {s:List Nat}(h:mg s)(i x:Nat)(hx:x<4294967296):mg (s.set i x):=λ y hy=>by
 rcases List.mem_or_eq_of_mem_set hy with h1|h1
 ·exact h y h1
 ·rw[h1];exact hx
theorem WS {s:List Nat}(h:mg s)(q:Nat×Nat×Nat×Nat):mg (xg s q):=by
 obtain⟨_,_,_,_,h5,h6,h7,h8⟩:=ahP _ _ _ _ (h.get q.1) (h.get q.2.1) (h.get q.2.2.1) (h.get q.2.2.2);exact(((h.set _ _ h5).set _ _ h8).set _ _ h7).set _ _ h6
theorem LM {s:List Nat}(h:mg s):∀n,mg (yF n s)
 |0=>h
 |n+1=>WS (LM h n) _
theorem PZ {s:List Nat}(h:mg s):∀n,mg (uJ n s)
 |0=>h
 |n+1=>WS (PZ h n) _
theorem P0 {s:List Nat}(h:mg s):∀n,mg (uK n s)
 |0=>h
 |n+1=>PZ (LM (P0 h n) 4) 4
theorem WT (s:List UInt8)(i:Nat):jU s i<4294967296:=by
 have hb:∀j,(s.getD j 0).toNat<256:=λ j=>(s.getD j 0).toNat_lt;unfold jU;have e:∀n:Nat,(n<4294967296)=(n<2^32):=λ _=>rfl;rw[e];refine uw (uw (uw ?_ ?_) ?_) ?_
 ·have:=hb (4*i);omega
 ·have:=hb (4*i+1);omega
 ·have:=hb (4*i+2);omega
 ·have:=hb (4*i+3);omega
theorem ahQ (key bJ:List UInt8)(bD:Nat)(h:bD<4294967296):mg (uL key bJ bD):=λ x hx=>by
 unfold uL at hx;simp only[fE,eW,kJ,List.not_mem_nil,or_false]at hx;rcases hx with(h1|h1|h1|h1)|⟨i,_,h1⟩|h1|⟨i,_,h1⟩
 ·omega
 ·omega
 ·omega
 ·omega
 ·rw[<-h1];exact WT _ _
 ·omega
 ·rw[<-h1];exact WT _ _
theorem LN (l:List Nat):(l.flatMap xh).length=4*l.length:=by
 induction l with
 |nil=>rfl
 |cons x l ih=>rw[wJ,ag,ih,aU,show(xh x).length=4 from rfl];omega
theorem ahR (key bJ:List UInt8)(bD:Nat):(xj key bJ bD).length=64:=by
 unfold xj;rw[LN,List.length_zipWith,LK,WR];rfl
theorem WU:∀(l:List Nat) (n:Nat),fS (l.take n)=(fS l).take (8*n):=λ l n=>by
 rcases Nat.le_total n l.length with h|h
 ·have e:fS l=fS (l.take n)++fS (l.drop n):=by rw[<-CU,gI]
  rw[e,te (by rw[uG,ba,lB h])]
 ·rw[bQ h,bQ (by rw[uG];omega)]
theorem WV (l:List Nat)(n:Nat)(h:n<=l.length):fS (l.drop n)=(fS l).drop (8*n):=by
 have e:fS l=fS (l.take n)++fS (l.drop n):=by rw[<-CU,gI]
 rw[e,List.drop_left' (by rw[uG,ba,lB h])]
theorem ahS (us:List (List Bool))(k:Nat):∃T,fS (fR us.flatten++List.replicate k 0)=us.flatten++T:=by
 rw[CU,tE,aN];exact⟨_,rfl⟩
theorem WY (us:List (List Bool))(h:1<=us.flatten.length):us.flatten.length<=8*(fR us.flatten).length/\8*((fR us.flatten).length-1)<us.flatten.length/\1<=(fR us.flatten).length:=by
 rw[Li];omega
theorem ahT {us:List (List Bool)}{n i:Nat}(h:1<=us.flatten.length)(hn:n=((fR us.flatten).length+191)/192)(hi:i+1<n):8*(192*(i+1))<us.flatten.length:=by
 have:=WY us h;omega
theorem ahU {us:List (List Bool)}{n:Nat}(h:1<=us.flatten.length)(hn:n=((fR us.flatten).length+191)/192):us.flatten.length<=8*(192*n):=by
 have:=WY us h;omega
theorem ahV {us:List (List Bool)}{used bit:Nat}(h:bX us us.length=8*used+bit)(hb:bit<8):(if 0<bit then used+1 else used)=(fR us.flatten).length:=by
 rw[WB us _ (ai _)]at h;rw[Li];split<;>omega
end
section
namespace Ev
open Go.RowKit Go.Lib
section
variable (P:Program)
noncomputable def ahW (m:Tm)(op:UnOp)(x:Operand):Option V3:=match op with
 | .not=>q6 m x
 | .neg=>q7 m x
 |_=>none
noncomputable def ahX (m:Tm)(fn:Fn)(first cs:Array Operand):Option V3:=match fn,first with
 | .func f,⟨[]⟩=>q9 m f cs
 |_,_=>none
noncomputable def ahY (s:S)(m:Tm)(t:TypeId)(x:Operand)(lo hi mx:Option Operand):Option V3:=match mx with
 |none=>EJ P s m t x lo hi
 |some _=>none
noncomputable def ahZ (s:S)(m:Tm)(b:Builtin)(args:Array Operand)(iC:Array TypeId):Option V3:=match b with
 | .len=>KO P s m args iC
 | .max=>KP m args
 | .min=>KQ m args
 |_=>none
noncomputable def ah0 (s:S)(m:Tm)(c:Call):Option V3:=match c with
 |⟨.builtin b,args,iC⟩=>ahZ P s m b args iC
 |_=>none
noncomputable def P1 (s:S)(m:Tm)(op:Op):Option V3:=match op with
 | .move x=>ev m x
 | .assign x=>ev m x
 | .pick c a b=>q1 m c a b
 | .build t ps=>q2 P m t ps
 | .load t a=>q3 P s m t a
 | .nilCheck x=>q4 m x
 | .binOp op t x y _=>q5 P m op t x y
 | .unOp op _ x=>ahW m op x
 | .convert src dst x=>q8 P s m src dst x
 | .makeFunc fn first cs=>ahX m fn first cs
 | .slice t x lo hi mx=>ahY P s m t x lo hi mx
 | .fieldAddr t x k=>KK P m t x k
 | .field t x k=>KL P m t x k
 | .indexAddr t x i=>iB P m t x i
 | .index t x i=>dg P s m t x i
 | .extract t k=>tq m t k
 | .lookup t x i ok=>KM P s m t x i ok
 | .entry it=>KN s m it
 | .call c=>ah0 P s m c
 |_=>none
theorem ah1 (s:S)(m:Tm)(o:Oper):P1 P s m o.op=quiet P s m o:=by
 unfold quiet P1
 cases o.op with
 |unOp op t x=>cases op<;>rfl
 |makeFunc fn first cs=>cases fn<;>(obtain⟨l⟩:=first;cases l)<;>rfl
 |slice t x lo hi mx=>cases mx<;>rfl
 |call c=>obtain⟨cl,args,iC⟩:=c;cases cl with
  |builtin b=>cases b<;>rfl
  |_=>rfl
 |_=>rfl
noncomputable def ah2 (s:S)(r:Option Operand):Option (V3×S):=match r with
 |none=>let r:=s.new (.m [] 0);some (.v (.o (.m r.1)),r.2)
 |some _=>none
noncomputable def ah3 (s:S)(m:Tm)(b:Builtin)(args:Array Operand)(iC:Array TypeId):Option (V3×S):=match b with
 | .clear=>l8 P s m args iC
 | .append=>l9 P s m args iC
 | .copy=>KR P s m args iC
 |_=>none
noncomputable def ah4 (s:S)(m:Tm)(c:Call):Option (V3×S):=match c with
 |⟨.builtin b,args,iC⟩=>ah3 P s m b args iC
 |_=>none
noncomputable def P2 (s:S)(m:Tm)(op:Op):Option (V3×S):=match op with
 | .alloc e=>l0 P s e
 | .box e x=>l1 s m e x
 | .buildSlice t n ps=>l2 P s m t n ps
 | .makeSlice t a b=>l3 P s m t a b
 | .makeMap _ r=>ah2 s r
 | .store t a x=>l5 P s m t a x
 | .mapUpdate t a k x=>l6 P s m t a k x
 | .range t x=>l7 P s m t x
 | .call c=>ah4 P s m c
 |_=>none
theorem ah5 (s:S)(m:Tm)(o:Oper):P2 P s m o.op=loud P s m o:=by
 unfold loud P2
 cases o.op with
 |makeMap t r=>cases r<;>rfl
 |call c=>obtain⟨cl,args,iC⟩:=c;cases cl with
  |builtin b=>cases b<;>rfl
  |_=>rfl
 |_=>rfl
end
section
variable (P:Program) (K:uA) (r:Do->Bool)
noncomputable def LO (m:Tm)(s:S)(op:Op)(k:V3->S->Bool):Bool:=match P1 P s m op with
 |some v=>k v s
 |none=>match P2 P s m op with
  |some (v,s)=>k v s
  |none=>false
noncomputable def LP (m:Tm)(s:S)(x:Operand)(k:V3->S->Bool):Bool:=match ev m x with
 |some v=>k v s
 |none=>false
noncomputable def WZ (m:Tm)(s:S)(f:Operand)(args:Array Operand)(k:V3->S->Bool):Bool:=match cW m f,oM m args.toList with
 |some (.f g l),some vs=>r (.call g (vs++l.map V0.up) s k)
 |_,_=>false
noncomputable def P3 (m:Tm)(s:S)(it:Operand)(b:Bool)(k:V3->S->Bool):Bool:=match b with
 |true=>false
 |false=>match cW m it with
  |some (.p x 0)=>match s.h.get x with
   |some (.it q n seen z)=>match s.h.get q with
    |some (.m es c)=>if !seen.isEmpty&&!es.isEmpty&&es.all (λ e=>z<=e.2.2)then false else let left:=es.filter λ e=>!seen.contains e.2.2
     if left.any λ e=>n<=e.2.2 then false else
     if left.isEmpty then k (.t [.o (.t false)]) {s with h:=s.h.set x none}else
     left.all λ e=>k (.t [.o (.t true),.o e.1,.o e.2.1]) (s.put x (.it q n (seen++[e.2.2]) c))
    |_=>false
   |_=>false
  |_=>false
noncomputable def W0 (m:Tm)(s:S)(c:Call)(k:V3->S->Bool):Bool:=match c with
 |⟨.value f,args,_⟩=>WZ r m s f args k
 |_=>LO P m s (.call c) k
noncomputable def C5 (m:Tm)(s:S)(op:Op)(k:V3->S->Bool):Bool:=match op with
 | .move x=>LP m s x k
 | .assign x=>LP m s x k
 | .call c=>W0 P r m s c k
 | .next it b=>P3 m s it b k
 |op=>LO P m s op k
theorem ah6 (m:Tm)(s:S)(o:Oper)(k:V3->S->Bool)(h:∀f args iC,o.op≠.call ⟨.value f,args,iC⟩)(h2:∀it,o.op≠.next it false):LO P m s o.op k=exec P r m s o k:=by
 unfold LO exec;rw[ah1,ah5]
 cases quiet P s m o with
 |some v=>rfl
 |none=>
  cases loud P s m o with
  |some v=>rfl
  |none=>
   dsimp only;split
   ·rename_i e;exact absurd e (h _ _ _)
   ·rename_i e;exact absurd e (h2 _)
   ·rfl
theorem ah7 (m:Tm)(s:S)(o:Oper)(k:V3->S->Bool):C5 P r m s o.op k=exec P r m s o k:=by
 have hg:=ah6 P r m s o k
 cases ho:o.op with
 |move x=>unfold exec C5 LP quiet;rw[ho];cases h:ev m x<;>simp[h,loud,ho]
 |assign x=>unfold exec C5 LP quiet;rw[ho];cases h:ev m x<;>simp[h,loud,ho]
 |call c=>
  obtain⟨cl,args,iC⟩:=c
  cases cl with
  |value f=>unfold exec C5 W0 WZ quiet loud;rw[ho]<;>rfl
  |_=>rw[ho]at hg;exact hg (λ _ _ _ h=>by cases h) (λ _ h=>by cases h)
 |next it b=>
  cases b with
  |true=>unfold exec C5 P3 quiet loud;rw[ho]
  |false=>unfold exec C5 P3 quiet loud;rw[ho]<;>rfl
 |_=>rw[ho]at hg;exact hg (λ _ _ _ h=>by cases h) (λ _ h=>by cases h)
noncomputable def Hf (m:Tm):Option Nat->Bool
 |some d=>Nat.ble (Nat.succ d) m.n
 |none=>true
theorem ah8 (m:Tm)(o:Oper):Hf m o.dst=fits m o:=by
 unfold fits Hf
 cases o.dst with
 |none=>rfl
 |some d=>
  show Nat.ble (d+1) m.n=decide (d<m.n);rw[Bool.eq_iff_iff,Nat.ble_eq,decide_eq_true_eq];exact Iff.rfl
noncomputable def uM (m:Tm)(d:Option Nat)(v:V3):Tm:=match d with
 |some d=>m.set d v
 |none=>m
noncomputable def LQ (all:Array Oper)(l:List Oper)(m:Tm)(s:S)(k:Tm->S->Bool)(o:Oper)(op:Op):Bool:=match op with
 | .defer _=>match deferred m o with
   |some d=>r (.ops all l (ft {m with d:=d::m.d} o (.t [])) s k)
   |none=>false
 |op=>C5 P r m s op λ v s=>r (.ops all l (ft m o v) s k)
noncomputable def LR (all:Array Oper)(l:List Oper)(m:Tm)(s:S)(k:Tm->S->Bool)(o:Oper)(g:Option (Nat×Bool)):Bool:=match g with
 |none=>LQ P r all l m s k o o.op
 |some _=>match want all m o with
  |some true=>LQ P r all l m s k o o.op
  |some false=>r (.ops all l (ft m o (.t [])) s k)
  |none=>false
noncomputable def W4 (all:Array Oper)(l:List Oper)(m:Tm)(s:S)(k:Tm->S->Bool):Bool:=match l with
 |[]=>k m s
 |o::l=>Bool.rec false (LR P r all l m s k o o.guard) (Hf m o.dst)
theorem ah9 (all:Array Oper)(l:List Oper)(m:Tm)(s:S)(k:Tm->S->Bool):W4 P r all l m s k=step P K r (.ops all l m s k):=by
 cases l with
 |nil=>rfl
 |cons o l=>
  have hE:LQ P r all l m s k o o.op=(match deferred m o with
   |some d=>r (.ops all l (ft {m with d:=d::m.d} o (.t [])) s k)
   |none=>exec P r m s o λ v s=>r (.ops all l (ft m o v) s k)):=by
   cases ho:o.op with
   |defer c=>
    unfold LQ;dsimp only
    cases hd:deferred m o with
    |some d=>rfl
    |none=>
     dsimp only;unfold exec quiet loud;rw[ho]
   |_=>
    have hd:deferred m o=none:=by unfold deferred;rw[ho]
    rw[hd];have:=ah7 P r m s o λ v s=>r (.ops all l (ft m o v) s k);rw[ho]at this;exact this
  show(Bool.rec false (LR P r all l m s k o o.guard) (Hf m o.dst):Bool)=_
  have hs:step P K r (.ops all (o::l) m s k)=(fits m o&&match want all m o with
   |some true=>match deferred m o with
    |some d=>r (.ops all l (ft {m with d:=d::m.d} o (.t [])) s k)
    |none=>exec P r m s o λ v s=>r (.ops all l (ft m o v) s k)
   |some false=>r (.ops all l (ft m o (.t [])) s k)
   |none=>false):=rfl
  rw[hs,<-ah8 m o]
  cases Hf m o.dst with
  |false=>rfl
  |true=>
   show LR P r all l m s k o o.guard=_;rw[Bool.true_and]
   cases hg:o.guard with
   |none=>
    have hw:want all m o=some true:=by unfold want;rw[hg]
    rw[hw];exact hE
   |some g=>
    unfold LR;dsimp only
    cases want all m o with
    |none=>rfl
    |some b=>cases b with
     |true=>exact hE
     |false=>rfl
noncomputable def W5 (b:Code)(k:Ex->Tm->S->Bool)(e:Ex)(m:Tm)(s:S):Bool:=match e with
 | .n=>r (.code b m s k)
 |e=>k e m s
noncomputable def aia (i:Nat)(k:Ex->Tm->S->Bool)(e:Ex)(m:Tm)(s:S):Bool:=match e with
 | .x j=>if j=i then k .n m s else k (.x j) m s
 |e=>k e m s
noncomputable def W6 (a b:Code)(m:Tm)(s:S)(k:Ex->Tm->S->Bool)(v:Option V1):Bool:=match v with
 |some (.t b')=>Bool.rec (r (.code b m s k)) (r (.code a m s k)) b'
 |_=>false
noncomputable def aib (ops:Array Oper)(d:Bool)(m:Tm)(s:S)(k:Ex->Tm->S->Bool):Bool:=match d with
 |false=>r (.ops ops ops.toList m s (k .n))
 |true=>if !(ops.toList.all (fits m)&&apart ops (oN ops.toList []))then false else match pre P ops.toList s.n s.h with
  |some h=>r (.zS ops ((List.range ops.size).filter λ i=>(ops[i]?).any km) s.n 0 m {h:=h,n:=s.n+ops.size} (k .n))
  |none=>false
noncomputable def codeF (c:Code)(m:Tm)(s:S)(k:Ex->Tm->S->Bool):Bool:=match c with
 | .skip=>k .n m s
 | .label _=>k .n m s
 | .seq a b=>r (.code a m s (W5 r b k))
 | .cond c a b=>W6 r a b m s k (cW m c)
 | .block i c=>r (.code c m s (aia i k))
 | .loop c=>r (.code c m s (W5 r (.loop c) k))
 | .scope c=>r (.code c m s k)
 | .exit i=>k (.x i) m s
 | .ret=>k .r m s
 | .region _ ops d=>aib P r ops d m s k
 |_=>false
theorem codeF_eq (c:Code)(m:Tm)(s:S)(k:Ex->Tm->S->Bool):codeF P r c m s k=step P K r (.code c m s k):=by
 cases c with
 |seq a b=>
  unfold codeF step;dsimp only;congr 2;funext e m s;cases e<;>rfl
 |cond c a b=>
  unfold codeF step W6;dsimp only
  cases cW m c with
  |none=>rfl
  |some v=>cases v with
   |t b=>cases b<;>rfl
   |_=>rfl
 |block i c=>
  unfold codeF step;dsimp only;congr 2;funext e m s;cases e<;>rfl
 |loop c=>
  unfold codeF step;dsimp only;congr 2;funext e m s;cases e<;>rfl
 |region id ops d=>cases d<;>rfl
 |_=>rfl
noncomputable def W7 (c:Option Code)(fn:Func)(ar:List V2)(s:S)(k:V3->S->Bool):Bool:=match c with
 |some c=>r (.code c (args ar 0 {t:=.e,n:=fn.ntmps,d:=[]}) s λ
  | .x _,_,_=>false
  |_,m,s=>r (.leave m.d m s fn.results.toList k))
 |none=>false
noncomputable def W8 (f:Option Func)(ar:List V2)(s:S)(k:V3->S->Bool):Bool:=match f with
 |some fn=>W7 r fn.body fn ar s k
 |none=>false
noncomputable def P5 (f:Nat)(ar:List V2)(s:S)(k:V3->S->Bool):Bool:=match K f ar s with
 |some (v,s)=>k v s
 |none=>W8 r ((EH P).get f) ar s k
theorem aic (f:Nat)(ar:List V2)(s:S)(k:V3->S->Bool):P5 P K r f ar s k=step P K r (.call f ar s k):=by
 unfold P5 step;dsimp only
 cases K f ar s with
 |some v=>rfl
 |none=>
  dsimp only;unfold W8
  cases(EH P).get f with
  |none=>rfl
  |some fn=>
   dsimp only;unfold W7
   cases fn.body<;>rfl
noncomputable def P6 (d:Do):Bool:=match d with
 | .code c m s k=>codeF P r c m s k
 | .ops all l m s k=>W4 P r all l m s k
 | .call f ar s k=>P5 P K r f ar s k
 |d=>step P K r d
theorem aid (d:Do):P6 P K r d=step P K r d:=by
 cases d with
 |code c m s k=>exact codeF_eq P K r c m s k
 |ops all l m s k=>exact ah9 P K r all l m s k
 |call f ar s k=>exact aic P K r f ar s k
 |_=>rfl
end
noncomputable def P7 (P:Program)(K:uA)(n:Nat):Do->Bool:=Nat.rec (λ _=>false) (λ _ h d=>P6 P K h d) n
theorem aie (P:Program)(K:uA):∀n,P7 P K n=run P K n:=by
 intro n;induction n with
 |zero=>rfl
 |succ n ih=>
  funext d;show P6 P K (P7 P K n) d=step P K (run P K n) d;rw[ih,aid]
end Ev
