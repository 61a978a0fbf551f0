/- Texts joined. -/
import Init
import Derived.WalkKit
import Derived.WalkLawsBesides
import Derived.WalkSpells
import Derived.ChangeKeysEq
import Derived.StillTail
import Derived.OrdersHeld
import Derived.Scope
set_option linter.unusedVariables false
set_option linter.unusedSimpArgs false
abbrev zA:=@if_neg
abbrev zB:=@if_pos
abbrev zC:=@List.mem_map
abbrev zD:=@Nat.le_refl
abbrev zE:=@List.mem_of_getElem?
abbrev zF:=@Bool.and_eq_true
abbrev zG:=@Nat.zero_add
abbrev zH:=@List.mem_filter
abbrev zI:=@Nat.le_trans
abbrev zJ:=@List.map_cons
abbrev zK:=@List.length_append
abbrev zL:=@List.getD_eq_getElem?_getD
abbrev zM:=@List.getElem?_set_self
abbrev zN:=@List.getElem?_of_mem
abbrev zO:=@List.length_take
abbrev zP:=@List.length_cons
abbrev zQ:=@List.mem_cons
abbrev zR:=@List.mem_append
abbrev zS:=@decide_eq_true_eq
abbrev zT:=@if_true
abbrev zU:=@List.mem_range
abbrev zV:=@decide_eq_true
abbrev zW:=@List.mem_singleton
abbrev zX:=@beq_iff_eq
abbrev zY:=@List.getElem?_take
abbrev zZ:=@List.getElem?_eq_none
abbrev za:=@List.length_map
abbrev zb:=@Bool.false_eq_true
abbrev zc:=@List.getElem_mem
abbrev zd:=@List.getElem?_append_left
abbrev ze:=@List.getElem?_map
abbrev zf:=@Option.map_some
abbrev zg:=@List.take_add_one
abbrev zh:=@decide_eq_false
abbrev zi:=@Int.eq_ofNat_of_zero_le
abbrev zj:=@List.getElem?_set_ne
abbrev zk:=@Nat.add_mul
abbrev zl:=@List.take_length
abbrev zm:=@List.sum_cons
abbrev zn:=@List.getElem?_append_right
abbrev zo:=@List.getElem?_drop
abbrev zp:=@List.nodup_cons
abbrev zq:=@Nat.add_zero
abbrev zr:=@List.length_drop
abbrev zt:=@List.map_map
abbrev zu:=@List.map_append
abbrev zw:=@if_false
abbrev zy:=@List.ext_getElem?
abbrev zz:=@List.range_succ
abbrev ka:=@List.any_eq_true
abbrev j9:=@List.append_nil
abbrev kJ:=@List.append_assoc
abbrev kD:=@List.map_congr_left
abbrev kM:=@List.all_eq_true
abbrev kP:=@List.pairwise_iff_getElem
abbrev kL:=@List.mem_cons_of_mem
abbrev kO:=@Nat.mul_le_mul
abbrev lb:=@Nat.two_pow_pos
abbrev kX:=@List.mem_cons_self
abbrev lp:=@List.foldl_cons
abbrev lB:=@Nat.mul_le_mul_right
abbrev lD:=@Nat.eq_of_beq_eq_true
abbrev lL:=@List.cons_append
abbrev ma:=@Nat.lt_or_ge
abbrev mc:=@List.mem_of_mem_take
abbrev mh:=@List.length_nil
abbrev mA:=@Array.getElem?_eq_some_iff
abbrev mR:=@List.pairwise_cons
abbrev mO:=@List.flatMap_cons
abbrev mN:=@List.foldl_append
abbrev mS:=@Bool.eq_false_iff
abbrev nr:=@List.getElem?_replicate
abbrev nk:=@Nat.pow_succ
abbrev nj:=@Bool.not_eq_true'
abbrev m7:=@List.any_eq_false
abbrev ng:=@List.take_of_length_le
abbrev m5:=@List.length_filter_le
abbrev m0:=@beq_eq_false_iff_ne
abbrev nG:=@Bool.eq_iff_iff
abbrev nu:=@List.take_append_drop
abbrev nB:=@List.mem_append_left
abbrev nA:=@Nat.zero_lt_one
abbrev oF:=@List.findIdx?_eq_some_iff_getElem
abbrev ov:=@List.getElem?_set
abbrev ox:=@Nat.mul_one
abbrev oD:=@List.nodup_append
abbrev oz:=@List.filter_eq_self
abbrev nV:=@Bool.or_eq_true
abbrev oh:=@List.find?_eq_none
abbrev oc:=@List.getElem?_range
abbrev ot:=@List.set_set
abbrev oK:=@Nat.pow_le_pow_right
abbrev oR:=@List.length_set
abbrev oV:=@Option.getD_some
abbrev oQ:=@List.length_range
abbrev pI:=@List.map_nil
abbrev pq:=@List.pairwise_append
abbrev pV:=@List.mem_append_right
abbrev oZ:=@List.nil_append
abbrev pd:=@List.take_append_of_le_length
abbrev pW:=@Nat.sub_self
abbrev pS:=@of_decide_eq_true
abbrev qx:=@Nat.lt_trichotomy
abbrev qj:=@Option.isSome_iff_exists
abbrev qB:=@Nat.min_eq_left
abbrev qh:=@List.drop_eq_getElem_cons
abbrev qn:=@Nat.add_assoc
abbrev qz:=@List.length_pos_iff
abbrev qo:=@List.sum_append
abbrev ri:=@Int.le_refl
abbrev qD:=@List.countP_cons
abbrev qH:=@Option.map_eq_some_iff
abbrev rK:=@List.filter_cons
abbrev qQ:=@List.mem_of_mem_drop
abbrev qR:=@Bool.not_eq_true
abbrev qL:=@List.pairwise_map
abbrev rr:=@Option.map_eq_none_iff
abbrev rq:=@List.mem_flatMap
abbrev rl:=@List.nodup_nil
abbrev sf:=@Nat.le_of_lt
abbrev sq:=@List.filter_sublist
abbrev sv:=@List.getElem_map
abbrev si:=@Array.getD_eq_getD_getElem?
abbrev rQ:=@List.contains_eq_mem
abbrev sH:=@Bool.and_false
abbrev sG:=@List.set_cons_succ
abbrev sy:=@List.take_succ_cons
abbrev sg:=@of_decide_eq_false
abbrev uc:=@Nat.mod_lt
abbrev uh:=@Nat.div_div_eq_div_mul
abbrev tO:=@List.getElem?_modify
abbrev tz:=@Nat.zero_mul
abbrev tu:=@List.contains_iff_mem
abbrev sN:=@Bool.and_true
abbrev ue:=@List.find?_some
abbrev tQ:=@List.mem_of_find?_eq_some
abbrev tB:=@Option.toList_some
abbrev tJ:=@List.map_replicate
abbrev uD:=@Bool.false_and
abbrev sZ:=@List.map_set
abbrev uB:=@List.filter_cons_of_neg
abbrev tF:=@List.filter_cons_of_pos
abbrev tZ:=@List.length_singleton
abbrev td:=@true_and
abbrev vH:=@List.countP_append
abbrev uY:=@List.find?_cons
abbrev vt:=@List.all_cons
abbrev vB:=@List.findIdx?_eq_none_iff
abbrev vu:=@List.flatten_cons
abbrev uM:=@Nat.mod_eq_of_lt
abbrev uL:=@Nat.mul_eq_zero
abbrev uV:=@List.getElem_of_mem
abbrev vq:=@List.filterMap_append
abbrev vw:=@List.mem_filterMap
abbrev vn:=@Nat.lt_of_lt_of_le
abbrev vC:=@List.length_flatten
abbrev vf:=@List.sum_replicate_nat
abbrev vO:=@Bool.decide_and
abbrev vj:=@List.countP_le_length
abbrev uI:=@List.count_append
abbrev vM:=@List.count_le_length
abbrev uN:=@List.filter_append
abbrev vL:=@Bool.true_and
abbrev uP:=@List.getElem?_cons_zero
abbrev wb:=@List.findIdx?_cons
abbrev wa:=@List.map_id
abbrev xe:=@Nat.mul_assoc
abbrev xl:=@Nat.ne_of_lt
abbrev vU:=@Array.length_toList
abbrev vW:=@Nat.eq_of_mul_eq_mul_right
abbrev xp:=@List.perm_ext_iff_of_nodup
abbrev xB:=@List.nodup_range
abbrev xP:=@List.countP_eq_length_filter
abbrev wR:=@Nat.eq_zero_or_pos
abbrev w9:=@List.replicate_succ
abbrev xE:=@List.takeWhile_cons
abbrev xj:=@List.mem_or_eq_of_mem_set
abbrev xO:=@List.count_eq_zero
abbrev yI:=@Nat.div_mul_le_self
abbrev y7:=@List.map_eq_nil_iff
abbrev yX:=@Array.getElem?_toList
abbrev An:=@Array.getElem?_setIfInBounds_ne
abbrev yB:=@List.mem_map_of_mem
abbrev xX:=@List.mem_replicate
abbrev yD:=@Array.getElem?_push
abbrev Ac:=@List.filter_congr
abbrev Ad:=@Option.bind_some
abbrev yN:=@Bool.false_or
abbrev zv:=@Bool.not_false
abbrev yh:=@Array.getElem?_modify
abbrev yJ:=@List.getElem?_cons_succ
abbrev Ai:=@List.set_append_right
abbrev Ag:=@List.count_replicate
abbrev xY:=@List.take_take
abbrev yz:=@List.take_left'
abbrev yw:=@List.drop_succ_cons
abbrev Ah:=@List.dropLast_eq_take
abbrev Ab:=@List.range_succ_eq_map
abbrev Au:=@List.take_zero
abbrev xW:=@List.length_eq_zero_iff
abbrev yp:=@List.findIdx?_eq_some_iff_findIdx_eq
abbrev ya:=@List.size_toArray
abbrev Dh:=@Nat.mul_div_cancel
abbrev BL:=@List.countP_congr
abbrev Cy:=@Nat.le_mul_of_pos_right
abbrev Bd:=@Array.mem_of_getElem?
abbrev DQ:=@Array.toList_modify
abbrev BN:=@Array.toList_eraseIdxIfInBounds
abbrev Dt:=@List.replicate_succ'
abbrev AX:=@List.flatten_append
abbrev CX:=@List.filter_filter
abbrev AZ:=@List.filterMap_cons
abbrev DE:=@Array.getElem?_append_left
abbrev Dm:=@List.length_dropLast
abbrev DL:=@List.eq_nil_of_length_eq_zero
abbrev DI:=@Nat.add_sub_cancel_left
abbrev Av:=@List.flatMap_append
abbrev Ch:=@List.take_sublist
abbrev D7:=@List.dropWhile_cons
abbrev DS:=@List.drop_sublist
abbrev CZ:=@List.find?_isSome
abbrev Cu:=@List.eq_of_mem_replicate
abbrev Cr:=@List.takeWhile_append_dropWhile
abbrev CG:=@List.takeWhile_cons_of_neg
abbrev Bn:=@List.drop_eq_nil_of_le
abbrev DH:=@Nat.add_sub_cancel
abbrev C8:=@List.zip_cons_cons
abbrev DM:=@List.getElem?_zipWith
abbrev Cg:=@List.nodup_iff_count
abbrev CO:=@List.count_pos_iff
abbrev C0:=@List.count_singleton_self
abbrev BU:=@Int.mul_le_mul_of_nonneg_left
theorem cQ {α:Type _}{l:List α}{i:Nat}{a:α}:l[i]?=some a↔∃h:i<l.length,l[i]=a:=List.getElem?_eq_some_iff
theorem cM {α:Type _}{l:List α}{i:Nat}(h:i<l.length):l[i]?=some l[i]:=List.getElem?_eq_getElem h
theorem dC (n:Nat):(n:Int).toNat=n:=Int.toNat_natCast n
theorem O{p:Prop}(h:p:=by omega):p:=h
theorem aA{p:Prop}(h:p:=by simp):p:=h
theorem aB{p:Prop}(h:p:=by decide):p:=h
theorem aC{p:Prop}(h:p:=by simp only;omega):p:=h
theorem aD{p:Prop}(h:p:=by first|omega | (simp only;omega)):p:=h
theorem aE{p:Prop}(h:p:=by simp;omega):p:=h
abbrev aW(b:Nat):Option Go.Addr:=some ⟨b,0,none⟩
namespace Go.Ar
structure bW where
 size:Nat
 aF:Nat
 batch:Nat
 deriving DecidableEq
def bW.n (c:bW):Nat:=c.aF*256/c.size
def bW.tail (c:bW):Nat:=c.aF*256-c.n*c.size
def Uy (x y z:Int):Bool:=decide (8<=x)&&(decide (x<=512)&&(decide (x%8=0)&&(decide (1<=y)&&(decide (y<=4)&&(decide (x<=y*256)&&(decide (1<=z)&&decide (z<=32)))))))
def bW.ok (c:bW):Prop:=8<=c.size/\c.size<=512/\c.size%8=0/\1<=c.aF/\c.aF<=4/\c.size<=c.aF*256/\1<=c.batch/\c.batch<=32
theorem Hv (x y z:Int):Uy x y z=true↔8<=x/\x<=512/\x%8=0/\1<=y/\y<=4/\x<=y*256/\1<=z/\z<=32:=by simp[Uy]
theorem Uo (c:bW):Uy c.size c.aF c.batch=true↔c.ok:=by
 rw[Hv];unfold bW.ok;omega
def ZV (t:Int×Int×Int):bW:=⟨t.1.toNat,t.2.1.toNat,t.2.2.toNat⟩
theorem yZ {x y z:Int}(h:Uy x y z=true):∃c:bW,c.ok/\ZV (x,y,z)=c/\x=c.size/\y=c.aF/\z=c.batch:=by
 rw[Hv]at h;refine⟨ZV (x,y,z),?_,rfl,?_,?_,?_⟩<;>simp only[ZV,bW.ok]<;>omega
def uX:List (Int×Int×Int)->Bool
 | x::y::l=>decide (x.1<y.1)&&uX (y::l)
 | _=>true
def Qd (xs:List (Int×Int×Int)):Bool:=decide (1<=xs.length)&&(decide (xs.length<=40)&&(xs.all (λt=>Uy t.1 t.2.1 t.2.2)&&uX xs))
theorem bW.ok.lr {c:bW}(h:c.ok):1<=c.n:=by
 unfold bW.ok at h;exact(Nat.one_le_div_iff O).2 h.2.2.2.2.2.1
theorem bW.ok.jg {c:bW}(h:c.ok):c.n<=128:=by
 unfold bW.ok at h;unfold bW.n;have:c.aF*256/c.size<=1024/8:=Nat.div_le_div O O O;omega
theorem bW.pT (c:bW):c.n*c.size<=c.aF*256:=yI _ _
structure cH where
 st:Nat
 tk:List Bool
 deriving DecidableEq
def cH.many (s:cH):Nat:=s.tk.count true
def idx (c:bW)(s:cH)(x:Int):Option Nat:=if x<((s.st*256:Nat):Int)\/((s.st*256+s.tk.length*c.size:Nat):Int)<=x then none else some ((x-((s.st*256:Nat):Int)).toNat/c.size)
def at_ (c:bW)(s:cH)(i:Nat):Nat:=s.st*256+i*c.size
def obj (c:bW)(s:cH)(x:Int):Option Nat:=match idx c s x with
 | some i=>if x=((at_ c s i:Nat):Int)then some i else none
 | none=>none
theorem V1 {c:bW}{s:cH}{x:Int}{i:Nat}(hc:0<c.size):idx c s x=some i↔((at_ c s i:Nat):Int)<=x/\x<((at_ c s (i+1):Nat):Int)/\i<s.tk.length:=by
 unfold idx at_;constructor
 ·intro h;split at h
  ·cases h
  ·rename_i hn;cases h;obtain⟨y,rfl⟩:=zi (show 0<=x by omega);have e:((y:Int)-((s.st*256:Nat):Int)).toNat=y-s.st*256:=by omega
   rw[e];have g:(y-s.st*256)/c.size*c.size<=y-s.st*256:=yI _ _;have d:=Nat.lt_div_mul_add (a:=y-s.st*256) hc;have b:(y-s.st*256)/c.size<s.tk.length:=(Nat.div_lt_iff_lt_mul hc).2 O;rw[zk];omega
 ·rintro⟨g,d,b⟩;obtain⟨y,rfl⟩:=zi (show 0<=x by omega);have j:(i+1)*c.size<=s.tk.length*c.size:=lB _ b;rw[zA O];have e:((y:Int)-((s.st*256:Nat):Int)).toNat=y-s.st*256:=by omega
  rw[e]
  congr 1
  rw[zk]at d;refine Nat.div_eq_of_lt_le ?_ ?_
  ·omega
  ·rw[zk];omega
theorem UF {c:bW}{s:cH}{x:Int}{i:Nat}(hc:0<c.size):obj c s x=some i↔x=((at_ c s i:Nat):Int)/\i<s.tk.length:=by
 unfold obj;constructor
 ·intro h;split at h
  ·rename_i j hj;split at h
   ·cases h;rename_i he;exact⟨he,((V1 hc).1 hj).2.2⟩
   ·cases h
  ·cases h
 ·rintro⟨rfl,hi⟩;have:idx c s ((at_ c s i:Nat):Int)=some i:=(V1 hc).2 ⟨ri _,by unfold at_;rw[zk];omega,hi⟩;rw[this];simp
def low (s:cH):Option Nat:=s.tk.findIdx? (· == false)
def cH.put (s:cH)(i:Nat)(v:Bool):cH:={s with tk:=s.tk.set i v}
def ln (c:bW)(ss:List cH)(x:Int):Option Nat:=ss.findIdx? λs=>(idx c s x).isSome
def eD (c:bW)(ss:List cH)(x:Int):Option Bool:=match ln c ss x with
 | some k=>match ss[k]? with
  | some s=>(obj c s x).map λi=>s.tk.getD i false
  | none=>none
 | none=>none
def wh (x y:cH):Bool:=decide (x.many>y.many)||(x.many==y.many&&decide (x.st<y.st))
def Zv (ss:List cH):Nat->Option Nat
 | 0=>none
 | k+1=>match ss[k]? with
  | some x=>if x.many<x.tk.length then(match Zv ss k with
   | some j=>match ss[j]? with
    | some y=>if wh x y then some k else some j
    | none=>some k
   | none=>some k)else Zv ss k
  | none=>Zv ss k
def nf (ss:List cH):Option Nat:=Zv ss ss.length
def ju (c:bW)(ss:List cH):Option (Nat×List cH):=match nf ss with
 | some k=>match ss[k]? with
  | some s=>match low s with
   | some i=>some (at_ c s i,ss.set k (s.put i true))
   | none=>none
  | none=>none
 | none=>none
def Q7 (c:bW):Nat->List cH->List Nat×List cH
 | 0,ss=>([],ss)
 | m+1,ss=>match ju c ss with
  | some (x,ss')=>let r:=Q7 c m ss';(x::r.1,r.2)
  | none=>([],ss)
def iV (c:bW)(ss:List cH)(xs:List Int):Int:=
 if xs.any (λx=>(eD c ss x).isNone)then 8 else if xs.any (λx=>eD c ss x==some false) || !decide xs.Nodup then 9 else 0
def fK (c:bW)(ss:List cH)(x:Int):List cH:=match ln c ss x with
 | some k=>match ss[k]? with
  | some s=>match obj c s x with
   | some i=>ss.set k (s.put i false)
   | none=>ss
  | none=>ss
 | none=>ss
def cJ (ss:List cH):List cH:=ss.filter λs=>s.many != 0
def Z8 (ss:List cH):List Nat:=(ss.filter λs=>s.many==0).map (·.st)
def q8 (c:bW)(ss:List cH)(x:Int):Option Nat:=match ln c ss x with
 | some k=>match ss[k]? with
  | some s=>(idx c s x).map (at_ c s)
  | none=>none
 | none=>none
def iy (c:bW)(ss:List cH)(st:Nat):List cH:=ss.takeWhile (λs=>s.st<st)++⟨st,List.replicate c.n false⟩::ss.dropWhile (λs=>s.st<st)
def GT (c:bW)(ss:List cH)(x:Nat):Int:=if ss.any (λs=>max s.st x-min s.st x<c.aF)then 9 else 0
def Kv (ss:List cH):Nat:=(ss.map λs=>s.tk.length-s.many).sum
structure fP where
 low:Nat
 bs:List (List Int)
 deriving DecidableEq
def fW {α:Type}(l:List α)(a b:Nat)(v:α):List α:=l.mapIdx λi x=>if a<=i/\i<b then v else x
theorem Qj {α:Type}(l:List α)(a b:Nat)(v:α):(fW l a b v).length=l.length:=by simp[fW]
theorem HF {α:Type}(l:List α)(a b:Nat)(v:α)(i:Nat):(fW l a b v)[i]?=(l[i]?).map λx=>if a<=i/\i<b then v else x:=by
 simp[fW,List.getElem?_mapIdx]
theorem WnU {α:Type}{l:List α}{a b:Nat}{v:α}(h1:a<=b)(h2:b<=l.length):fW l a b v=l.take a++List.replicate (b-a) v++l.drop b:=by
 apply zy;intro i;rw[HF];rcases ma i a with h|h
 ·rw[kJ,zd aE,zY,zB h];have:l[i]?=some l[i]:=cM O;rw[this];simp;omega
 rcases ma i b with h'|h'
 ·rw[kJ,zn aE,zd aE];have:l[i]?=some l[i]:=cM O;rw[this];simp[nr,h,h'];omega
 ·rw[zn aE];have e:i-(l.take a++List.replicate (b-a) v).length=i-b:=by simp;omega
  rw[e,zo,show b+(i-b)=i by omega];cases l[i]?<;>simp;omega
def gA (l:List Nat)(a b v:Nat):Nat:=((l.drop a).take (b-a)).count v
end Go.Ar
namespace Go.Bu
def full (S:Nat->Bool)(k q:Nat):Bool:=(List.range (2^k)).all λi=>S (q*2^k+i)
def can (S:Nat->Bool)(k q:Nat):Bool:=full S k q && !full S (k+1) (q/2)
theorem He {k q i:Nat}(hi:i<2^k):(q*2^k+i)/2^k=q:=by
 rw[Nat.add_comm,Nat.add_mul_div_right _ _ (lb k),Nat.div_eq_of_lt hi,zG]
theorem GP {k q p:Nat}(h:p/2^k=q):p=q*2^k+p%2^k:=by
 rw[←h,Nat.mul_comm];exact(Nat.div_add_mod p (2^k)).symm
theorem Qe {k q p:Nat}:p/2^k=q↔q*2^k<=p/\p<q*2^k+2^k:=by
 have a:=lb k;constructor
 ·intro h;have:=GP h;have b:=uc p a;omega
 ·rintro⟨h1,h2⟩;have:p=q*2^k+(p-q*2^k):=by omega
  rw[this];exact He O
theorem YP {S:Nat->Bool}{k q:Nat}:full S k q=true↔∀p,p/2^k=q->S p=true:=by
 simp only[full,kM,zU];constructor
 ·intro h p hp;have:=h (p%2^k) (uc _ (lb k))
  rwa [←GP hp]at this
 ·intro h i hi;exact h _ (He hi)
theorem ZL {S:Nat->Bool}{k q:Nat}:can S k q=true↔full S k q=true/\¬full S (k+1) (q/2)=true:=by
 simp[can]
theorem ta {p k j:Nat}(h:k<=j):p/2^j=p/2^k/2^(j-k):=by
 rw[uh,←Nat.pow_add]
 congr 2;omega
theorem ID {S:Nat->Bool}{k j q:Nat}(h:k<=j)(hf:full S j (q/2^(j-k))=true):full S k q=true:=by
 rw[YP]at hf ⊢;intro p hp;exact hf p (by rw[ta h,hp])
theorem E7 {q k j:Nat}(h:k<j):q/2/2^(j-(k+1))=q/2^(j-k):=by
 rw[uh]
 congr 1
 rw[←Nat.pow_succ']
 congr 1;omega
theorem QT {S:Nat->Bool}{k j q r p:Nat}(hk:can S k q=true)(hj:full S j r=true)(hp:p/2^k=q)(hr:p/2^j=r)(h:k<j):False:=by
 rw[ZL]at hk;refine hk.2 (ID (j:=j) O ?_);rw[E7 h,←hp,←ta (sf h),hr];exact hj
theorem H5 {S:Nat->Bool}{k j q r p:Nat}(hk:can S k q=true)(hj:can S j r=true)(hp:p/2^k=q)(hr:p/2^j=r):k=j/\q=r:=by
 rcases qx k j with h|h|h
 ·exact(QT hk (ZL.1 hj).1 hp hr h).elim
 ·subst h;exact⟨rfl,hp.symm.trans hr⟩
 ·exact(QT hj (ZL.1 hk).1 hr hp h).elim
def Bounded (S:Nat->Bool)(n:Nat):Prop:=∀p,S p=true->p<n
theorem ZQ {S:Nat->Bool}{n k q:Nat}(hb:Bounded S n)(h:full S k q=true):q*2^k+2^k<=n:=by
 rw[YP]at h;have a:=lb k;have:=hb _ (h (q*2^k+(2^k-1)) (He O));omega
theorem TI {S:Nat->Bool}{p:Nat}:full S 0 p=S p:=by simp[full]
theorem VM {S:Nat->Bool}{n p:Nat}(hb:Bounded S n)(hp:S p=true):∃k,can S k (p/2^k)=true:=by
 apply Classical.byContradiction;intro hno;have all:∀k,full S k (p/2^k)=true:=by
  intro k
  induction k with
  | zero=>simpa[TI]using hp
  | succ k ih=>
   apply Classical.byContradiction;intro hn;refine hno ⟨k,ZL.2 ⟨ih,?_⟩⟩;rw[uh,←nk];exact hn
 have:=ZQ hb (all n);have:=@Nat.lt_two_pow_self n;omega
theorem KT {S:Nat->Bool}{k q p:Nat}(h:can S k q=true)(hp:p/2^k=q):S p=true:=YP.1 (ZL.1 h).1 p hp
def del (S:Nat->Bool)(k q:Nat):Nat->Bool:=λp=>S p && !(p/2^k==q)
def ins (S:Nat->Bool)(k q:Nat):Nat->Bool:=λp=>S p||p/2^k==q
theorem VJ {S:Nat->Bool}{k q p:Nat}:del S k q p=true↔S p=true/\p/2^k≠q:=by simp[del]
theorem VH {S:Nat->Bool}{k q p:Nat}:ins S k q p=true↔S p=true\/p/2^k=q:=by simp[ins]
theorem KC (k q:Nat):(q*2^k)/2^k=q:=Dh _ (lb k)
theorem CA {S:Nat->Bool}{k q j r:Nat}(hc:can S k q=true):can (del S k q) j r=true↔can S j r=true/\¬(j=k/\r=q):=by
 constructor
 ·intro h;obtain⟨i,s⟩:=ZL.1 h;rw[YP]at i;have u:full S j r=true:=YP.2 λp b=>(VJ.1 (i p b)).1;refine⟨ZL.2 ⟨u,λg=>s (YP.2 λp b=>?_)⟩,?_⟩
  ·refine VJ.2 ⟨YP.1 g p b,λd=>?_⟩;rcases ma k (j+1)with m|m
   ·exact QT hc g d b m
   ·-- the greater Zw lies in the block
    have a:=KC j r;have w:=(VJ.1 (i _ a)).2;apply w;rw[ta (show j+1<=k by omega)];have e:r*2^j/2^(j+1)=r/2:=by
     rw[nk,←uh,a]
    rw[e,←b,←ta (show j+1<=k by omega),d]
  ·rintro⟨rfl,rfl⟩;exact(VJ.1 (i _ (KC _ _))).2 (KC _ _)
 ·rintro⟨h,hne⟩;obtain⟨i,s⟩:=ZL.1 h;refine ZL.2 ⟨YP.2 λp b=>VJ.2 ⟨YP.1 i p b,λd=>hne ?_⟩,λg=>s (YP.2 λp b=>(VJ.1 (YP.1 g p b)).1)⟩;obtain⟨m,x⟩:=H5 h hc b d;exact⟨m,x⟩
theorem yQ {S:Nat->Bool}{k q j r:Nat}(hd:∀p,p/2^k=q->S p=false)(hup:¬full (ins S k q) (k+1) (q/2)=true) :
 can (ins S k q) j r=true↔can S j r=true\/(j=k/\r=q):=by
 have g:can (ins S k q) k q=true:=ZL.2 ⟨YP.2 λp d=>VH.2 (.inr d),hup⟩;constructor
 ·intro h;by_cases he:j=k/\r=q
  ·exact .inr he
  left;obtain⟨i,m⟩:=ZL.1 h;refine ZL.2 ⟨YP.2 λp d=>?_,λa=>m (YP.2 λp d=>VH.2 (.inl (YP.1 a p d)))⟩;rcases VH.1 (YP.1 i p d)with h1|h1
  ·exact h1
  ·exact(he (H5 h g d h1)).elim
 ·rintro(h|⟨rfl,rfl⟩)
  ·obtain⟨i,m⟩:=ZL.1 h;refine ZL.2 ⟨YP.2 λp d=>VH.2 (.inl (YP.1 i p d)),λa=>m (YP.2 λp d=>?_)⟩;rcases VH.1 (YP.1 a p d)with h1|h1
   ·exact h1
   ·rcases ma k (j+1)with h2|h2
    ·refine(hup (ID (j:=j+1) O ?_)).elim;have e:q/2^(j+1-k)=r/2:=by rw[←h1,←ta (show k<=j+1 by omega),d]
     rw[E7 h2,e];exact a
    ·have b:=KC j r;have s:=YP.1 i _ b;have e:r*2^j/2^(j+1)=r/2:=by
      rw[nk,←uh,b]
     have:r*2^j/2^k=q:=by
      rw[ta h2,e,←d,←ta h2,h1]
     rw[hd _ this]at s;cases s
  ·exact g
def iu (q:Nat):Nat:=if q%2=0 then q+1 else q-1
theorem Lw (q:Nat):iu q/2=q/2:=by unfold iu;split<;>omega
theorem TT (q:Nat):iu q≠q:=by unfold iu;split<;>omega
theorem Tg {q r:Nat}(h:r/2=q/2):r=q\/r=iu q:=by unfold iu;split<;>omega
theorem HB {k q p:Nat}:p/2^(k+1)=q/2↔p/2^k=q\/p/2^k=iu q:=by
 rw[nk,←uh];constructor
 ·intro h;exact Tg h
 ·rintro(h|h)<;>rw[h]
  exact Lw q
theorem χ {T:Nat->Bool}{k q:Nat}(hd:∀p,p/2^k=q->T p=false)(hm:¬can T k (iu q)=true):¬full (ins T k q) (k+1) (q/2)=true:=by
 intro hup;have a:full T k (iu q)=true:=YP.2 λp b=>by
  rcases VH.1 (YP.1 hup p (HB.2 (.inr b)))with h|h
  ·exact h
  ·exact(TT q (b.symm.trans h)).elim
 have:full T (k+1) (iu q/2)=true:=Classical.byContradiction λh=>hm (ZL.2 ⟨a,h⟩);rw[Lw]at this;have d:=YP.1 this (q*2^k) (HB.2 (.inl (KC k q)));rw[hd _ (KC k q)]at d;cases d
def dI (S:Nat->Bool)(a b:Nat):Nat->Bool:=λp=>S p||(decide (a<=p)&&decide (p<b))
def take (S:Nat->Bool)(a b:Nat):Nat->Bool:=λp=>S p && !(decide (a<=p)&&decide (p<b))
theorem Ki {S:Nat->Bool}{a b p:Nat}:dI S a b p=true↔S p=true\/(a<=p/\p<b):=by simp[dI]
theorem Kj {S:Nat->Bool}{a b p:Nat}:take S a b p=true↔S p=true/\¬(a<=p/\p<b):=by
 simp[take];intro _;omega
theorem tG {S T:Nat->Bool}(h:∀p,S p=true↔T p=true):S=T:=by
 funext p
 have:=h p;cases hs:S p<;>cases ht:T p<;>simp_all
theorem Re (S:Nat->Bool)(k q:Nat):ins S k q=dI S (q*2^k) (q*2^k+2^k):=
 tG λp=>by rw[VH,Ki,Qe]
theorem Ν {S:Nat->Bool}{a b c:Nat}(h1:a<=b)(h2:b<=c):dI (dI S a b) b c=dI S a c:=
 tG λp=>by simp only[Ki];cases S p<;>simp<;>omega
theorem TN (S:Nat->Bool)(a:Nat):dI S a a=S:=tG λp=>by simp only[Ki];cases S p<;>simp<;>omega
theorem Ζ (S:Nat->Bool)(a:Nat):take S a a=S:=tG λp=>by simp only[Kj];cases S p<;>simp<;>omega
def iR (n:Nat)(S:Nat->Bool):Nat:=(List.range n).countP S
theorem RG (k m:Nat)(f:Nat->Bool):(List.range (m*2^k)).countP (λp=>f (p/2^k))=2^k*(List.range m).countP f:=by
 induction m with
 | zero=>simp
 | succ m ih=>
  rw[Nat.succ_mul,List.range_add,vH,ih,List.countP_map,zz,vH];have:((List.range (2^k)).countP ((λp=>f (p/2^k))∘λx=>m*2^k+x))=2^k*(if f m then 1 else 0):=by
   have e:∀x∈List.range (2^k),((λp=>f (p/2^k))∘λx=>m*2^k+x) x=f m:=by
    intro x a;simp only[Function.comp];rw[He (zU.1 a)]
   rw[BL (q:=λ_=>f m) (λx a=>by rw[e x a])];cases f m<;>simp
  rw[this,Nat.mul_add];simp only[qD,List.countP_nil,zG]
theorem WmT {n m:Nat}{S:Nat->Bool}(h:n<=m)(hb:∀p,S p=true->p<n):(List.range m).countP S=(List.range n).countP S:=by
 obtain⟨d,rfl⟩:=Nat.exists_eq_add_of_le h;rw[List.range_add,vH,List.countP_map];have:(List.range d).countP (S∘λx=>n+x)=0:=by
  rw[List.countP_eq_zero];intro x _ hx;have:n+x<n:=hb _ hx;omega
 omega
def many (n:Nat)(S:Nat->Bool)(k:Nat):Nat:=(List.range n).countP (can S k)
def lg (n:Nat)(S:Nat->Bool):Nat->Nat
 | 0=>0
 | k+1=>lg n S k+many n S k*2^k
theorem iq {α:Type}(l:List α)(f g h:α->Bool)(e:∀x∈l,(f x).toNat+(g x).toNat=(h x).toNat):l.countP f+l.countP g=l.countP h:=by
 induction l with
 | nil=>rfl
 | cons x l ih=>
  have b:=e x aA;have:=ih λy a=>e y (by simp[a]);simp only[qD];cases hf:f x<;>cases hg:g x<;>cases hh:h x<;>simp[hf,hg,hh]at b ⊢ <;> omega
def sd (S:Nat->Bool)(K p:Nat):Bool:=(List.range K).any λk=>can S k (p/2^k)
theorem Gr {n:Nat}{S:Nat->Bool}(hb:Bounded S n):∀K,lg n S K=(List.range n).countP (sd S K)
 | 0=>by
  simp only[lg]
  symm
  rw[List.countP_eq_zero];simp[sd]
 | K+1=>by
  rw[lg,Gr hb K];have hm:many n S K*2^K=(List.range n).countP (λp=>can S K (p/2^K)):=by
   have a:=RG K n (can S K);have b:n<=n*2^K:=Cy _ (lb K);rw[WmT b (λp g=>hb p (KT g rfl))]at a;rw[a,Nat.mul_comm];rfl
  rw[hm];apply iq;intro p _;have e:sd S (K+1) p=(sd S K p||can S K (p/2^K)):=by
   simp[sd,zz,List.any_append]
  rw[e];cases a:sd S K p<;>cases b:can S K (p/2^K)<;>simp
  simp only[sd,ka,zU]at a;obtain⟨k,i,d⟩:=a;have:=H5 d b rfl rfl;omega
theorem MI {n K:Nat}{S:Nat->Bool}(hb:Bounded S n)(hK:n<2^K):lg n S K=iR n S:=by
 rw[Gr hb];apply BL;intro p _;simp only[sd,ka,zU];constructor
 ·rintro⟨k,_,a⟩;exact KT a rfl
 ·intro hp;obtain⟨k,a⟩:=VM hb hp;refine⟨k,?_,a⟩;have:=ZQ hb (ZL.1 a).1;apply Classical.byContradiction;intro hk;have:2^K<=2^k:=oK O O;omega
end Go.Bu
namespace Go.Vc
open Go
abbrev Hp:=Array Obj
abbrev _root_.aN:=Int->Hp->Prop
abbrev _root_.aO:=Bool->Hp->Prop
abbrev _root_.aP:=Hp->Prop
structure Sl where
 a:Option Addr
 len:Nat
 cap:Nat
structure Fv where
 f:Nat
 first:Array Value
 captured:Array Value
inductive CK where
 | i (k:IntKind)|b|p|s|m|str|fn|raw|ag (n:Nat)|ad
 deriving DecidableEq
abbrev _root_.bN:CK:=.i .i64
@[reducible] def jT:Nat->Type
 | 0=>Unit
 | 1=>Int
 | n+2=>Int×jT (n+1)
def jT.vs:(n:Nat)->jT n->List Value
 | 0,_=>[]
 | 1,x=>[.int .i64 x]
 | n+2,x=>.int .i64 x.1::jT.vs (n+1) x.2
@[reducible] def CK.T:CK->Type
 | .i _=>Int
 | .b=>Bool
 | .p=>Option Addr
 | .s=>Sl
 | .m=>Option Nat
 | .str=>ByteArray
 | .fn=>Fv
 | .raw=>Value
 | .ag n=>jT n
 | .ad=>Addr
def CK.v:(c:CK)->c.T->Value
 | .i k,y=>.int k y
 | .b,x=>.bool x
 | .p,y=>.pointer y
 | .s,y=>.slice y.a y.len y.cap
 | .m,y=>.map y
 | .str,x=>.string x
 | .fn,x=>.func (.func x.f) x.first x.captured
 | .raw,y=>y
 | .ag n,y=>.agg (jT.vs n y).toArray
 | .ad,y=>.pointer (some y)
inductive SK where
 | one (c:CK)
 | agg (cs:List CK)
def SK.ks:SK->List CK
 | .one c=>[c]
 | .agg cs=>cs
def iI:List SK->List CK
 | []=>[]
 | s::ss=>s.ks++iI ss
@[reducible] def eV:List CK->Type
 | []=>Hp->Prop
 | c::cs=>c.T->eV cs
@[reducible] def pC:List CK->Type
 | []=>Hp->Nat
 | c::cs=>c.T->pC cs
def Sat:(ks:List CK)->eV ks->List Value->Hp->Prop
 | [],R,[],h=>R h
 | c::cs,R,v::vs,h=>∃x:c.T,v=c.v x/\Sat cs (R x) vs h
 | _,_,_,_=>False
def eV.le:(ks:List CK)->eV ks->eV ks->Prop
 | [],R,R'=>∀h,R h->R' h
 | c::cs,R,R'=>∀x:c.T,eV.le cs (R x) (R' x)
def lam:(ks:List CK)->(List Value->Hp->Prop)->eV ks
 | [],K=>K []
 | c::cs,K=>λx=>lam cs λvs=>K (c.v x::vs)
def xm:(n:Nat)->List Value->(jT n->Prop)->Prop
 | 0,[],K=>K ()
 | 1,[.int .i64 x],K=>K x
 | n+2,.int .i64 x::vs,K=>xm (n+1) vs λy=>K (x,y)
 | _,_,_=>False
theorem LM:∀{n:Nat} {vs:List Value} {K:jT n->Prop},xm n vs K->∃x,vs=jT.vs n x/\K x:=by
 intro n vs K h;unfold xm at h;split at h
 ·exact⟨(),rfl,h⟩
 ·exact⟨_,rfl,h⟩
 ·obtain⟨y,rfl,a⟩:=LM h;exact⟨_,rfl,a⟩
 ·exact h.elim
def pH:(c:CK)->Value->(c.T->Prop)->Prop
 | .i k,.int k' n,K=>if k=k' then K n else False
 | .b,.bool x,K=>K x
 | .p,.pointer a,K=>K a
 | .s,.slice a l c,K=>K ⟨a,l,c⟩
 | .m,.map r,K=>K r
 | .str,.string s,K=>K s
 | .fn,.func (.func f) x y,K=>K ⟨f,x,y⟩
 | .raw,v,K=>K v
 | .ag n,.agg cs,K=>xm n cs.toList K
 | .ad,.pointer (some a),K=>K a
 | _,_,_=>False
def wT:(ks:List CK)->eV ks->List Value->Hp->Prop
 | [],R,[],h=>R h
 | c::cs,R,v::vs,h=>pH c v λx=>wT cs (R x) vs h
 | _,_,_,_=>False
theorem Ur {c:CK}{v:Value}{K:c.T->Prop}(h:pH c v K):∃x,v=c.v x/\K x:=by
 cases c<;>cases v<;>simp only[pH]at h<;>try exact h.elim
 case i.int k k' n=>split at h<;>first|exact h.elim | (rename_i e;subst e;exact⟨n,rfl,h⟩)
 case fn.func f x y=>cases f<;>simp only[pH]at h<;>first|exact h.elim|exact⟨⟨_,x,y⟩,rfl,h⟩
 case b.bool x=>exact⟨x,rfl,h⟩
 case p.pointer a=>exact⟨a,rfl,h⟩
 case s.slice a l c=>exact⟨⟨a,l,c⟩,rfl,h⟩
 case m.map r=>exact⟨r,rfl,h⟩
 case str.string s=>exact⟨s,rfl,h⟩
 case ad.pointer p=>cases p<;>simp only[pH]at h<;>first|exact h.elim|exact⟨_,rfl,h⟩
 case ag.agg n cs=>obtain⟨x,e,d⟩:=LM h;exact⟨x,by simp only[CK.v,←e],d⟩
 all_goals exact⟨_,rfl,h⟩
theorem FM:∀(n:Nat) (x:jT n) (K:jT n->Prop),xm n (jT.vs n x) K=K x
 | 0,_,_=>rfl
 | 1,_,_=>rfl
 | n+2,x,K=>FM (n+1) x.2 _
theorem OK (c:CK)(x:c.T)(K:c.T->Prop):pH c (c.v x) K=K x:=by
 cases c<;>simp[pH,CK.v]
 exact iff_of_eq (FM _ _ _)
theorem xV:∀{ks:List CK} {R:eV ks} {vs:List Value} {h:Hp},wT ks R vs h->Sat ks R vs h
 | [],_,[],_,h=>h
 | _::_,_,_::_,_,h=>by
  obtain⟨x,e,hx⟩:=Ur h;exact⟨x,e,xV hx⟩
 | [],_,_::_,_,h=>h.elim
 | _::_,_,[],_,h=>h.elim
theorem Sat.mono:∀{ks:List CK} {R R':eV ks},eV.le ks R R'->∀{vs:List Value} {h:Hp},Sat ks R vs h->Sat ks R' vs h
 | [],_,_,hl,[],_,h=>hl _ h
 | _::_,_,_,hl,_::_,_,⟨x,e,h⟩=>⟨x,e,Sat.mono (hl x) h⟩
 | [],_,_,_,_::_,_,h=>h.elim
 | _::_,_,_,_,[],_,h=>h.elim
theorem U4:∀{ks:List CK} {K:List Value->Hp->Prop} {vs:List Value} {h:Hp},Sat ks (lam ks K) vs h->K vs h
 | [],_,[],_,h=>h
 | _::_,K,v::vs,h,hs=>by
  obtain⟨x,rfl,h'⟩:=hs;exact U4 (K:=λvs=>K (CK.v _ x::vs)) h'
 | [],_,_::_,_,h=>h.elim
 | _::_,_,[],_,h=>h.elim
abbrev Env:=Nat->Option Value
def Env.put (ρ:Env)(d:Nat)(v:Value):Env:=λi=>bif Nat.beq i d then some v else ρ i
def Env.iS (ρ:Env):Option Nat->Value->Env
 | some d,v=>ρ.put d v
 | none,_=>ρ
def Env.fA (ρ:Env)(ds:List Nat):Env:=λi=>bif ds.contains i then none else ρ i
def ev (ρ:Env):Operand->Option Value
 | .tmp t=>ρ t
 | .const v=>some v
 | .global g=>some (.pointer (some ⟨g,0,none⟩))
 | .func f=>some (.func (.func f) #[] #[])
def wv (o:Option Value)(K:Value->Prop):Prop:=match o with|some v=>K v|none=>False
def qZ (ρ:Env):List Operand->Option (List Value)
 | []=>some []
 | o::os=>match ev ρ o,qZ ρ os with|some v,some vs=>some (v::vs)|_,_=>none
def cell (h:Hp)(a:Addr):Option Value:=
 match h[a.block]? with
 | some (.cells c _ _)=>if a.spot.isSome then none else c[a.off]?
 | _=>none
def oO (h:Hp)(a:Addr):Bool:=
 match h[a.block]? with
 | some (.cells _ _ (lo,hi))=>lo<=a.off&&a.off<hi
 | _=>false
def ku (h:Hp)(a:Addr)(v:Value):Hp:=
 h.modify a.block fun
  | .cells c elem frozen=>.cells (if a.spot.isSome then c else c.setIfInBounds a.off v) elem frozen
  | o=>o
def fF (k:IntKind)(a:Addr)(h:Hp)(K:Int->Prop):Prop:=∃n,cell h a=some (.int k n)/\K n
def kF (a:Addr)(h:Hp)(K:Bool->Prop):Prop:=∃n,cell h a=some (.bool n)/\K n
def fZ (a:Addr)(h:Hp)(K:Option Addr->Prop):Prop:=∃n,cell h a=some (.pointer n)/\K n
def jk (a:Addr)(h:Hp)(K:Sl->Prop):Prop:=∃n:Sl,cell h a=some (.slice n.a n.len n.cap)/\K n
def mQ (a:Addr)(h:Hp)(K:Option Nat->Prop):Prop:=∃n,cell h a=some (.map n)/\K n
def wN (a:Addr)(h:Hp)(K:ByteArray->Prop):Prop:=∃n,cell h a=some (.string n)/\K n
def Be (a:Addr)(h:Hp)(K:Fv->Prop):Prop:=∃n:Fv,cell h a=some (.func (.func n.f) n.first n.captured)/\K n
def wo (a:Addr)(h:Hp)(K:Value->Prop):Prop:=∃n,cell h a=some n/\K n
def Ro (n:Nat)(a:Addr)(h:Hp)(K:jT n->Prop):Prop:=∃x,cell h a=some (CK.v (.ag n) x)/\K x
def CQ (a:Addr)(h:Hp)(K:Addr->Prop):Prop:=∃x,cell h a=some (.pointer (some x))/\K x
def xU:(c:CK)->Addr->Hp->(c.T->Prop)->Prop
 | .i k,a,h,K=>fF k a h K
 | .b,a,h,K=>kF a h K
 | .p,a,h,K=>fZ a h K
 | .s,a,h,K=>jk a h K
 | .m,a,h,K=>mQ a h K
 | .str,a,h,K=>wN a h K
 | .fn,a,h,K=>Be a h K
 | .raw,a,h,K=>wo a h K
 | .ag n,a,h,K=>Ro n a h K
 | .ad,a,h,K=>CQ a h K
def nW:List CK->Addr->Nat->Hp->(List Value->Prop)->Prop
 | [],_,_,_,K=>K []
 | c::cs,a,i,h,K=>xU c (a.add i) h λx=>nW cs a (i+1) h λvs=>K (c.v x::vs)
def kN (v:Value)(t:TypeId)(vs zs:List Value)(b:Bool):Prop:=match b with
 | true=>v=.iface t (.agg vs.toArray)
 | false=>vs=zs/\(v=.nilIface\/∃t' u,v=.iface t' u/\t'≠t)
def xq (v:Value)(t:TypeId)(zs:List Value):List CK->List Value->(List Value->Bool->Prop)->Prop
 | [],acc,K=>∃b:Bool,kN v t acc zs b/\K acc b
 | c::cs,acc,K=>∃x:c.T,xq v t zs cs (acc++[c.v x]) K
theorem xq.out {v:Value}{t:TypeId}{zs:List Value}:∀{cs:List CK} {acc:List Value} {K:List Value->Bool->Prop},xq v t zs cs acc K->∃vs b,kN v t vs zs b/\K vs b
 | [],acc,K,⟨b,h1,h2⟩=>⟨acc,b,h1,h2⟩
 | c::cs,acc,K,⟨x,h⟩=>xq.out h
def jO (v:Value):Prop:=v=.nilIface\/∃t u,v=.iface t u
def lF:Value->Bool
 | .nilIface=>true
 | _=>false
def O1 (v:Value)(A:Prop):Prop:=match v with
 | .agg _=>False
 | .tuple _=>False
 | _=>A
def yo:List Value->Prop->Prop
 | [],A=>A
 | v::vs,A=>O1 v (yo vs A)
def bS (p:Option Addr)(K:Addr->Prop):Prop:=∃a,p=some a/\K a
def Ar (k:IntKind)(e:Int)(K:Int->Prop):Prop:=K (k.wrap e)
def Nz (y:Int)(A:Prop):Prop:=y≠0/\A
def Nn (y:Int)(A:Prop):Prop:=0<=y/\A
def Ix (base:Option Addr)(len:Nat)(i:Int)(sz:Nat)(K:Addr->Prop):Prop:=∃a,base=some a/\0<=i/\i<(len:Int)/\K (a.add (i.toNat*sz))
def oJ (a:Addr)(len:Nat)(i:Int)(sz:Nat)(K:Addr->Prop):Prop:=0<=i/\i<(len:Int)/\K (a.add (i.toNat*sz))
def Iw (s:ByteArray)(i:Int)(K:Int->Prop):Prop:=∃b,0<=i/\s[i.toNat]?=some b/\K (b.toNat:Int)
def If (b:Bool)(A B:Prop):Prop:=match b with
 | true=>A
 | false=>B
theorem If.t {b:Bool}{A B:Prop}(h:If b A B)(e:b=true):A:=by subst e;exact h
theorem If.f {b:Bool}{A B:Prop}(h:If b A B)(e:b=false):B:=by subst e;exact h
theorem If.mk {b:Bool}{A B:Prop}(h1:b=true->A)(h2:b=false->B):If b A B:=by cases b;exact h2 rfl;exact h1 rfl
def Nw (o:Obj)(h:Hp)(K:Addr->Hp->Prop):Prop:=K ⟨h.size,0,none⟩ (h.push o)
def dL (a:Addr)(v:Value)(h:Hp)(K:aP):Prop:=(cell h a).isSome=true/\oO h a=false/\K (ku h a v)
def ql (a:Addr)(h:Hp):List Value->Nat->(Hp->Prop)->Prop
 | [],_,K=>K h
 | v::vs,i,K=>dL (a.add i) v h λh'=>ql a h' vs (i+1) K
def eW (s:Sl)(sz:Nat)(lo hi mx:Int)(K:Sl->Prop):Prop:=
 0<=lo/\lo<=hi/\hi<=mx/\mx<=(s.cap:Int)/\K ⟨if mx.toNat=lo.toNat then s.a else s.a.map (·.add (lo.toNat*sz)),hi.toNat-lo.toNat,mx.toNat-lo.toNat⟩
def dK (h:Hp)(r:Nat)(k:IntKind)(c:CK)(l:List (Int×c.T)):Prop:=
 ∃es clk,h[r]?=some (.map es clk)/\es.toList.map (λe=>(e.key,e.val))=l.map (λx=>(Value.int k x.1,c.v x.2)) ∧
  (l.map (·.1)).Nodup/\(es.toList.map (·.born)).Pairwise (· < ·)/\∀e∈es.toList,e.born<clk
def jV (h:Hp)(m:Option Nat)(k:IntKind)(c:CK)(l:List (Int×c.T)):Prop:=
 match m with
 | none=>l=[]
 | some r=>dK h r k c l
def bV {α:Type}(l:List (Int×α))(n:Int):Option α:=(l.find? λx=>x.1==n).map (·.2)
def dF {α:Type}(l:List (Int×α))(n:Int)(v:α):List (Int×α):=
 if l.any (λx=>x.1==n)then l.map (λx=>if x.1==n then(n,v)else x)else l++[(n,v)]
def cT {α:Type}(l:List (Int×α))(n:Int):List (Int×α):=l.filter λx=>!(x.1==n)
def QD (h h':Hp)(r:Nat):Prop:=h'.size=h.size/\∀b,b≠r->h'[b]?=h[b]?
def Lk (k:IntKind)(c:CK)(m:Option Nat)(n:Int)(h:Hp)(K:Option c.T->Prop):Prop:=∃l,jV h m k c l/\K (bV l n)
def nZ (k:IntKind)(c:CK)(m:Option Nat)(h:Hp)(K:Int->Prop):Prop:=∃l,jV h m k c l/\K (l.length:Int)
def k6 (k:IntKind)(c:CK)(m:Option Nat)(n:Int)(x:c.T)(h:Hp)(K:aP):Prop:=
 ∃r l,m=some r/\dK h r k c l/\∀h',QD h h' r->dK h' r k c (dF l n x)->K h'
def mK (k:IntKind)(c:CK)(m:Option Nat)(n:Int)(h:Hp)(K:aP):Prop:=
 ∃l,jV h m k c l/\∀h',(∀r,m=some r->QD h h' r)->(m=none->h'=h)->jV h' m k c (cT l n)->K h'
def It (h:Hp)(r:Nat)(k:IntKind)(c:CK)(m:Option Nat)(l todo:List (Int×c.T))(cur:Option (Int×c.T)):Prop:=
 match m with
 | none=>l=[]/\todo=[]/\cur=none/\∃s q y,h[r]?=some (.mapIter none s q y)
 | some b=>∃es clk seen,h[r]?=some (.mapIter (some b) clk seen clk)/\h[b]?=some (.map es clk)/\es.toList.map (λe=>(e.key,e.val))=l.map (λx=>(Value.int k x.1,c.v x.2)) ∧
  (l.map (·.1)).Nodup/\(es.toList.map (·.born)).Pairwise (· < ·)/\(∀e∈es.toList,e.born<clk) ∧
  (es.toList.filter λe=>!seen.contains e.born).map (λe=>(e.key,e.val))=todo.map (λx=>(Value.int k x.1,c.v x.2)) ∧
  (∀x,cur=some x->∃e∈es.toList,seen.back?=some e.born/\e.key=.int k x.1/\e.val=c.v x.2)
def su (k:IntKind)(c:CK)(m:Option Nat)(h:Hp)(K:Addr->Hp->Prop):Prop:=
 ∃l,jV h m k c l/\∀h',h'.size=h.size+1->(∀b,b<h.size->h'[b]?=h[b]?)->It h' h.size k c m l l none->K ⟨h.size,0,none⟩ h'
def sC (k:IntKind)(c:CK)(a:Addr)(h:Hp)(A:Prop)(B:Int->c.T->Hp->Prop):Prop:=
 a.off=0/\∃m l todo cur,It h a.block k c m l todo cur/\(todo=[]->A) ∧
  ∀n x,(n,x)∈todo->∀h',QD h h' a.block->It h' a.block k c m l (todo.filter λy=>!(y.1==n)) (some (n,x))->B n x h'
def sk (k:IntKind)(c:CK)(a:Addr)(h:Hp)(K:Int->c.T->Prop):Prop:=
 a.off=0/\∃m l todo n x,It h a.block k c m l todo (some (n,x))/\K n x
def dN:Value->Bool
 | .agg _=>false
 | .tuple _=>false
 | _=>true
def Rd (h:Hp)(a:Option Addr)(xs:List Value):Prop:=
 match a with
 | none=>xs=[]
 | some a=>∀j v,xs[j]?=some v->cell h (a.add j)=some v
def E3 (s:Sl)(h:Hp)(K:ByteArray->Prop):Prop:=∃bs:List Int,bs.length=s.len/\Rd h s.a (bs.map (.int .u8))/\K ⟨(bs.map λn=>UInt8.ofNat n.toNat).toArray⟩
def App (s:Sl)(sz bytes:Nat)(e:Nat)(zs:List Value)(x:Sl)(h:Hp)(K:Sl->Hp->Prop):Prop:=
 ∃xs ys,xs.length=s.len*sz/\ys.length=x.len*sz/\Rd h s.a xs/\Rd h x.a ys/\(∀v∈ys,dN v=true)/\(s.len+x.len)*bytes<=2^46/\s.len+x.len<=2^62 ∧
  (s.len+x.len<=s.cap->match s.a with
   | some a=>ql (a.add (s.len*sz)) h ys 0 λh'=>K ⟨s.a,s.len+x.len,s.cap⟩ h'
   | none=>K ⟨none,s.len+x.len,s.cap⟩ h) ∧
  (¬s.len+x.len<=s.cap->∀c,s.len+x.len<=c->Nw (.cells (xs++ys++(List.replicate (c-(s.len+x.len)) zs).flatten).toArray e) h λa h'=>K ⟨some a,s.len+x.len,c⟩ h')
def rD (s:Sl)(sz bytes:Nat)(e:Nat)(zs:List Value)(n:Int)(h:Hp)(K:Sl->Hp->Prop):Prop:=
 0<=n/\∃xs,xs.length=s.len*sz/\Rd h s.a xs/\(∀v∈zs,dN v=true)/\(s.len+n.toNat)*bytes<=2^46/\s.len+n.toNat<=2^62/\(n.toNat:Int)*bytes<=2^46 ∧
  (s.len+n.toNat<=s.cap->match s.a with
   | some a=>ql (a.add (s.len*sz)) h (List.replicate n.toNat zs).flatten 0 λh'=>K ⟨s.a,s.len+n.toNat,s.cap⟩ h'
   | none=>K ⟨none,s.len+n.toNat,s.cap⟩ h) ∧
  (¬s.len+n.toNat<=s.cap->∀c,s.len+n.toNat<=c->Nw (.cells (xs++(List.replicate n.toNat zs).flatten++(List.replicate (c-(s.len+n.toNat)) zs).flatten).toArray e) h λa h'=>K ⟨some a,s.len+n.toNat,c⟩ h')
def tV (d:Sl)(sz:Nat)(s:Sl)(h:Hp)(K:aN):Prop:=
 ∃xs,xs.length=min s.len d.len*sz/\Rd h s.a xs/\(∀v∈xs,dN v=true)/\match d.a with
  | some a=>ql a h xs 0 λh'=>K ((min s.len d.len:Nat):Int) h'
  | none=>K ((min s.len d.len:Nat):Int) h
def By (s:Sl)(zs:List Value)(h:Hp)(K:aP):Prop:=
 (∀v∈zs,dN v=true)/\match s.a with
  | some a=>ql a h (List.replicate s.len zs).flatten 0 K
  | none=>K h
def Mk (n c:Int)(bytes:Nat)(e:Nat)(zs:List Value)(h:Hp)(K:Sl->Hp->Prop):Prop:=
 0<=n/\n<=c/\(bytes:Int)*c<=2^46/\c<2^62/\Nw (.cells (List.replicate c.toNat zs).flatten.toArray e) h λa h'=>K ⟨some a,n.toNat,c.toNat⟩ h'
def ZP (w w':World):Prop:=w'.os=w.os/\w'.tape=w.tape/\w'.output=w.output/\w.heap.size<=w'.heap.size
def qg:List SK->List Value->List Value
 | [],_=>[]
 | .one _::ss,v::vs=>v::qg ss vs
 | .one _::ss,[]=>undef::qg ss []
 | .agg cs::ss,vs=>.agg (vs.take cs.length).toArray::qg ss (vs.drop cs.length)
def pack (rs:List SK)(vs:List Value):Value:=
 match qg rs vs with
 | [v]=>v
 | l=>.tuple l.toArray
def We (P:Program)(f:Nat)(args:Array Value)(rs:List SK)(h:Hp)(R:eV (iI rs)):Prop:=
 ∀w:World,w.heap=h->Calls P f args w λe w'=>ZP w w'/\∃vs,e=.returned (pack rs vs)/\Sat (iI rs) R vs w'.heap
def BP (P:Program)(v:Value)(name:String)(args:List Value)(rs:List SK)(h:Hp)(R:eV (iI rs)):Prop:=
 ∃t u f,v=.iface t u/\(∀w,(method (P.types.size+Made.depth) t u name).run P w=.ok (f,u) w)/\(∀xs w,(callFunc f xs).run P w=.ok (.enter f xs) w)/\We P f (u::args).toArray rs h R
def Lu (P:Program)(fv:Fv)(args:List Value)(rs:List SK)(h:Hp)(R:eV (iI rs)):Prop:=
 We P fv.f (fv.first++args.toArray++fv.captured) rs h R
abbrev SK.I:SK:=.one bN
abbrev _root_.Go.Value.I (x:Int):Value:=.int .i64 x
def Ir:TypeDesc->Option CK
 | .bool=>some .b
 | .int k=>some (.i k)
 | .string=>some .str
 | .pointer _=>some .p
 | .slice _=>some .s
 | .map _ _=>some .m
 | .func _ _ _=>some .fn
 | .interface _=>some .raw
 | _=>none
mutual
def CV (P:Program):Nat->TypeId->Option (List CK)
 | 0,_=>none
 | n+1,t=>
  match P.underlying t with
  | some (.struct fs)=>JJ P n fs.toList
  | some (.array m e)=>(CV P n e).map λl=>(List.replicate m l).flatten
  | some d=>(Ir d).map λc=>[c]
  | none=>none
def JJ (P:Program):Nat->List Field->Option (List CK)
 | 0,_=>none
 | _+1,[]=>some []
 | n+1,f::fs=>match CV P n f.type,JJ P n fs with
  | some a,some b=>some (a++b)
  | _,_=>none
end
def PZ:SK->SK
 | .agg cs=>bif cs.all (· == .i .i64)then .one (.ag cs.length)else .agg cs
 | s=>s
def Ux:TypeDesc->Bool
 | .struct _ | .array _ _=>true
 | _=>false
def kg (P:Program)(t:TypeId):Option SK:=
 match P.underlying t with
 | some d=>bif Ux d then(CV P 24 t).map .agg else(Ir d).map .one
 | none=>none
def pG (P:Program)(t:TypeId):Option SK:=(kg P t).map PZ
def gR (b:Bool)(A:Prop):Prop:=match b with|true=>A|false=>False
theorem WJ {b:Bool}{A:Prop}:gR b A↔b=true/\A:=by cases b<;>simp[gR]
def qA (op:BinOp)(k:IntKind)(x y:Int)(K:Value->Prop):Prop:=
 match op with
 | .add=>Ar k (x+y) λz=>K (.int k z)
 | .sub=>Ar k (x-y) λz=>K (.int k z)
 | .mul=>Ar k (x*y) λz=>K (.int k z)
 | .quo=>Nz y (Ar k (x.tdiv y) λz=>K (.int k z))
 | .rem=>Nz y (K (.int k (x.tmod y)))
 | .and=>K (.int k (bits .and k x y))
 | .or=>K (.int k (bits .or k x y))
 | .xor=>K (.int k (bits .xor k x y))
 | .andNot=>K (.int k (bits .andNot k x y))
 | .shl=>Nn y (Ar k (x*2^(min y.toNat k.bits)) λz=>K (.int k z))
 | .shr=>Nn y (K (.int k (x.fdiv (2^(min y.toNat k.bits)))))
 | .eql=>K (.bool (x==y))
 | .neq=>K (.bool (x != y))
 | .lss=>K (.bool (decide (x<y)))
 | .leq=>K (.bool (decide (x<=y)))
 | .gtr=>K (.bool (decide (x>y)))
 | .geq=>K (.bool (decide (x≥y)))
def nE (op:BinOp)(b:Bool)(K:Value->Prop):Prop:=
 match op with
 | .eql=>K (.bool b)
 | .neq=>K (.bool (!b))
 | _=>False
def mI (P:Program)(op:BinOp)(t:TypeId)(x y:Value)(K:Value->Prop):Prop:=
 match P.underlying t,x,y with
 | some (.pointer _),.pointer p,.pointer none=>nE op p.isNone K
 | some (.slice _),.slice p _ _,.slice none 0 0=>nE op p.isNone K
 | some (.map _ _),.map p,.map none=>nE op p.isNone K
 | some (.interface _),x,.nilIface=>jO x/\nE op (lF x) K
 | _,_,_=>False
def mr (P:Program)(op:BinOp)(t:TypeId)(x y:Value)(K:Value->Prop):Prop:=
 match x,y with
 | .int k a,.int k' b=>if k=k' then qA op k a b K else(match op with | .shl=>qA .shl k a b K | .shr=>qA .shr k a b K|_=>False)
 | .bool a,.bool b=>match P.underlying t with
  | some .bool=>nE op (a==b) K
  | _=>False
 | .string a,.string b=>match op with
  | .eql=>K (.bool (a.toList==b.toList))
  | .neq=>K (.bool (!(a.toList==b.toList)))
  | _=>False
 | _,_=>False
def qd (P:Program)(xs ys:List Value):List Field->Option Bool
 | []=>some true
 | f::fs=>bif f.name == "_" then none else
  match P.underlying f.type,xs[f.offset]?,ys[f.offset]?,qd P xs ys fs with
  | some (.int _),some (.int k a),some (.int k' b),some r=>if k=k' then some ((a==b)&&r)else none
  | some .bool,some (.bool a),some (.bool b),some r=>some ((a==b)&&r)
  | _,_,_,_=>none
def pD (P:Program)(e:TypeId)(xs ys:List Value):List Nat->Option Bool
 | []=>some true
 | i::is=>match P.underlying e,xs[i]?,ys[i]?,pD P e xs ys is with
  | some (.int _),some (.int k a),some (.int k' b),some r=>if k=k' then some ((a==b)&&r)else none
  | some (.pointer _),some (.pointer p),some (.pointer none),some r=>some (p.isNone&&r)
  | _,_,_,_=>none
def om (P:Program)(op:BinOp)(t:TypeId)(xs ys:List Value)(K:Value->Prop):Prop:=
 match P.underlying t with
 | some (.struct fs)=>gR (!P.stoodInHeld t && !P.eqGuardType P.depth t) (match qd P xs ys fs.toList with
  | some b=>nE op b K
  | none=>False)
 | some (.array n e)=>gR (!P.eqGuardType P.depth t&&((P.info? e).isSome&&P.cellsOf e==1)) (match pD P e xs ys (List.range n)with
  | some b=>nE op b K
  | none=>False)
 | _=>False
def xh:Operand->Bool
 | .const (.pointer none)=>true
 | .const (.slice none 0 0)=>true
 | .const (.map none)=>true
 | .const .nilIface=>true
 | _=>false
def xu (P:Program)(op:BinOp)(t:TypeId)(y:Operand)(vx vy:Value)(K:Value->Prop):Prop:=
 bif xh y then mI P op t vx vy K else match vx,vy with
 | .agg xs,.agg ys=>om P op t xs.toList ys.toList K
 | vx,vy=>mr P op t vx vy K
def nX (P:Program)(s f:Nat)(K:Field->Prop):Prop:=
 match P.underlying s with
 | some (.struct fs)=>match fs[f]? with
  | some fd=>K fd
  | none=>False
 | _=>False
def mF (P:Program)(t:TypeId)(x:Value)(h:Hp)(K:Value->Prop):Prop:=
 match P.underlying t,x with
 | some (.slice _),.slice _ n _=>K (.int .i64 (n:Int))
 | some .string,.string s=>K (.int .i64 (s.size:Int))
 | some (.array n _),_=>K (.int .i64 (n:Int))
 | some (.map kt et),.map m=>match P.underlying kt,pG P et with
  | some (.int k),some (.one c)=>nZ k c m h λz=>K (.int .i64 z)
  | _,_=>False
 | _,_=>False
def yU (P:Program)(t:TypeId)(x i:Value)(ok:Bool)(h:Hp)(K:Value->Prop):Prop:=
 match P.underlying t,x,i with
 | some (.map kt et),.map m,.int k n=>match P.underlying kt,pG P et,P.info? et with
  | some (.int k'),some (.one c),some ti=>match ti.zero with
   | some z=>if k=k' then pH c z λz=>Lk k c m n h λo=>K (bif ok then .tuple #[c.v (o.getD z),.bool o.isSome]else c.v (o.getD z))else False
   | none=>False
  | _,_,_=>False
 | _,_,_=>False
def pf (isMax:Bool):Value->List Value->(Value->Prop)->Prop
 | v,[],K=>K v
 | .int k x,.int _ y::vs,K=>pf isMax (.int k (bif isMax then(if y>x then y else x)else(if y<x then y else x))) vs K
 | _,_,_=>False
def rU (Zw:Nat->Option (Nat×Nat))(cells:List Value):List (Nat×Value)->Option (List Value)
 | []=>some cells
 | (i,v)::rest=>
  match Zw i with
  | none=>none
  | some (off,size)=>
   if v.cells.size≠size\/off+v.cells.size>cells.length then none
   else rU Zw (cells.take off++v.cells.toList++cells.drop (off+size)) rest
def H4 (ρ:Env):List (Nat×Operand)->Option (List (Nat×Value))
 | []=>some []
 | (i,o)::os=>match ev ρ o,H4 ρ os with|some v,some vs=>some ((i,v)::vs)|_,_=>none
def Dd (P:Program)(fs:Array Field)(i:Nat):Option (Nat×Nat):=match fs[i]? with
 | some f=>match P.info? f.type with
  | some ti=>some (f.offset,ti.size)
  | none=>none
 | none=>none
def wq (P:Program)(t:TypeId):Bool:=match P.underlying t with
 | some (.interface _)=>true
 | _=>false
def xK (P:Program)(fs:Array Field)(i:Nat):Bool:=match fs[i]? with
 | some f=>wq P f.type
 | none=>false
def xN (raw:Nat->Bool):List (Nat×Value)->List (Nat×Value)
 | []=>[]
 | (i,v)::ps=>(i,bif raw i then .agg #[v]else v)::xN raw ps
def mq (raw:Nat->Bool):List (Nat×Value)->Prop->Prop
 | [],A=>A
 | (i,v)::ps,A=>bif raw i then jO v/\mq raw ps A else mq raw ps A
def nY (P:Program)(t:TypeId)(ps:List (Nat×Value))(K:Value->Prop):Prop:=
 match P.info? t,P.underlying t with
 | some ti,some (.struct fs)=>match ti.zero with
  | some z=>mq (xK P fs) ps (match rU (Dd P fs) z.cells.toList (xN (xK P fs) ps)with
   | some cs=>gR (fs.toList.all λf=>(P.info? f.type).isSome) (K (.agg cs.toArray))
   | none=>False)
  | none=>False
 | some ti,some (.array _ e)=>match ti.zero,P.info? e with
  | some z,some te=>match rU (λi=>some (i*te.size,te.size)) z.cells.toList ps with
   | some cs=>K (.agg cs.toArray)
   | none=>False
  | _,_=>False
 | _,_=>False
def vF (P:Program)(t:TypeId)(cs:List Value)(off:Nat)(K:Value->Prop):Prop:=
 match P.underlying t,P.info? t with
 | some d,some ti=>bif Ux d then K (.agg ((cs.drop off).take ti.size).toArray)else wv (cs[off]?) K
 | _,_=>False
def n4 (P:Program)(t:TypeId)(x:Value)(lo hi mx:Option Value)(K:Value->Prop):Prop:=
 match P.underlying t,x with
 | some (.slice e),.slice a n c=>match P.info? e with
  | some ti=>
   let loV:Option Int:=match lo with|none=>some 0|some (.int .i64 z)=>some z|_=>none
   let hiV:Option Int:=match hi with|none=>some n|some (.int .i64 z)=>some z|_=>none
   let mxV:Option Int:=match mx,hi with|none,_=>some c|some (.int .i64 z),some _=>some z|_,_=>none
   match loV,hiV,mxV with
   | some l,some h,some m=>eW ⟨a,n,c⟩ ti.size l h m λs=>K (.slice s.a s.len s.cap)
   | _,_,_=>False
  | none=>False
 | _,_=>False
def vI (ρ:Env):Option Operand->Option (Option Value)
 | none=>some none
 | some o=>(ev ρ o).map some
def qK (P:Program)(o:Op)(ρ:Env)(h:Hp)(K:Value->Prop):Prop:=
 match o with
 | .move x=>wv (ev ρ x) K
 | .assign x=>wv (ev ρ x) K
 | .pick c x y=>wv (ev ρ c) λv=>match v with
  | .bool true=>wv (ev ρ x) K
  | .bool false=>wv (ev ρ y) K
  | _=>False
 | .load t a=>wv (ev ρ a) λv=>match v,kg P t with
  | .pointer (some a),some (.one c)=>gR (P.info? t).isSome (xU c a h λx=>K (c.v x))
  | .pointer (some a),some (.agg cs)=>gR (P.cellsOf t==cs.length) (gR (P.info? t).isSome (nW cs a 0 h λvs=>K (.agg vs.toArray)))
  | _,_=>False
 | .nilCheck x=>wv (ev ρ x) λv=>match v with
  | .pointer p=>bS p λa=>K (.pointer (some a))
  | .func (.func f) a b=>K (.func (.func f) a b)
  | _=>False
 | .binOp op t x y _=>wv (ev ρ x) λvx=>wv (ev ρ y) λvy=>xu P op t y vx vy K
 | .unOp op _ x=>wv (ev ρ x) λv=>match op,v with
  | .not,.bool b=>K (.bool (!b))
  | .neg,.int k n=>Ar k (0-n) λz=>K (.int k z)
  | _,_=>False
 | .convert s d x=>wv (ev ρ x) λv=>match P.underlying s,P.underlying d,v with
  | some _,some (.int k),.int _ n=>Ar k n λz=>K (.int k z)
  | some _,some .string,.string x=>K (.string x)
  | some (.slice e),some .string,.slice a n c=>(match P.underlying e with|some (.int .u8)=>E3 ⟨a,n,c⟩ h λs=>K (.string s)|_=>False)
  | _,_,_=>False
 | .fieldAddr s x f=>wv (ev ρ x) λv=>nX P s f λfd=>match v with
  | .pointer (some a)=>gR (P.cellsOf fd.type != 0) (K (.pointer (some (a.add fd.offset))))
  | _=>False
 | .field s x f=>wv (ev ρ x) λv=>nX P s f λfd=>match v with
  | .agg cs=>vF P fd.type cs.toList fd.offset K
  | _=>False
 | .indexAddr t x i=>wv (ev ρ x) λvx=>wv (ev ρ i) λvi=>match P.underlying t,vx,vi with
  | some (.slice e),.slice b n _,.int _ i=>gR (P.info? e).isSome (Ix b n i (P.cellsOf e) λa=>K (.pointer (some a)))
  | some (.array n e),.pointer (some a),.int _ i=>gR (P.info? e).isSome (oJ a n i (P.cellsOf e) λa=>K (.pointer (some a)))
  | _,_,_=>False
 | .index t x i=>wv (ev ρ x) λvx=>wv (ev ρ i) λvi=>match P.underlying t,vx,vi with
  | some .string,.string s,.int _ i=>Iw s i λz=>K (.int .u8 z)
  | _,_,_=>False
 | .lookup t x i ok=>wv (ev ρ x) λvx=>wv (ev ρ i) λvi=>yU P t vx vi ok h K
 | .extract t i=>wv (ev ρ t) λv=>match v with
  | .tuple vs=>wv (vs.toList[i]?) K
  | _=>False
 | .makeFunc fn a b=>match qZ ρ a.toList,qZ ρ b.toList with
  | some va,some vb=>K (.func fn va.toArray vb.toArray)
  | _,_=>False
 | .build t ps=>match H4 ρ ps.toList with
  | some vs=>nY P t vs K
  | none=>False
 | .slice t x lo hi mx=>wv (ev ρ x) λv=>match vI ρ lo,vI ρ hi,vI ρ mx with
  | some lo,some hi,some mx=>n4 P t v lo hi mx K
  | _,_,_=>False
 | .makeInterface t x=>wv (ev ρ x) λv=>gR (P.concrete t) (K (.iface t v))
 | .typeAssert x _ t true=>wv (ev ρ x) λv=>match P.underlying t,P.info? t,kg P t with
  | some (.struct _),some ti,some (.agg cs)=>match ti.zero with
   | some (.agg zs)=>xq v t zs.toList cs [] λvs b=>K (.tuple #[.agg vs.toArray,.bool b])
   | _=>False
  | _,_,_=>False
 | .call c=>match c.callee,qZ ρ c.args.toList,c.argTypes.toList with
  | .builtin .len,some [x],[t]=>mF P t x h K
  | .builtin .cap,some [.slice _ _ n],[t]=>(match P.underlying t with|some (.slice _)=>K (.int .i64 (n:Int))|_=>False)
  | .builtin .max,some (x::xs),_=>pf true x xs K
  | .builtin .min,some (x::xs),_=>pf false x xs K
  | _,_,_=>False
 | _=>False
def s8:Op->Bool
 | .move _ | .assign _ | .pick .. | .load _ _ | .nilCheck _ | .binOp .. | .unOp .. | .convert .. | .fieldAddr .. | .field .. | .indexAddr .. | .index .. | .lookup .. | .extract .. | .makeFunc .. | .build .. | .slice .. | .makeInterface .. => true
 | .typeAssert _ _ _ ok=>ok
 | .call c=>match c.callee with | .builtin .len | .builtin .cap | .builtin .max | .builtin .min=>true|_=>false
 | _=>false
theorem V4 {P:Program}{t:Nat}{i:TypeInfo}(hi:P.info? t=some i)(w:World):(typeInfo t).run P w=.ok i w:=by
 simp[typeInfo,hi]
theorem QV {P:Program}{t:Nat}(h:(P.info? t).isSome=true)(w:World):(sizeOf t).run P w=.ok (P.cellsOf t) w:=by
 obtain⟨i,a⟩:=qj.1 h;simp[sizeOf,typeInfo,a,Program.cellsOf]
theorem Vs {P:Program}{t:Nat}{i:TypeInfo}{z:Value}(hi:P.info? t=some i)(hz:i.zero=some z)(w:World):(zeroValue t).run P w=.ok z w:=by
 simp[zeroValue,typeInfo,hi,hz]
theorem Nv {P:Program}{op:BinOp}{t:Nat}{k:IntKind}{x y:Int}{K:Value->Prop}(h:qA op k x y K)(w:World) :
 ∃v,(binOp op t (.int k x) (.int k y)).run P w=.ok v w/\K v:=by
 cases op<;>simp only[qA,Ar,Nz,Nn]at h
 all_goals first
  | (refine⟨_,?_,h⟩;simp[binOp,Op.intArith,Op.intCmp,Op.intBits,bits];done)
  | (obtain⟨a,b⟩:=h;refine⟨_,?_,b⟩;simp[binOp,Op.intDiv,a];done)
  | (obtain⟨a,b⟩:=h;refine⟨_,?_,b⟩;simp[binOp,Op.shift,Int.not_lt.2 a];done)
theorem UB {P:Program}{op:BinOp}{t:Nat}{x y:Value}{b:Bool}{K:Value->Prop}(h:nE op b K)(w:World)
 (hb:∀op,(op=.eql\/op=.neq)->binOp op t x y=if op=.eql then(do pure (.bool (←Op.equal t x y)))else(do pure (.bool (!(←Op.equal t x y)))))
 (he:(Op.equal t x y).run P w=.ok b w):∃v,(binOp op t x y).run P w=.ok v w/\K v:=by
 cases op<;>simp only[nE]at h
 case eql=>exact⟨_,by rw[hb .eql (.inl rfl)];simp[he],h⟩
 case neq=>exact⟨_,by rw[hb .neq (.inr rfl)];simp[he],h⟩
theorem Jo {P:Program}{t e:Nat}(hu:P.underlying t=some (.pointer e))(p:Option Addr)(d:Nat)(w:World):(Op.equalIn (d+1) t (.pointer p) (.pointer none)).run P w=.ok p.isNone w:=by
 cases p<;>simp[Op.equalIn,run_underlying hu]
theorem Nc {P:Program}{t e:Nat}(hu:P.underlying t=some (.slice e))(p:Option Addr)(n c d:Nat)(w:World):(Op.equalIn (d+1) t (.slice p n c) (.slice none 0 0)).run P w=.ok p.isNone w:=by
 cases p<;>simp[Op.equalIn,run_underlying hu]
theorem MS {P:Program}{t k e:Nat}(hu:P.underlying t=some (.map k e))(p:Option Nat)(d:Nat)(w:World):(Op.equalIn (d+1) t (.map p) (.map none)).run P w=.ok p.isNone w:=by
 cases p<;>simp[Op.equalIn,run_underlying hu]
theorem SJ {P:Program}{t:Nat}(hu:P.underlying t=some .bool)(a b:Bool)(d:Nat)(w:World):(Op.equalIn (d+1) t (.bool a) (.bool b)).run P w=.ok (a==b) w:=by
 simp[Op.equalIn,run_underlying hu]
theorem O4 {P:Program}{w:World}{s:Sl}{K:ByteArray->Prop}(h:E3 s w.heap K):∃b,(Conv.bytesToString (.slice s.a s.len s.cap)).run P w=.ok (.string b) w/\K b:=by
 obtain⟨g,i,d,m⟩:=h;refine⟨_,?_,m⟩;cases hs:s.a with
 | none=>
  rw[hs]at d;simp only[Rd,y7]at d;subst d;simp[Conv.bytesToString];rfl
 | some a=>
  rw[hs]at d;have e:(loadCells a s.len).run P w=.ok (g.map (Value.int .u8)).toArray w:=by
   rw[←i];simpa using run_loadCells_list (P:=P) (w:=w) a (g.map (Value.int .u8)) (λj v p=>d j v p)
  have key:∀(l:List Int) (acc:ByteArray),List.foldl (λb a=>b.push (UInt8.ofNat a.toNat)) acc l=⟨acc.data++(l.map λn=>UInt8.ofNat n.toNat).toArray⟩:=by
   intro l
   induction l with
   | nil=>intro acc;simp
   | cons n l ih=>intro acc;rw[lp,ih];congr 1;apply Array.ext';simp[ByteArray.push]
  simp only[Conv.bytesToString,Sem.run_bind,e,Result.andThen_ok];simp[key]
theorem P9 {P:Program}{t:Nat}{ms:Array (String×TypeId)}(hu:P.underlying t=some (.interface ms)){v:Value}(hv:jO v)(d:Nat)(w:World):(Op.equalIn (d+1) t v .nilIface).run P w=.ok (lF v) w:=by
 rcases hv with rfl|⟨t',u,rfl⟩
 ·simp[Op.equalIn,run_underlying hu,lF]
 ·simp[Op.equalIn,run_underlying hu,lF]
theorem P1 {P:Program}{xt t:TypeId}{ti:TypeInfo}{fs:Array Field}{v:Value}{vs zs:List Value}{b:Bool}(hu:P.underlying t=some (.struct fs))(hi:P.info? t=some ti)(hz:ti.zero=some (.agg zs.toArray))
 (h:kN v t vs zs b) (w:World) :
 (Instr.typeAssert v xt t true).run P w=.ok (.tuple #[.agg vs.toArray,.bool b]) w:=by
 have a:=Vs hi hz w;cases b with
 | true=>
  simp only[kN]at h;subst h;simp[Instr.typeAssert,run_underlying hu]
 | false=>
  simp only[kN]at h;obtain⟨rfl,h⟩:=h;rcases h with rfl|⟨t',u,rfl,hne⟩
  ·simp[Instr.typeAssert,run_underlying hu,a]
  ·simp[Instr.typeAssert,run_underlying hu,hne,a]
theorem R5 {P:Program}{op:BinOp}{t:Nat}{x y:Value}{K:Value->Prop}(h:mI P op t x y K)(w:World) :
 ∃v,(binOp op t x y).run P w=.ok v w/\K v:=by
 unfold mI at h;split at h
 case h_1 e p hu=>
  refine UB h w ?_ ?_
  ·rintro op (rfl|rfl)<;>simp[binOp]
  ·exact Jo hu p 9999 w
 case h_2 e p _ _ hu=>
  refine UB h w ?_ ?_
  ·rintro op (rfl|rfl)<;>simp[binOp]
  ·exact Nc hu p _ _ 9999 w
 case h_3 e e' p hu=>
  refine UB h w ?_ ?_
  ·rintro op (rfl|rfl)<;>simp[binOp]
  ·exact MS hu p 9999 w
 case h_4 ms hu=>
  obtain⟨a,h⟩:=h;refine UB h w ?_ ?_
  ·rcases a with rfl|⟨t',u,rfl⟩<;>rintro op (rfl|rfl)<;>simp[binOp]
  ·exact P9 hu a 9999 w
 ·exact h.elim
theorem T9 {P:Program}{op:BinOp}{t:Nat}{x y:Value}{K:Value->Prop}(h:mr P op t x y K)(w:World) :
 ∃v,(binOp op t x y).run P w=.ok v w/\K v:=by
 unfold mr at h;split at h
 case h_1 k a k' b=>
  split at h
  ·rename_i e;subst e;exact Nv h w
  ·cases op<;>simp only at h
   case shl=>simp only[qA,Ar,Nn]at h;obtain⟨d,g⟩:=h;exact⟨_,by simp[binOp,Op.shift,Int.not_lt.2 d],g⟩
   case shr=>simp only[qA,Ar,Nn]at h;obtain⟨d,g⟩:=h;exact⟨_,by simp[binOp,Op.shift,Int.not_lt.2 d],g⟩
 case h_2 a b=>
  split at h
  ·rename_i hu;refine UB h w ?_ ?_
   ·rintro op (rfl|rfl)<;>simp[binOp]
   ·exact SJ hu a b 9999 w
  ·exact h.elim
 case h_3 a b=>
  cases op<;>simp only at h
  ·exact⟨_,rfl,h⟩
  ·exact⟨_,rfl,h⟩
 ·exact h.elim
theorem D9 {c:CK}{a:Addr}{h:Hp}{K:c.T->Prop}(hl:xU c a h K):∃x,cell h a=some (c.v x)/\K x:=by
 cases c<;>exact hl
theorem Bc {P:Program}{w:World}{a:Addr}{v:Value}(h:cell w.heap a=some v):(load a).run P w=.ok v w:=by
 have:w.cell? a=some v:=h;simp[this]
theorem BC {P:Program}{w:World}:∀{cs:List CK} {a:Addr} {i:Nat} {K:List Value->Prop},nW cs a i w.heap K →
 ∃vs,vs.length=cs.length/\K vs/\∀acc,(loadCellsFrom a i cs.length acc).run P w=.ok (acc++vs.toArray) w
 | [],a,i,K,h=>⟨[],rfl,h,λacc=>by simp[loadCellsFrom]⟩
 | c::cs,a,i,K,h=>by
  obtain⟨x,hx,hK⟩:=D9 h;obtain⟨vs,d,b,e⟩:=BC (P:=P) hK;refine⟨c.v x::vs,by simp[d],b,λacc=>?_⟩;simp only[zP,loadCellsFrom,Sem.run_bind,Bc hx,Result.andThen_ok,e]
  congr 1
  apply Array.ext';simp
theorem KK {P:Program}{t:Nat}{d:TypeDesc}(h:P.underlying t=some d)(w:World):(isAgg t).run P w=.ok (Ux d) w:=by
 simp only[isAgg,Sem.run_bind,run_underlying h,Result.andThen_ok];cases d<;>rfl
theorem FA {P:Program}{t:Nat}{c:CK}(h:kg P t=some (.one c)):∃d,P.underlying t=some d/\Ux d=false:=by
 unfold kg at h;split at h
 ·rename_i d hd;refine⟨d,hd,?_⟩;cases e:Ux d
  ·rfl
  ·rw[e]at h;simp at h
 ·cases h
theorem Ft {P:Program}{t:Nat}{c:List CK}(h:kg P t=some (.agg c)):∃d,P.underlying t=some d/\Ux d=true:=by
 unfold kg at h;split at h
 ·rename_i d hd;refine⟨d,hd,?_⟩;cases e:Ux d
  ·rw[e]at h;simp at h
  ·rfl
 ·cases h
theorem PT {P:Program}{t ty:Nat}{x:Value}{K:Value->Prop}{w:World}(h:mF P t x w.heap K) :
 ∃v,(Builtin.len_ #[t] ty #[x]).run P w=.ok v w/\K v:=by
 unfold mF at h;split at h
 case h_1 e a n c hu=>exact⟨_,by simp[Builtin.len_,run_underlying hu,goInt],h⟩
 case h_2 s hu=>exact⟨_,by simp[Builtin.len_,run_underlying hu,goInt],h⟩
 case h_3 n e y hu=>exact⟨_,by simp[Builtin.len_,run_underlying hu,goInt],h⟩
 case h_4 kt et m hu=>
  split at h
  case h_1 k c hk hs=>
   obtain⟨l,d,g⟩:=h;cases m with
   | none=>simp only[jV]at d;subst d;exact⟨_,by simp[Builtin.len_,run_underlying hu,goInt],g⟩
   | some r=>
    obtain⟨j,u,i,p,_⟩:=d;have b:j.size=l.length:=by simpa using congrArg List.length p
    refine⟨_,?_,g⟩;simp[Builtin.len_,run_underlying hu,goInt,getObj,Sem.run,i,b]
  ·exact h.elim
 ·exact h.elim
theorem AW {P:Program}{w:World}:∀{vs:List Value} {v:Value} {b:Bool} {K:Value->Prop},pf b v vs K →
 ∃z,(vs.foldlM (if b then Builtin.max2 else Builtin.min2) v).run P w=.ok z w/\K z
 | [],v,b,K,h=>⟨v,by simp,by simpa[pf]using h⟩
 | u::vs,v,b,K,h=>by
  cases v<;>cases u<;>simp only[pf]at h<;>try exact h.elim
  case int.int k x k' y=>
   obtain⟨z,hz,hK⟩:=AW h;refine⟨z,?_,hK⟩;cases b
   ·simpa[Builtin.min2]using hz
   ·simpa[Builtin.max2]using hz
theorem Z3 {ρ:Env}{a:Act}(hf:∀x v,ev ρ x=some v->a.eval x=v):∀{os:List Operand} {vs:List Value},qZ ρ os=some vs->os.map a.eval=vs
 | [],vs,h=>by simp[qZ]at h;simp[h]
 | o::os,vs,h=>by
  simp only[qZ]at h;split at h
  ·rename_i v vs' h1 h2;cases h;simp[hf _ _ h1,Z3 hf h2]
  ·cases h
theorem VZ {ρ:Env}{a:Act}(hf:∀x v,ev ρ x=some v->a.eval x=v):∀{os:List (Nat×Operand)} {vs:List (Nat×Value)},H4 ρ os=some vs->os.map (λ(i,x)=>(i,a.eval x))=vs
 | [],vs,h=>by simp[H4]at h;simp[h]
 | (i,o)::os,vs,h=>by
  simp only[H4]at h;split at h
  ·rename_i v vs' h1 h2;cases h;simp[hf _ _ h1,VZ hf h2]
  ·cases h
theorem GI {k:IntKind}{n:Int}{c:CK}:∀(es:List MapEntry) (l:List (Int×c.T)) (i:Nat),
 es.map (λe=>(e.key,e.val))=l.map (λx=>(Value.int k x.1,c.v x.2)) →
 Instr.findNow (.int k) (.int k n) es i=some (match l.findIdx? (λx=>x.1==n)with|some j=>some (i+j,match l[j]? with|some x=>c.v x.2|none=>undef)|none=>none)
 | [],l,i,h=>by
  cases l with
  | nil=>simp[Instr.findNow]
  | cons x l=>simp at h
 | e::es,[],i,h=>by simp at h
 | e::es,x::l,i,h=>by
  simp only[zJ,List.cons.injEq,Prod.mk.injEq]at h;obtain⟨⟨h1,h2⟩,h3⟩:=h;have d:=GI (n:=n) es l (i+1) h3;simp only[Instr.findNow,h1,Instr.sameNow,zT];by_cases hx:n=x.1
  ·have a:(n==x.1)=true:=by simpa using hx
   have b:(x.1==n)=true:=by simpa using hx.symm
   simp[wb,a,b,h2]
  ·have a:(n==x.1)=false:=by simpa using hx
   have b:(x.1==n)=false:=by simpa using λh=>hx h.symm
   simp only[a,d,wb,b];cases List.findIdx? (λx=>x.1==n) l with
   | none=>simp
   | some j=>simp;omega
theorem Kt {P:Program}{kt:Nat}{k:IntKind}(hk:P.underlying kt=some (.int k)){n:Int}{c:CK}{es:List MapEntry}{l:List (Int×c.T)}
 (he:es.map (λe=>(e.key,e.val))=l.map (λx=>(Value.int k x.1,c.v x.2))) (w:World) :
 (Instr.findKey kt (.int k n) es).run P w=.ok (match l.findIdx? (λx=>x.1==n)with|some j=>some (j,match l[j]? with|some x=>c.v x.2|none=>undef)|none=>none) w:=by
 simp[Instr.findKey,run_underlying hk,GI es l 0 he]
theorem Pd {P:Program}{kt:Nat}{k:IntKind}(hk:P.underlying kt=some (.int k))(b:Bool)(n:Int)(d:Nat)(w:World) :
 (Instr.checkKey b (d+1) kt (.int k n)).run P w=.ok () w:=by
 simp[Instr.checkKey,run_underlying hk]
theorem QN {P:Program}{kt:Nat}{k:IntKind}(hk:P.underlying kt=some (.int k))(b:Bool)(n:Int)(w:World) :
 (Instr.checkKey b 10000 kt (.int k n)).run P w=.ok () w:=Pd hk b n 9999 w
theorem NI {α:Type}(l:List (Int×α))(n:Int):bV l n=(l.findIdx? (λx=>x.1==n)).bind λj=>(l[j]?).map (·.2):=by
 induction l with
 | nil=>rfl
 | cons x l ih=>
  simp only[bV,uY,wb]at *;cases h:x.1==n
  ·simp only[ih];cases List.findIdx? (λx=>x.1==n) l<;>simp
  ·simp
theorem Ul {α:Type}{l:List (Int×α)}{n:Int}{j:Nat}(h:l.findIdx? (λx=>x.1==n)=some j):∃x,l[j]?=some x/\x.1=n:=by
 rw[oF]at h;obtain⟨b,a,_⟩:=h;exact⟨l[j],by simp[b],by simpa using a⟩
theorem Wi3 {P:Program}{t:Nat}{x i:Value}{ok:Bool}{K:Value->Prop}{w:World}(h:yU P t x i ok w.heap K) :
 ∃v,(Instr.lookup t x i ok).run P w=.ok v w/\K v:=by
 unfold yU at h;split at h
 case h_2=>exact h.elim
 rename_i kt et m k n hu;split at h
 case h_2=>exact h.elim
 rename_i k' c ti hk hs hi;split at h
 case h_2=>exact h.elim
 rename_i z hz;split at h
 case isFalse=>exact h.elim
 rename_i e;subst e;obtain⟨B,a,l,b,s⟩:=Ur h;refine⟨_,?_,s⟩;cases m with
 | none=>
  simp only[jV]at b;subst b;simp only[Instr.lookup,Sem.run_bind,run_underlying hu,Result.andThen_ok,Sem.run_pure,QN hk,Kt (c:=c) (l:=[]) hk (rfl:List.map _ (#[]:Array MapEntry).toList=_),List.findIdx?_nil,Vs hi hz];cases ok<;>simp[bV,a]
 | some r=>
  obtain⟨A,u,d,g,_⟩:=b;simp only[Instr.lookup,Sem.run_bind,run_underlying hu,Result.andThen_ok,Sem.run_pure,QN hk,getObj,Sem.run,d,Kt hk g,NI];cases hf:l.findIdx? (λx=>x.1==n)with
  | none=>cases ok<;>simp[Vs hi hz,a]
  | some j=>
   obtain⟨y,p,_⟩:=Ul hf;cases ok<;>simp[p]
theorem Ij (off:Nat):∀(vs:List Value) (k:Nat) (cs:Array Value),off+k+vs.length<=cs.size →
 ((vs.zipIdx k).foldl (λcs (c,j)=>cs.setIfInBounds (off+j) c) cs).toList=cs.toList.take (off+k)++vs++cs.toList.drop (off+k+vs.length)
 | [],k,cs,h=>by simp
 | v::vs,k,cs,h=>by
  simp only[List.zipIdx_cons,lp];rw[Ij off vs (k+1) _ (by simp only[Array.size_setIfInBounds,zP]at *;omega)];simp only[zP]at h;have hlt:off+k<cs.toList.length:=by simp;omega
  simp only[Array.toList_setIfInBounds,zP];apply zy;intro m;simp only[List.getElem?_append,zO,oR,zK,zY,ov,zo,List.getElem?_cons,zP]
  grind
theorem UD (Zw:Nat->Option (Nat×Nat)):∀(ps:List (Nat×Value)) (cells:List Value) (cs:List Value),rU Zw cells ps=some cs->Instr.fill Zw cells.toArray ps=some cs.toArray
 | [],cells,cs,h=>by simp[rU]at h;simp[Instr.fill,h]
 | (i,v)::rest,cells,cs,h=>by
  simp only[rU]at h;simp only[Instr.fill];cases hp:Zw i with
  | none=>rw[hp]at h;cases h
  | some os=>
   obtain⟨off,size⟩:=os;rw[hp]at h;simp only at h ⊢;split at h
   ·cases h
   ·rename_i hc;simp only[not_or,Decidable.not_not,Nat.not_lt]at hc;obtain⟨a,b⟩:=hc;rw[zA (by simp[a];omega)];have:=Ij off v.cells.toList 0 cells.toArray aE;have e:(v.cells.zipIdx.foldl (λcs (c,j)=>cs.setIfInBounds (off+j) c) cells.toArray)=(cells.take off++v.cells.toList++cells.drop (off+size)).toArray:=by
     apply Array.ext';rw[←Array.foldl_toList,Array.toList_zipIdx,this];simp[a]
    rw[e];exact UD Zw rest _ _ h
theorem E8 {P:Program}{w:World}:∀(fs:List Field),(fs.all λf=>(P.info? f.type).isSome)=true →
 (fs.mapM λf=>(do pure (f.offset,←sizeOf f.type):Sem (Nat×Nat))).run P w=.ok (fs.map λf=>(f.offset,P.cellsOf f.type)) w
 | [],_=>by simp
 | f::fs,h=>by
  simp only[vt,zF]at h;have ih:=E8 (P:=P) (w:=w) fs h.2;simp only[List.mapM_cons,Sem.run_bind,QV h.1,Result.andThen_ok,Sem.run_pure,ih,zJ]
theorem DO {raw:Nat->Bool}:∀{ps:List (Nat×Value)} {A:Prop},mq raw ps A->A/\∀Zw cells,Instr.fill Zw cells (xN raw ps)=Instr.fill Zw cells ps
 | [],A,h=>⟨h,λ_ _=>rfl⟩
 | (i,v)::ps,A,h=>by
  simp only[mq]at h;cases hr:raw i
  ·rw[hr]at h;obtain⟨hA,ih⟩:=DO h;exact⟨hA,λZw cells=>by simp only[xN,Instr.fill,ih,hr,cond_false]⟩
  ·rw[hr]at h;simp only[cond_true]at h;obtain⟨hA,ih⟩:=DO h.2;have e:(Value.agg #[v]).cells=v.cells:=by
    rcases h.1 with rfl|⟨t,u,rfl⟩<;>rfl
   exact⟨hA,λZw cells=>by simp only[xN,Instr.fill,ih,hr,cond_true,e]⟩
theorem Tx {P:Program}{t:Nat}{ps:Array (Nat×Value)}{K:Value->Prop}{w:World}(h:nY P t ps.toList K) :
 ∃v,(Instr.build t ps).run P w=.ok v w/\K v:=by
 unfold nY at h;split at h
 case h_1 p fs hi hu=>
  split at h
  case h_2=>exact h.elim
  rename_i z hz;obtain⟨h,j⟩:=DO h;split at h
  case h_2=>exact h.elim
  rename_i cs hf;rw[WJ]at h;obtain⟨a,u⟩:=h;refine⟨_,?_,u⟩;have r:=E8 (P:=P) (w:=w) fs.toList a;have m:(fs.mapM λf=>(do pure (f.offset,←sizeOf f.type):Sem (Nat×Nat))).run P w=.ok (fs.map λf=>(f.offset,P.cellsOf f.type)) w:=by
   rw[Array.mapM_eq_mapM_toList];simp only[Sem.run_map,r,Result.andThen_ok]
   congr 1
   apply Array.ext';simp
  have d:(λi=>(fs.map λf=>(f.offset,P.cellsOf f.type))[i]?)=Dd P fs:=by
   funext i
   simp only[Dd,Array.getElem?_map];cases hfi:fs[i]? with
   | none=>simp
   | some f=>
    have b:f∈fs.toList:=by
     have:=Bd hfi;simpa using this
    have:=kM.1 a f b;obtain⟨p,g⟩:=qj.1 this;simp[g,Program.cellsOf]
  have:=UD _ _ _ _ hf;rw[j]at this;simp only[Instr.build,Sem.run_bind,Vs hi hz,Result.andThen_ok,run_underlying hu,m,d];have e:z.cells.toList.toArray=z.cells:=by simp
  rw[e]at this;simp[this]
 case h_2 p n e hi hu=>
  split at h
  case h_2=>exact h.elim
  rename_i z te hz hte;split at h
  case h_2=>exact h.elim
  rename_i cs hf;refine⟨_,?_,h⟩;have:=UD _ _ _ _ hf;have s:z.cells.toList.toArray=z.cells:=by simp
  rw[s]at this;have x:(sizeOf e).run P w=.ok te.size w:=by simp[sizeOf,V4 hte]
  simp only[Instr.build,Sem.run_bind,Vs hi hz,Result.andThen_ok,run_underlying hu,x];simp[this]
 ·exact h.elim
theorem Wq {o:Option Value}{K:Value->Prop}(h:wv o K):∃v,o=some v/\K v:=by
 cases o with
 | none=>exact h.elim
 | some v=>exact⟨v,rfl,h⟩
theorem Ε {P:Program}{t off:Nat}{cs:Array Value}{K:Value->Prop}{w:World}(h:vF P t cs.toList off K) :
 ∃v,(part t cs off).run P w=.ok v w/\K v:=by
 unfold vF at h;split at h
 case h_2=>exact h.elim
 rename_i d ti hu hi;cases hd:Ux d
 ·rw[hd]at h;obtain⟨v,a,b⟩:=Wq h;refine⟨v,?_,b⟩;have:cs[off]?=some v:=by simpa using a
  simp[part,KK hu,hd,this]
 ·rw[hd]at h;refine⟨_,?_,h⟩;simp only[part,Sem.run_bind,KK hu,hd,Result.andThen_ok,sizeOf,V4 hi,zT,Sem.run_pure]
  congr 2
  apply Array.ext';simp
theorem Ke {P:Program}{w:World}{z:Int}{y:Nat}{code:BoundsCode}(h0:0<=z)(h1:z<=y):(Instr.sliceBound (.int .i64 z) y code).run P w=.ok z.toNat w:=by
 simp[Instr.sliceBound,asIntOf,h0,h1]
theorem JQ {o:Option Value}{d l:Int}(h:(match o with|none=>some d|some (.int .i64 z)=>some z|_=>none)=some l):(o=none/\l=d)\/o=some (.int .i64 l):=by
 split at h
 ·simp at h;exact .inl ⟨rfl,h.symm⟩
 ·simp at h;subst h;exact .inr rfl
 ·cases h
theorem PY {P:Program}{t:Nat}{x:Value}{lo hi mx:Option Value}{K:Value->Prop}{w:World}(h:n4 P t x lo hi mx K) :
 ∃v,(Instr.sliceAt t x lo hi mx).run P w=.ok v w/\K v:=by
 unfold n4 at h;split at h
 case h_2=>exact h.elim
 rename_i e a n c hu;split at h
 case h_2=>exact h.elim
 rename_i ti hi';simp only at h;split at h
 case h_2=>exact h.elim
 rename_i l hh m hlo hhi hmx;obtain⟨j,u,A,r,p⟩:=h;refine⟨_,?_,p⟩;simp only at r;have b:(sizeOf e).run P w=.ok ti.size w:=by simp[sizeOf,V4 hi']
 have s:(Instr.sliceBounds true n c lo hi mx).run P w=.ok (l.toNat,hh.toNat,m.toNat) w:=by
  have i:(mx=none/\m=c)\/(mx=some (.int .i64 m)/\hi≠none):=by
   split at hmx
   ·simp at hmx;exact .inl ⟨rfl,hmx.symm⟩
   ·simp at hmx;subst hmx;exact .inr ⟨rfl,by simp⟩
   ·cases hmx
  have g:=JQ hlo;have d:=JQ hhi;clear hlo hhi hmx;rcases i with⟨rfl,rfl⟩|⟨rfl,hne⟩<;>rcases d with⟨rfl,rfl⟩|rfl
  case inr.inl=>exact absurd rfl hne
  all_goals rcases g with⟨rfl,rfl⟩|rfl
  ·simp[Instr.sliceBounds]
  ·have:=Ke (P:=P) (w:=w) (z:=l) (y:=n) (code:=.sliceB) j O;simp[Instr.sliceBounds,this]
  ·have:=Ke (P:=P) (w:=w) (z:=hh) (y:=c) (code:=.sliceAcap) O O;simp[Instr.sliceBounds,this]
  ·have:=Ke (P:=P) (w:=w) (z:=hh) (y:=c) (code:=.sliceAcap) O O;have:=Ke (P:=P) (w:=w) (z:=l) (y:=hh.toNat) (code:=.sliceB) O O;simp[Instr.sliceBounds, *]
  ·have:=Ke (P:=P) (w:=w) (z:=m) (y:=c) (code:=.slice3Acap) O O;have:=Ke (P:=P) (w:=w) (z:=hh) (y:=m.toNat) (code:=.slice3B) O O;simp[Instr.sliceBounds, *]
  ·have:=Ke (P:=P) (w:=w) (z:=m) (y:=c) (code:=.slice3Acap) O O;have:=Ke (P:=P) (w:=w) (z:=hh) (y:=m.toNat) (code:=.slice3B) O O;have:=Ke (P:=P) (w:=w) (z:=l) (y:=hh.toNat) (code:=.slice3C) O O;simp[Instr.sliceBounds, *]
 simp only[Instr.sliceAt,Instr.slice,Sem.run_bind,run_underlying hu,Result.andThen_ok,s,b,Sem.run_pure]
theorem Mp {P:Program}{op:BinOp}{t:Nat}{x y:Operand}{a b:Value}(w:World)(h:(∀cs,a≠.agg cs)/\a≠.nilIface):(eqGuard op t x y a b).run P w=.ok () w:=by
 unfold eqGuard;cases op<;>simp
 all_goals (cases a<;>first|rfl | (simp at h))
theorem Ω {P:Program}{op:BinOp}{t:Nat}{x y:Value}{K:Value->Prop}(h:mr P op t x y K):(∀cs,x≠.agg cs)/\x≠.nilIface:=by
 unfold mr at h;split at h<;>first|exact absurd h id | (constructor<;>simp)
theorem NQ {P:Program}{op:BinOp}{t:Nat}{x y:Value}{K:Value->Prop}(h:mI P op t x y K):∀cs,x≠.agg cs:=by
 unfold mI at h;split at h
 case h_4=>rcases h.1 with rfl|⟨t',u,rfl⟩<;>simp
 all_goals first|exact absurd h id|simp
theorem RU {P:Program}{op:BinOp}{t:Nat}{x:Operand}{c:Value}{a b:Value}(w:World)(h:∀cs,a≠.agg cs):(eqGuard op t x (.const c) a b).run P w=.ok () w:=by
 unfold eqGuard;cases op<;>simp
 all_goals (cases a<;>first|rfl|exact absurd rfl (h _) | (cases b<;>simp))
theorem LX {y:Operand}(h:xh y=true):∃c,y=.const c:=by
 unfold xh at h;split at h<;>first|exact⟨_,rfl⟩|cases h
theorem yG {P:Program}{s f:Nat}{K:Field->Prop}(h:nX P s f K):∃fs fd,P.underlying s=some (.struct fs)/\fs[f]?=some fd/\K fd:=by
 unfold nX at h;split at h
 ·split at h
  ·exact⟨_,_,by assumption,by assumption,h⟩
  ·exact h.elim
 ·exact h.elim
theorem Sv {P:Program}{t:Nat}(h:P.cellsOf t≠0):(P.info? t).isSome=true:=by
 unfold Program.cellsOf at h;cases hi:P.info? t with
 | none=>rw[hi]at h;simp at h
 | some i=>rfl
theorem B9 {ρ:Env}{a:Act}(hf:∀x v,ev ρ x=some v->a.eval x=v){o:Option Operand}{v:Option Value}(h:vI ρ o=some v):o.map a.eval=v:=by
 cases o with
 | none=>simp[vI]at h;simp[h]
 | some o=>
  simp only[vI,qH]at h;obtain⟨u,b,rfl⟩:=h;simp[hf _ _ b]
theorem VC {P:Program}{t:Nat}{d:TypeDesc}{cs:Array Value}{off:Nat}{v:Value}{w:World}(hd:P.underlying t=some d)(hag:Ux d=false)(h:cs.toList[off]?=some v):(part t cs off).run P w=.ok v w:=by
 have a:cs[off]?=some v:=by simpa using h
 simp[part,KK hd,hag,a]
theorem Di {P:Program}{xs ys:Array Value}(d:Nat):∀(fs:List Field) (b:Bool),qd P xs.toList ys.toList fs=some b->∀w,(Op.eqFields (d+1) xs ys fs).run P w=.ok b w
 | [],b,h,w=>by simp[qd]at h;subst h;simp[Op.eqFields]
 | f::fs,b,h,w=>by
  simp only[qd]at h;cases hn:f.name == "_"
  ·rw[hn]at h;simp only[cond_false]at h;have hne:f.name ≠ "_" := by simpa using hn
   split at h
   ·rename_i k0 k a k' b' r hu hx hy hr;split at h
    case isFalse=>cases h
    rename_i e;subst e;simp only[Option.some.injEq]at h;subst h;have ih:=Di (d:=d) fs r hr w;simp only[Op.eqFields,hne,ne_eq,not_false_eq_true,zT,Sem.run_bind,VC hu rfl hx,VC hu rfl hy,Result.andThen_ok,run_equalIn_int w d f.type k k0 a b' hu];cases hab:a==b'<;>simp[ih]
   ·rename_i a b' r hu hx hy hr;simp only[Option.some.injEq]at h;subst h;have ih:=Di (d:=d) fs r hr w;simp only[Op.eqFields,hne,ne_eq,not_false_eq_true,zT,Sem.run_bind,VC hu rfl hx,VC hu rfl hy,Result.andThen_ok,run_equalIn_bool' w d f.type a b' hu];cases hab:a==b'<;>simp[ih]
   ·cases h
  ·rw[hn]at h;cases h
theorem DD {P:Program}{e:TypeId}(hC:P.cellsOf e=1){xs ys:Array Value}(d:Nat):∀(is:List Nat) (b:Bool),pD P e xs.toList ys.toList is=some b->∀w,(Op.eqItems (d+1) e (P.cellsOf e) xs ys is).run P w=.ok b w
 | [],b,h,w=>by simp[pD]at h;subst h;simp[Op.eqItems]
 | i::is,b,h,w=>by
  simp only[pD]at h;split at h
  ·rename_i k0 k a k' b' r hu hx hy hr;split at h
   case isFalse=>cases h
   rename_i e';subst e';simp only[Option.some.injEq]at h;subst h;have ih:=DD hC d is r hr w;simp only[Op.eqItems,hC,ox,Sem.run_bind,VC hu rfl hx,VC hu rfl hy,Result.andThen_ok,run_equalIn_int w d e k k0 a b' hu];rw[hC]at ih;cases hab:a==b'<;>simp[ih]
  ·rename_i t0 p r hu hx hy hr;simp only[Option.some.injEq]at h;subst h;have ih:=DD hC d is r hr w;simp only[Op.eqItems,hC,ox,Sem.run_bind,VC hu rfl hx,VC hu rfl hy,Result.andThen_ok,Jo hu p d w];rw[hC]at ih;cases hab:p.isNone<;>simp[ih]
  ·cases h
theorem MN {P:Program}{op:BinOp}{t:Nat}{xs ys:Array Value}{K:Value->Prop}(h:om P op t xs.toList ys.toList K)(x y:Operand)(w:World) :
 ∃v,(do eqGuard op t x y (.agg xs) (.agg ys);binOp op t (.agg xs) (.agg ys):Sem Value).run P w=.ok v w/\K v:=by
 have fin:∀b:Bool,(Op.equalIn 10000 t (.agg xs) (.agg ys)).run P w=.ok b w->P.eqGuardType P.depth t=false->nE op b K →
  ∃v,(do eqGuard op t x y (.agg xs) (.agg ys);binOp op t (.agg xs) (.agg ys):Sem Value).run P w=.ok v w/\K v:=by
  intro b a hgt h;have j:=run_eqGuard_agg (P:=P) w op t x y xs ys hgt;cases op<;>simp only[nE]at h
  ·exact⟨_,by simp only[Sem.run_bind,j,Result.andThen_ok,run_eql_struct,a],h⟩
  ·exact⟨_,by simp only[Sem.run_bind,j,Result.andThen_ok,run_neq_struct,a],h⟩
 unfold om at h;split at h
 case h_1 fs hu=>
  rw[WJ]at h;obtain⟨d,h⟩:=h;simp only[zF,nj]at d;split at h
  case h_2=>exact h.elim
  rename_i b hb;have g:P.fieldsOf t=fs:=by simp[Program.fieldsOf,hu]
  have a:(Op.equalIn 10000 t (.agg xs) (.agg ys)).run P w=.ok b w:=by
   have:=run_equalIn_struct (P:=P) w 9999 t xs ys (by rw[g];exact hu) d.1;rw[g]at this;exact this.trans (Di 9998 fs.toList b hb w)
  exact fin b a d.2 h
 case h_2 n e hu=>
  rw[WJ]at h;obtain⟨d,h⟩:=h;simp only[zF,nj,zX]at d;split at h
  case h_2=>exact h.elim
  rename_i b hb;obtain⟨i,m⟩:=qj.1 d.2.1;exact fin b ((run_equalIn_array (P:=P) w 9999 xs ys hu m).trans (DD d.2.2 9998 _ b hb w)) d.1 h
 case h_3=>exact h.elim
theorem G5 {P:Program}{ρ:Env}{K:Value->Prop}{a:Act}{w:World}(hf:∀x v,ev ρ x=some v->a.eval x=v)(o:Oper)(hk:qK P o.op ρ w.heap K) :
 ∃v,(execOp a.eval o).run P w=.ok (.value v) w/\K v:=by
 obtain⟨dst,op,ty,pos,Y,Z⟩:=o;simp only at hk;have g:∀{s:Sem Value},(∃v,s.run P w=.ok v w/\K v)->∃v,(do pure (Next.value (←s)):Sem Next).run P w=.ok (.value v) w/\K v:=by
  rintro s ⟨v,j,e⟩;exact⟨v,by simp[j],e⟩
 unfold qK at hk;split at hk
 case h_1 x=>
  obtain⟨v,j,e⟩:=Wq hk;exact⟨v,by simp[execOp,hf _ _ j],e⟩
 case h_2 x=>
  obtain⟨v,j,e⟩:=Wq hk;exact⟨v,by simp[execOp,hf _ _ j],e⟩
 case h_3 c x y=>
  obtain⟨v,j,e⟩:=Wq hk;split at e
  ·obtain⟨u,B,e⟩:=Wq e;exact⟨u,by simp[execOp,hf _ _ j,asBool,hf _ _ B],e⟩
  ·obtain⟨u,B,e⟩:=Wq e;exact⟨u,by simp[execOp,hf _ _ j,asBool,hf _ _ B],e⟩
  ·exact e.elim
 case h_4 t x=>
  obtain⟨v,j,e⟩:=Wq hk;simp only[execOp,hf _ _ j];apply g;split at e
  case h_1 M c G=>
   rw[WJ]at e;obtain⟨d,hd,H⟩:=FA G;obtain⟨x,p,e⟩:=D9 e.2;exact⟨_,by simp only[Instr.loadAt,Instr.sureAddr,loadVar,Sem.run_bind,Sem.run_pure,Result.andThen_ok,KK hd,H];simpa using Bc p,e⟩
  case h_2 M cs G=>
   rw[WJ,WJ]at e;obtain⟨r,z,e⟩:=e;obtain⟨d,hd,H⟩:=Ft G;obtain⟨vs,hl,e,hr⟩:=BC (P:=P) e;have X:P.cellsOf t=cs.length:=by simpa using r
   refine⟨_,?_,e⟩;simp only[Instr.loadAt,Instr.sureAddr,loadVar,Sem.run_bind,Sem.run_pure,Result.andThen_ok,KK hd,H,zT,QV z,loadCells,X,hr];simp
  ·exact e.elim
 case h_5 x=>
  obtain⟨v,j,e⟩:=Wq hk;simp only[execOp,hf _ _ j];split at e
  ·obtain⟨M,rfl,e⟩:=e;exact⟨_,by simp,e⟩
  ·exact⟨_,by simp,e⟩
  ·exact e.elim
 case h_6 op t x y yt=>
  obtain⟨D,p,hk⟩:=Wq hk;obtain⟨vy,hy,hk⟩:=Wq hk;simp only[execOp,hf _ _ p,hf _ _ hy];apply g;unfold xu at hk;cases hn:xh y
  ·rw[hn]at hk;simp only[cond_false]at hk;split at hk
   ·exact MN hk x y w
   obtain⟨v,j,e⟩:=T9 hk w;exact⟨v,by simp[Mp w (Ω hk),j],e⟩
  ·rw[hn]at hk;simp only[cond_true]at hk;obtain⟨v,j,e⟩:=R5 hk w;obtain⟨c,hc⟩:=LX hn;have hg:=RU (P:=P) (op:=op) (t:=t) (x:=x) (c:=c) (b:=vy) w (NQ hk);exact⟨v,by rw[hc];simp[hg,j],e⟩
 case h_7 op ty' x=>
  obtain⟨D,p,hk⟩:=Wq hk;simp only[execOp,hf _ _ p];apply g;split at hk
  ·exact⟨_,by simp[Op.unary],hk⟩
  ·exact⟨_,by simp[Op.unary,Op.intArith],hk⟩
  ·exact hk.elim
 case h_8 s d x=>
  obtain⟨D,p,hk⟩:=Wq hk;simp only[execOp,hf _ _ p];apply g;split at hk
  ·rename_i r z;exact⟨_,by simp[convert,run_underlying r,run_underlying z,Conv.intToInt],hk⟩
  ·rename_i r z;exact⟨_,by simp[convert,run_underlying r,run_underlying z],hk⟩
  ·rename_i r z;split at hk
   ·rename_i B;obtain⟨b,hr,e⟩:=O4 (P:=P) hk;exact⟨_,by simpa[convert,run_underlying r,run_underlying z,run_underlying B]using hr,e⟩
   ·exact hk.elim
  ·exact hk.elim
 case h_9 s x f=>
  obtain⟨D,p,hk⟩:=Wq hk;obtain⟨fs,fd,G,J,hk⟩:=yG hk;simp only[execOp,hf _ _ p];apply g;split at hk
  ·rename_i M;rw[WJ]at hk;have Q:P.cellsOf fd.type≠0:=by simpa using hk.1
   refine⟨_,?_,hk.2⟩;simp only[Instr.fieldAt,Sem.run_bind,run_underlying G,Result.andThen_ok,J,Instr.sureAddr,Sem.run_pure,fieldPlace,QV (Sv Q),Q,zw]
  ·exact hk.elim
 case h_10 s x f=>
  obtain⟨D,p,hk⟩:=Wq hk;obtain⟨fs,fd,G,J,hk⟩:=yG hk;simp only[execOp,hf _ _ p];apply g;split at hk
  ·rename_i cs;obtain⟨v,j,e⟩:=Ε (w:=w) hk;refine⟨v,?_,e⟩;simp only[Instr.field,Sem.run_bind,run_underlying G,Result.andThen_ok,J,asAgg,Sem.run_pure,j]
  ·exact hk.elim
 case h_11 t x i=>
  obtain⟨D,p,hk⟩:=Wq hk;obtain⟨vi,F,hk⟩:=Wq hk;simp only[execOp,hf _ _ p,hf _ _ F];apply g;split at hk
  ·have B:=(by assumption:P.underlying t=some _);rw[WJ]at hk;obtain⟨r,M,rfl,z,N,e⟩:=hk;refine⟨_,?_,e⟩;simp[Instr.indexAt,asIntOf,run_underlying B,QV r,z,N]
  ·have B:=(by assumption:P.underlying t=some _);rw[WJ]at hk;obtain⟨r,z,N,e⟩:=hk;refine⟨_,?_,e⟩;simp[Instr.indexAt,asIntOf,run_underlying B,QV r,z,N,Instr.sureAddr]
  ·exact hk.elim
 case h_12 t x i=>
  obtain⟨D,p,hk⟩:=Wq hk;obtain⟨vi,F,hk⟩:=Wq hk;simp only[execOp,hf _ _ p,hf _ _ F];apply g;split at hk
  ·have B:=(by assumption:P.underlying t=some _);obtain⟨b,r,z,e⟩:=hk;refine⟨_,?_,e⟩;simp[Instr.index,asIntOf,run_underlying B,r,z]
  ·exact hk.elim
 case h_13 t x i ok=>
  obtain⟨D,p,hk⟩:=Wq hk;obtain⟨vi,F,hk⟩:=Wq hk;simp only[execOp,hf _ _ p,hf _ _ F];exact g (Wi3 hk)
 case h_14 t i=>
  obtain⟨D,p,hk⟩:=Wq hk;simp only[execOp,hf _ _ p];apply g;split at hk
  ·obtain⟨v,j,e⟩:=Wq hk;have R:=j;rw[yX]at R;exact⟨v,by simp[Instr.extract,R],e⟩
  ·exact hk.elim
 case h_15 fn x y=>
  split at hk
  ·rename_i va vb r z;have E:=Z3 hf r;have U:=Z3 hf z;refine⟨_,?_,hk⟩;have L:x.map a.eval=va.toArray:=by apply Array.ext';simpa using E
   have W:y.map a.eval=vb.toArray:=by apply Array.ext';simpa using U
   simp[execOp,Instr.makeFunc,L,W]
  ·exact hk.elim
 case h_16 t ps=>
  split at hk
  ·rename_i vs r;have E:=VZ hf r;have L:ps.map (λ(i,x)=>(i,a.eval x))=vs.toArray:=by apply Array.ext';simpa using E
   simp only[execOp];apply g;rw[L];exact Tx (by simpa using hk)
  ·exact hk.elim
 case h_17 t x lo F mx=>
  obtain⟨D,p,hk⟩:=Wq hk;simp only[execOp,hf _ _ p];apply g;split at hk
  ·rename_i l h m r z N;rw[B9 hf r,B9 hf z,B9 hf N];exact PY hk
  ·exact hk.elim
 case h_18 t x=>
  obtain⟨D,p,hk⟩:=Wq hk;rw[WJ]at hk;simp only[execOp,hf _ _ p];exact⟨_,by simp[run_makeInterface w t D hk.1],hk.2⟩
 case h_19 x xt t=>
  obtain⟨D,p,hk⟩:=Wq hk;simp only[execOp,hf _ _ p];apply g;split at hk
  case h_2=>exact hk.elim
  rename_i fs ti cs B F G;split at hk
  case h_2=>exact hk.elim
  rename_i zs hz;obtain⟨vs,b,j,e⟩:=hk.out;exact⟨_,P1 B F (by simpa using hz) j w,e⟩
 case h_20 c=>
  obtain⟨V,C,S⟩:=c;simp only at hk;split at hk
  ·rename_i x t ha ht;have A:=Z3 hf ha;have E:C.map a.eval = #[x]:=by apply Array.ext';simpa using A
   have U:S = #[t]:=by apply Array.ext';simpa using ht
   subst U;obtain⟨v,j,e⟩:=PT (ty:=ty) hk;refine⟨v,?_,e⟩;simp[execOp,resolve,E,invoke,builtin,j]
  ·rename_i M l n t ha ht;have A:=Z3 hf ha;have E:C.map a.eval = #[.slice M l n]:=by apply Array.ext';simpa using A
   have U:S = #[t]:=by apply Array.ext';simpa using ht
   subst U;split at hk
   ·rename_i B;refine⟨_,?_,hk⟩;simp[execOp,resolve,E,invoke,builtin,Builtin.cap_,run_underlying B,goInt]
   ·exact hk.elim
  ·rename_i x xs ha;have A:=Z3 hf ha;have E:C.map a.eval=(x::xs).toArray:=by apply Array.ext';simpa using A
   obtain⟨v,j,e⟩:=AW (P:=P) (w:=w) hk;refine⟨v,?_,e⟩;simp only[zT]at j;simp[execOp,resolve,E,invoke,builtin,Builtin.max_,j]
  ·rename_i x xs ha;have A:=Z3 hf ha;have E:C.map a.eval=(x::xs).toArray:=by apply Array.ext';simpa using A
   obtain⟨v,j,e⟩:=AW (P:=P) (w:=w) hk;refine⟨v,?_,e⟩;simp only[zb,zw]at j;simp[execOp,resolve,E,invoke,builtin,Builtin.min_,j]
  ·exact hk.elim
 ·exact hk.elim
def od (P:Program):List TypeId->Option (List SK)
 | []=>some []
 | t::ts=>match kg P t,od P ts with|some s,some ss=>some (s::ss)|_,_=>none
def Hi (P:Program)(f:Nat):Bool:=
 match P.funcs[f]? with
 | some fn=>!(fn.name == "runtime.NumGoroutine") && fn.body.isSome
 | none=>false
def sW (P:Program)(f:Nat)(args:List Value)(h:Hp)(K:aO):Prop:=
 ∀w:World,w.heap=h->∃b w',(callFunc f args.toArray).run P w=.ok (.value (.bool b)) w'/\ZP w w'/\K b w'.heap
def D8 (P:Program)(f:Nat)(args:List Value)(h:Hp)(K:Value->Hp->Prop):Prop:=
 match P.funcs[f]? with
 | some fn=>match od P fn.resultTypes.toList with
  | some rs=>match Hi P f with
   | true=>We P f args.toArray rs h (lam (iI rs) λvs h'=>K (pack rs vs) h')
   | false=>match rs with
    | [.one .b]=>sW P f args h λb h'=>K (.bool b) h'
    | _=>False
  | none=>False
 | none=>False
def CN (P:Program)(v:Value)(name:String)(args:List Value)(ty:TypeId)(h:Hp)(K:Value->Hp->Prop):Prop:=
 match (match P.underlying ty with|some (.tuple ts)=>od P ts.toList|_=>od P [ty])with
 | some rs=>BP P v name args rs h (lam (iI rs) λvs h'=>K (pack rs vs) h')
 | none=>False
def Ax (P:Program)(fv:Fv):Prop:=Hi P fv.f=true
def VU (P:Program)(fv:Fv)(args:List Value)(rs:List SK)(h:Hp)(R:eV (iI rs)):Prop:=
 Ax P fv/\Lu P fv args rs h R
def Cz (P:Program)(fv:Fv)(args:List Value)(ty:TypeId)(h:Hp)(K:Value->Hp->Prop):Prop:=
 match (match P.underlying ty with|some (.tuple ts)=>od P ts.toList|_=>od P [ty])with
 | some rs=>VU P fv args rs h (lam (iI rs) λvs h'=>K (pack rs vs) h')
 | none=>False
def Dw (a:Addr)(vs:List Value)(h:Hp)(K:aP):Prop:=
 match vs with
 | [v]=>dL a v h K
 | vs=>ql a h vs 0 K
def r8 (P:Program)(t:TypeId)(K:IntKind->CK->Prop):Prop:=
 match P.underlying t with
 | some (.map kt et)=>match P.underlying kt,pG P et with
  | some (.int k),some (.one c)=>K k c
  | _,_=>False
 | _=>False
def Dg (P:Program)(t:TypeId)(len:Nat)(ps:List (Nat×Value))(K:TypeId->List Value->Prop):Prop:=
 match P.underlying t with
 | some (.slice e)=>match P.info? e with
  | some te=>match te.zero with
   | some z=>match len,ps with
    | 0,[]=>K e []
    | 0,_::_=>False
    | len+1,ps=>gR (Nat.ble ((len+1)*te.size) 16777216&&Nat.blt 0 ((len+1)*te.size)&&z.cells.size==te.size)
     (match rU (λi=>some (i*te.size,te.size)) (List.replicate (len+1) z.cells.toList).flatten ps with
     | some cs=>K e cs
     | none=>False)
   | none=>False
  | none=>False
 | _=>False
def eK (P:Program)(o:Op)(ty:TypeId)(ρ:Env)(h:Hp)(K:Value->Hp->Prop):Prop:=
 match o with
 | .store t a x=>wv (ev ρ a) λva=>wv (ev ρ x) λvx=>match va with
  | .pointer (some a)=>bif wq P t then gR ((P.info? t).isSome&&P.cellsOf t==1) (jO vx/\dL a vx h λh'=>K undef h')
   else gR ((P.info? t).isSome&&vx.cells.size==P.cellsOf t) (yo vx.cells.toList (Dw a vx.cells.toList h λh'=>K undef h'))
  | _=>False
 | .alloc e=>match P.info? e with
  | some te=>match te.zero with
   | some z=>Nw (.cells z.cells e (0,0)) h λa h'=>K (.pointer (some a)) h'
   | none=>False
  | none=>False
 | .box e x=>wv (ev ρ x) λv=>bif wq P e then jO v/\Nw (.cells #[v] e (0,0)) h λa h'=>K (.pointer (some a)) h' else Nw (.cells v.cells e (0,0)) h λa h'=>K (.pointer (some a)) h'
 | .buildSlice t len ps=>match H4 ρ ps.toList with
  | some vs=>Dg P t len vs λe cs=>Nw (.cells cs.toArray e (0,0)) h λa h'=>K (.slice (some a) len len) h'
  | none=>False
 | .makeMap t r=>match r with
  | none=>Nw (.map #[] 0) h λa h'=>K (.map (some a.block)) h'
  | some _=>False
 | .makeSlice t l c=>wv (ev ρ l) λvl=>wv (ev ρ c) λvc=>match P.underlying t,vl,vc with
  | some (.slice e),.int .i64 n,.int .i64 m=>match P.info? e with
   | some te=>match te.zero with
    | some z=>gR (z.cells.size==te.size&&Nat.blt 0 te.size) (Mk n m te.bytes e z.cells.toList h λs h'=>K (.slice s.a s.len s.cap) h')
    | none=>False
   | none=>False
  | _,_,_=>False
 | .range t x=>wv (ev ρ x) λv=>r8 P t λki c=>match v with
  | .map m=>su ki c m h λa h'=>K (.pointer (some a)) h'
  | _=>False
 | .mapUpdate t m k x=>wv (ev ρ m) λvm=>wv (ev ρ k) λvk=>wv (ev ρ x) λvx=>r8 P t λki c=>match vm,vk with
  | .map m,.int k' n=>if ki=k' then pH c vx λx=>k6 ki c m n x h λh'=>K undef h' else False
  | _,_=>False
 | .call c=>match c.callee,qZ ρ c.args.toList,c.argTypes.toList with
  | .value (.func f),some args,_=>D8 P f args h K
  | .value g,some args,_=>wv (ev ρ g) λvg=>pH .fn vg λfv=>Cz P fv args ty h K
  | .invoke r name,some args,_=>wv (ev ρ r) λvr=>CN P vr name args ty h K
  | .builtin .append,some [.slice sa sn sc,.slice xa xn xc],[t,t']=>match P.underlying t with
   | some (.slice e)=>match P.info? e with
    | some te=>match te.zero with
     | some z=>gR (Nat.beq t t'&&z.cells.size==te.size&&Nat.blt 0 te.size) (App ⟨sa,sn,sc⟩ te.size te.bytes e z.cells.toList ⟨xa,xn,xc⟩ h λs h'=>K (.slice s.a s.len s.cap) h')
     | none=>False
    | none=>False
   | _=>False
  | .builtin .delete,some [.map m,.int k' n],t::_=>r8 P t λki c=>if ki=k' then mK ki c m n h λh'=>K (.tuple #[]) h' else False
  | .builtin .append,some [.slice sa sn sc,.int .i64 n],[t,t']=>match P.underlying t,P.underlying t' with
   | some (.slice e),some (.int _)=>match P.info? e with
    | some te=>match te.zero with
     | some z=>gR (z.cells.size==te.size&&Nat.blt 0 te.size) (rD ⟨sa,sn,sc⟩ te.size te.bytes e z.cells.toList n h λs h'=>K (.slice s.a s.len s.cap) h')
     | none=>False
    | none=>False
   | _,_=>False
  | .builtin .copy,some [.slice da dn dc,.slice xa xn xc],t::_=>match P.underlying t with
   | some (.slice e)=>match P.info? e with
    | some te=>tV ⟨da,dn,dc⟩ te.size ⟨xa,xn,xc⟩ h λz h'=>K (.int .i64 z) h'
    | none=>False
   | _=>False
  | .builtin .clear,some [.slice sa sn sc],[t]=>match P.underlying t with
   | some (.slice e)=>match P.info? e with
    | some te=>match te.zero with
     | some z=>gR (z.cells.size==te.size&&Nat.blt 0 te.size) (By ⟨sa,sn,sc⟩ z.cells.toList h λh'=>K (.tuple #[]) h')
     | none=>False
    | none=>False
   | _=>False
  | _,_,_=>False
 | _=>False
def vV (P:Program)(o:Op)(ty:TypeId)(ρ:Env)(h:Hp)(K:Value->Hp->Prop):Prop:=
 bif s8 o then qK P o ρ h (λv=>K v h)else eK P o ty ρ h K
theorem Jr:∀{vs:List Value} {A:Prop},yo vs A->A/\∀v∈vs,dN v=true
 | [],A,h=>⟨h,by simp⟩
 | v::vs,A,h=>by
  have h1:dN v=true/\yo vs A:=by cases v<;>first|exact h.elim|exact⟨rfl,h⟩
  obtain⟨d,b⟩:=Jr h1.2;exact⟨d,λu a=>by
   rcases zQ.1 a with rfl|a
   ·exact h1.1
   ·exact b u a⟩
theorem ZP.refl (w:World):ZP w w:=⟨rfl,rfl,rfl,zD _⟩
theorem ZP.trans {a b c:World}(h:ZP a b)(k:ZP b c):ZP a c:=⟨k.1.trans h.1,k.2.1.trans h.2.1,k.2.2.1.trans h.2.2.1,zI h.2.2.2 k.2.2.2⟩
theorem Vd (h:Hp)(a:Addr)(v:Value):(ku h a v).size=h.size:=by simp[ku]
theorem Fi {P:Program}{w:World}{a:Addr}{v:Value}(ho:dN v=true)(h1:(cell w.heap a).isSome=true)(h2:oO w.heap a=false):(store a v).run P w=.ok () (w.setCell a v):=by
 obtain⟨u,d⟩:=qj.1 h1;have b:w.cell? a=some u:=d;have e:w.frozen? a=false:=h2;cases v<;>simp[dN]at ho<;>simp[store,Sem.run,b,e]
theorem GC {P:Program}:∀{vs:List Value} {w:World} {a:Addr} {i:Nat} {K:aP},(∀v∈vs,dN v=true)->ql a w.heap vs i K →
 ∃w',(storeCells a vs i).run P w=.ok () w'/\ZP w w'/\K w'.heap
 | [],w,a,i,K,_,h=>⟨w,by simp[storeCells],.refl _,h⟩
 | v::vs,w,a,i,K,ho,h=>by
  obtain⟨h1,h2,h3⟩:=h;have e:=Fi (P:=P) (ho v aA) h1 h2;obtain⟨w',d,j,m⟩:=GC (P:=P) (w:=w.setCell (a.add i) v) (λu g=>ho u (by simp[g])) h3;refine⟨w',?_,ZP.trans (b:=w.setCell (a.add i) v) ⟨rfl,rfl,rfl,Nat.le_of_eq (Vd w.heap (a.add i) v).symm⟩ j,m⟩;simp only[storeCells,Sem.run_bind,e,Result.andThen_ok,d]
theorem PS {P:Program}{vs:List Value}{w:World}{a:Addr}{K:aP}(ho:∀v∈vs,dN v=true)(h:Dw a vs w.heap K) :
 ∃w',(storeCells a vs).run P w=.ok () w'/\ZP w w'/\K w'.heap:=by
 refine GC ho ?_;unfold Dw at h;split at h
 ·simpa[ql,Addr.add_zero']using h
 ·exact h
def Vp (P:Program)(s:Sem Next)(w:World)(K:Value->Hp->Prop):Prop:=
 (∃v w',s.run P w=.ok (.value v) w'/\ZP w w'/\K v w'.heap) ∨
 (∃w',s.run P w=.ok .skip w'/\ZP w w'/\K undef w'.heap) ∨
 (∃f args rs R,s.run P w=.ok (.enter f args) w/\We P f args rs w.heap R/\∀vs h',Sat (iI rs) R vs h'->K (pack rs vs) h')
theorem Vp.upon {P:Program}{o:Oper}{a:Act}{w:World}{K:Value->Hp->Prop}{next:Act->World->Prop}{Q:Exit->Act->World->Prop}
 (h:Vp P (execOp a.eval o) w K) (hn:∀v w',ZP w w'->K v w'.heap->next (a.put o.dst v) w'):o.wp P a w next Q:=by
 unfold Oper.wp;rcases h with⟨v,w',hr,b,hK⟩|⟨w',hr,b,hK⟩|⟨f,args,rs,R,hr,hc,hK⟩
 ·rw[hr];exact hn _ _ b hK
 ·rw[hr];exact hn _ _ b hK
 ·rw[hr];refine(hc w rfl).mono λe w' ⟨b,vs,g,d⟩=>?_;subst g;exact hn _ _ b (hK _ _ d)
theorem GM {P:Program}{f:Nat}(h:Hi P f=true)(args:Array Value)(w:World):(callFunc f args).run P w=.ok (.enter f args) w:=by
 unfold Hi at h;split at h
 ·rename_i fn hf;simp only[zF,nj,m0]at h;obtain⟨a,d⟩:=h;obtain⟨c,b⟩:=qj.1 d;simp[callFunc,hf,a,b]
 ·cases h
theorem Rj {P:Program}{f:Nat}{args:List Value}{w:World}{K:Value->Hp->Prop}(h:D8 P f args w.heap K):Vp P (callFunc f args.toArray) w K:=by
 unfold D8 at h;split at h
 ·split at h
  ·rename_i rs hrs;split at h
   ·rename_i hc;exact .inr (.inr ⟨f,_,rs,_,GM hc _ _,h,λvs j i=>U4 i⟩)
   ·split at h
    ·obtain⟨b,d,a,e,g⟩:=h w rfl;exact .inl ⟨_,d,a,e,g⟩
    ·exact h.elim
  ·exact h.elim
 ·exact h.elim
theorem WcI {P:Program}{fv:Fv}{args:List Value}{ty:Nat}{w:World}{K:Value->Hp->Prop}(h:Cz P fv args ty w.heap K) :
 Vp P (callFunc fv.f (fv.first++args.toArray++fv.captured)) w K:=by
 unfold Cz at h;split at h
 ·rename_i rs _;exact .inr (.inr ⟨_,_,rs,_,GM h.1 _ _,h.2,λvs b a=>U4 a⟩)
 ·exact h.elim
theorem Rc {P:Program}{v:Value}{name:String}{args:List Value}{ty:Nat}{w:World}{K:Value->Hp->Prop}(h:CN P v name args ty w.heap K) :
 Vp P (callMethod v name args.toArray) w K:=by
 unfold CN at h;split at h
 ·rename_i rs _;obtain⟨t,u,f,rfl,a,b,h⟩:=h;refine .inr (.inr ⟨f,_,rs,_,?_,h,λvs e d=>U4 d⟩);simp only[callMethod,Sem.run_bind,run_program,Result.andThen_ok,a,b];simp
 ·exact h.elim
theorem BO {P:Program}{t:Nat}{K:IntKind->CK->Prop}(h:r8 P t K):∃kt et k c,P.underlying t=some (.map kt et)/\P.underlying kt=some (.int k)/\K k c:=by
 unfold r8 at h;split at h
 ·split at h
  ·exact⟨_,_,_,_,by assumption,by assumption,h⟩
  ·exact h.elim
 ·exact h.elim
theorem Us (w:World)(o:Obj):ZP w {w with heap:=w.heap.push o}:=⟨rfl,rfl,rfl,by simp⟩
theorem HD (h:Hp)(r:Nat)(o:Obj):QD h (h.setIfInBounds r o) r:=⟨by simp,λb a=>by rw[An (Ne.symm a)]⟩
theorem JL {es:List MapEntry}{k:IntKind}{c:CK}:∀(l:List (Int×c.T)) (es:List MapEntry) (j:Nat) (n:Int) (x:c.T),
 es.map (λe=>(e.key,e.val))=l.map (λx=>(Value.int k x.1,c.v x.2))->(l.map (·.1)).Nodup->l.findIdx? (λx=>x.1==n)=some j →
 (es.modify j λe=>{e with key:=.int k n,val:=c.v x}).map (λe=>(e.key,e.val))=(l.map λy=>if y.1==n then(n,x)else y).map (λx=>(Value.int k x.1,c.v x.2))
 | [],es,j,n,x,he,hn,hj=>by simp at hj
 | y::l,[],j,n,x,he,hn,hj=>by simp at he
 | y::l,e::es,j,n,x,he,hn,hj=>by
  simp only[zJ,List.cons.injEq]at he;simp only[zJ,zp]at hn;simp only[wb]at hj;cases hy:y.1==n
  ·rw[hy]at hj;simp only[zb,zw,qH]at hj;obtain⟨j',hj',rfl⟩:=hj;have:=JL (es:=es) l es j' n x he.2 hn.2 hj';simp only[List.modify_succ_cons,zJ,this,hy,he.1];simp
  ·rw[hy]at hj;simp at hj;subst hj;have a:y.1=n:=by simpa using hy
   simp only[List.modify_zero_cons,zJ,hy,zT,List.cons.injEq,td,he.2]
   congr 1
   have:∀z∈l,(z.1==n)=false:=by
    intro z hz;have:z.1≠y.1:=λe=>hn.1 (by rw[←e];exact yB hz);simpa[a]using this
   have e:l=l.map λz=>if z.1==n then(n,x)else z:=by
    conv=>lhs;rw[←wa l]
    apply kD;intro z hz;simp[this z hz]
   exact e
theorem MW {α:Type}{l:List (Int×α)}{n:Int}{j:Nat}(h:l.findIdx? (λx=>x.1==n)=some j):l.any (λx=>x.1==n)=true:=by
 obtain⟨x,a,rfl⟩:=Ul h;rw[ka];exact⟨x,zE a,by simp⟩
theorem GQ {α:Type}{l:List (Int×α)}{n:Int}(h:l.findIdx? (λx=>x.1==n)=none):l.any (λx=>x.1==n)=false:=by
 rw[vB]at h;rw[m7];simpa using h
theorem ig {α:Type}{l:List (Int×α)}{n:Int}{x:α}(hn:(l.map (·.1)).Nodup):((dF l n x).map (·.1)).Nodup:=by
 unfold dF;split
 ·have:(l.map λy=>if y.1==n then(n,x)else y).map (·.1)=l.map (·.1):=by
   rw[zt];apply kD;intro y _;simp only[Function.comp];split
   ·rename_i h;simp at h;exact h.symm
   ·rfl
  rwa [this]
 ·rename_i h;rw[zu,oD];refine⟨hn,by simp,?_⟩;intro a ha b hb;simp at hb;subst hb;rintro rfl;obtain⟨y,d,rfl⟩:=zC.1 ha;exact h (ka.2 ⟨y,d,by simp⟩)
theorem MR {P:Program}{t kt et:Nat}{k:IntKind}{c:CK}(hu:P.underlying t=some (.map kt et))(hk:P.underlying kt=some (.int k)){r:Nat}{l:List (Int×c.T)}{n:Int}{x:c.T}{w:World}
 (hm:dK w.heap r k c l):∃w',(Instr.mapUpdate t (.map (some r)) (.int k n) (c.v x)).run P w=.ok () w'/\ZP w w'/\QD w.heap w'.heap r/\dK w'.heap r k c (dF l n x):=by
 obtain⟨es,d,s,i,B,G,E⟩:=hm;have C:r<w.heap.size:=(mA.1 s).1;have g:∀o,(w.heap.setIfInBounds r o)[r]?=some o:=λo=>by simp[C]
 cases hf:l.findIdx? (λx=>x.1==n)with
 | some j=>
  obtain⟨y,F,A⟩:=Ul hf;have H:j<l.length:=(cQ.1 F).1;have z:es.toList.length=l.length:=by simpa using congrArg List.length i
  have u:j<es.size:=by simp at z;omega
  have p:es[j].key=.int k n:=by
   have:=congrArg (λl=>l[j]?) i;simp only[ze,F,zf]at this;rw[yX,Array.getElem?_eq_getElem u]at this;simp at this;rw[this.1,A]
  refine⟨{w with heap:=w.heap.setIfInBounds r (.map (es.modify j λe=>{e with key:=.int k n,val:=c.v x}) d)},?_,⟨rfl,rfl,rfl,by simp⟩,HD _ _ _,?_⟩
  ·simp only[Instr.mapUpdate,Sem.run_bind,run_underlying hu,Result.andThen_ok,QN hk,getObj,Sem.run,s,Kt hk i,hf];simp[Array.getElem?_eq_getElem u,p,Instr.keyThatStays,Instr.sameBits,setObj,Sem.run,s]
  ·refine⟨_,d,g _,?_,ig B,?_,?_⟩
   ·rw[DQ,JL (es:=[]) l es.toList j n x i B hf];simp[dF,MW hf]
   ·have:(es.modify j λe=>{e with key:=.int k n,val:=c.v x}).toList.map (·.born)=es.toList.map (·.born):=by
     rw[DQ];apply zy;intro m;simp only[ze,tO];cases es.toList[m]?<;>simp
     split<;>rfl
    rw[this];exact G
   ·intro e he';have:e.born∈(es.modify j λe=>{e with key:=.int k n,val:=c.v x}).toList.map (·.born):=yB he';have M:(es.modify j λe=>{e with key:=.int k n,val:=c.v x}).toList.map (·.born)=es.toList.map (·.born):=by
     rw[DQ];apply zy;intro m;simp only[ze,tO];cases es.toList[m]?<;>simp
     split<;>rfl
    rw[M]at this;obtain⟨L,K,J⟩:=zC.1 this;rw[←J];exact E L K
 | none=>
  refine⟨{w with heap:=w.heap.setIfInBounds r (.map (es.push {key:=.int k n,val:=c.v x,born:=d}) (d+1))},?_,⟨rfl,rfl,rfl,by simp⟩,HD _ _ _,?_⟩
  ·simp only[Instr.mapUpdate,Sem.run_bind,run_underlying hu,Result.andThen_ok,QN hk,getObj,Sem.run,s,Kt hk i,hf];simp[setObj,Sem.run,s]
  ·refine⟨_,d+1,g _,?_,ig B,?_,?_⟩
   ·simp[dF,GQ hf,i]
   ·simp only[Array.toList_push,zu,zJ,pI,pq];refine⟨G,by simp,?_⟩;intro a ha b hb';simp at hb';subst hb';obtain⟨e,D,rfl⟩:=zC.1 ha;exact E e D
   ·intro e he';simp only[Array.toList_push,zR,zW]at he';rcases he' with h|rfl
    ·have:=E e h;omega
    ·simp
theorem UH {k:IntKind}{c:CK}:∀(l:List (Int×c.T)) (es:List MapEntry) (j:Nat) (n:Int),
 es.map (λe=>(e.key,e.val))=l.map (λx=>(Value.int k x.1,c.v x.2))->(l.map (·.1)).Nodup->l.findIdx? (λx=>x.1==n)=some j →
 (es.eraseIdx j).map (λe=>(e.key,e.val))=(cT l n).map (λx=>(Value.int k x.1,c.v x.2))
 | [],es,j,n,he,hn,hj=>by simp at hj
 | y::l,[],j,n,he,hn,hj=>by simp at he
 | y::l,e::es,j,n,he,hn,hj=>by
  simp only[zJ,List.cons.injEq]at he;simp only[zJ,zp]at hn;simp only[wb]at hj;cases hy:y.1==n
  ·rw[hy]at hj;simp only[zb,zw,qH]at hj;obtain⟨j',hj',rfl⟩:=hj;have:=UH l es j' n he.2 hn.2 hj';simp only[List.eraseIdx_cons_succ,zJ,this,cT,rK,hy,he.1];simp
  ·rw[hy]at hj;simp at hj;subst hj;have a:y.1=n:=by simpa using hy
   simp only[List.eraseIdx_zero,List.tail_cons,cT,rK,hy,Bool.not_true,zb,zw,he.2]
   congr 1
   symm
   rw[oz];intro z hz;have:z.1≠y.1:=λe=>hn.1 (by rw[←e];exact yB hz);simpa[a]using this
theorem HE {α:Type}{l:List (Int×α)}{n:Int}(h:l.findIdx? (λx=>x.1==n)=none):cT l n=l:=by
 rw[vB]at h;unfold cT;rw[oz];intro z hz;have:=h z hz;simpa using this
theorem jK {α:Type}{l:List (Int×α)}{n:Int}(hn:(l.map (·.1)).Nodup):((cT l n).map (·.1)).Nodup:=
 hn.sublist (List.Sublist.map _ sq)
theorem N2 {P:Program}{t kt et ty:Nat}{k:IntKind}{c:CK}(hu:P.underlying t=some (.map kt et))(hk:P.underlying kt=some (.int k)){m:Option Nat}{l:List (Int×c.T)}{n:Int}{w:World}{ats:List Nat}
 (hm:jV w.heap m k c l):∃w',(Builtin.delete_ (t::ats).toArray ty #[.map m,.int k n]).run P w=.ok (.tuple #[]) w'/\ZP w w'/\(∀r,m=some r->QD w.heap w'.heap r)/\(m=none->w'.heap=w.heap)/\jV w'.heap m k c (cT l n):=by
 cases m with
 | none=>
  simp only[jV]at hm;subst hm;exact⟨w,by simp[Builtin.delete_,run_underlying hu,QN hk],.refl _,λr h=>(by cases h),λ_=>rfl,rfl⟩
 | some r=>
  obtain⟨d,a,i,g,p,u,y⟩:=hm;have s:r<w.heap.size:=(mA.1 i).1;have b:∀o,(w.heap.setIfInBounds r o)[r]?=some o:=λo=>by simp[s]
  cases hf:l.findIdx? (λx=>x.1==n)with
  | some j=>
   refine⟨{w with heap:=w.heap.setIfInBounds r (.map (d.eraseIdxIfInBounds j) a)},?_,⟨rfl,rfl,rfl,by simp⟩,λz h=>(by cases h;exact HD _ _ _),(λh=>by cases h),?_⟩
   ·simp[Builtin.delete_,run_underlying hu,QN hk,getObj,Sem.run,i,Kt hk g,hf,setObj]
   ·refine⟨_,a,b _,?_,jK p,?_,?_⟩
    ·rw[BN];exact UH l d.toList j n g p hf
    ·rw[BN];exact u.sublist (List.Sublist.map _ (List.eraseIdx_sublist _ _))
    ·rw[BN];intro e he';exact y e ((List.eraseIdx_sublist _ _).mem he')
  | none=>
   refine⟨{w with heap:=w.heap.setIfInBounds r (.map d a)},?_,⟨rfl,rfl,rfl,by simp⟩,λz h=>(by cases h;exact HD _ _ _),(λh=>by cases h),?_⟩
   ·simp[Builtin.delete_,run_underlying hu,QN hk,getObj,Sem.run,i,Kt hk g,hf,setObj]
   ·rw[HE hf];exact⟨d,a,b _,g,p,u,y⟩
theorem uW {P:Program}{w:World}{sz n:Nat}{s:Sl}{xs:List Value}(hl:xs.length=s.len*sz)(h:Rd w.heap s.a xs)(hn:n=s.len) :
 (Builtin.firstCells sz n (.slice s.a s.len s.cap)).run P w=.ok xs.toArray w:=by
 subst hn;obtain⟨a,len,cap⟩:=s;cases a with
 | none=>simp only[Rd]at h;subst h;simp[Builtin.firstCells]
 | some a=>
  simp only at hl h;simp only[Builtin.firstCells];rw[←hl];have:=run_loadCells_list (P:=P) (w:=w) a xs (λj v b=>h j v b);exact this
theorem Vx {z:Array Value}(hz:0<z.size):∀n,Builtin.zeroCells z n=(List.replicate n z.toList).flatten.toArray:=by
 intro n;apply Array.ext';simp only[Builtin.zeroCells,Array.toList_map,Array.toList_range]
 induction n with
 | zero=>simp
 | succ n ih=>
  rw[Dt,AX];simp only[vu,List.flatten_nil,j9];rw[←ih];rw[Nat.succ_mul,List.range_add,zu,zt]
  congr 1
  apply List.ext_getElem
  ·simp
  ·intro i h1 h2;simp at h1 h2;simp[uM h1,h1]
theorem Fw (n c:Nat)(h:¬n<=c):Builtin.nextslicecap n c<=2*n:=by
 unfold Builtin.nextslicecap;split
 ·omega
 ·split
  ·omega
  ·have key:∀r c,c<=2*n->(Builtin.growBy n r c)<=2*n:=by
    intro r
    induction r with
    | zero=>intro c hc;simpa[Builtin.growBy]using hc
    | succ r ih=>
     intro c hc;simp only[Builtin.growBy];split
     ·exact hc
     ·exact ih _ O
   exact key _ _ O
theorem Tt {P:Program}{t e ty:Nat}{te:TypeInfo}{z:Value}{s x:Sl}{K:Sl->Hp->Prop}{w:World}(hu:P.underlying t=some (.slice e))(hi:P.info? e=some te)(hz:te.zero=some z)(hzs:z.cells.size=te.size)(hpos:0<te.size)
 (h:App s te.size te.bytes e z.cells.toList x w.heap K) :
 ∃r w',(Builtin.append_ #[t,t] ty #[.slice s.a s.len s.cap,.slice x.a x.len x.cap]).run P w=.ok (.slice (Sl.a r) r.len r.cap) w'/\ZP w w'/\K r w'.heap:=by
 obtain⟨M,L,N,G,J,F,B,W,V,b,d⟩:=h;have p:=uW (P:=P) (n:=s.len) N J rfl;have i:=uW (P:=P) (n:=x.len) G F rfl;by_cases hroom:s.len+x.len<=s.cap
 ·have b:=b hroom;cases hsa:s.a with
  | some a=>
   rw[hsa]at b;obtain⟨w',S,Q,A⟩:=GC (P:=P) B b;rw[hsa]at p;refine⟨⟨some a,s.len+x.len,s.cap⟩,w',?_,Q,A⟩;simp[Builtin.append_,run_underlying hu,sizeOf,typeInfo,hi,Builtin.lenOf,hroom,i,S]
  | none=>
   rw[hsa]at b;rw[hsa]at p;refine⟨⟨none,s.len+x.len,s.cap⟩,w,?_,.refl _,b⟩;simp[Builtin.append_,run_underlying hu,sizeOf,typeInfo,hi,Builtin.lenOf,hroom,i]
 ·have d:=d hroom;have j:¬(2^48<Builtin.nextslicecap (s.len+x.len) s.cap*te.bytes):=by
   have:=Fw (s.len+x.len) s.cap hroom;have:Builtin.nextslicecap (s.len+x.len) s.cap*te.bytes<=2*(s.len+x.len)*te.bytes:=lB _ this;rw[xe]at this;omega
  have H:¬(IntKind.i64.max<((s.len+x.len:Nat):Int)):=by
   have:IntKind.i64.max=9223372036854775807:=by decide
   rw[this];omega
  have C:¬(IntKind.i64.max<((s.len:Int)+(x.len:Int))):=by
   have:IntKind.i64.max=9223372036854775807:=by decide
   rw[this];omega
  have E:=Vx (z:=z.cells) O;have y:s.cap<s.len+x.len:=by omega
  have g:¬(281474976710656<Builtin.nextslicecap (s.len+x.len) s.cap*te.bytes):=by simpa using j
  let q:=Question.appendCap (s.len+x.len) s.cap e
  let c:=q.cut (w.tape w.drawn q)
  have U:s.len+x.len<=c:=by simp only[c,q,Question.cut];omega
  have A:=d c U;refine⟨⟨some ⟨w.heap.size,0,none⟩,s.len+x.len,c⟩,{w with drawn:=w.drawn+1,heap:=w.heap.push (.cells (M++L++(List.replicate (c-(s.len+x.len)) z.cells.toList).flatten).toArray e (0,0))},?_,⟨rfl,rfl,rfl,by simp⟩,A⟩;have R:(Question.appendCap (s.len+x.len) s.cap e).forced=false:=rfl;have D:¬(9223372036854775807<(s.len:Int)+(x.len:Int)):=by omega
  have u:=uW (P:=P) (w:=w.drew) (n:=s.len) N (show Rd w.drew.heap s.a M from J) rfl;have m:=uW (P:=P) (w:=w.drew) (n:=x.len) G (show Rd w.drew.heap x.a L from F) rfl;simp[Builtin.append_,run_underlying hu,sizeOf,typeInfo,hi,Builtin.lenOf,hroom,D,R,g,u,m,zeroValue,hz,E,newRow];refine⟨rfl,?_⟩;unfold World.alloc World.drew;simp[c,q]
theorem Sg {P:Program}{t t' e ty:Nat}{te:TypeInfo}{z:Value}{s:Sl}{n:Int}{ki:IntKind}{K:Sl->Hp->Prop}{w:World}(hu:P.underlying t=some (.slice e))(hu':P.underlying t'=some (.int ki))(hi:P.info? e=some te)(hz:te.zero=some z)(hzs:z.cells.size=te.size)(hpos:0<te.size)
 (h:rD s te.size te.bytes e z.cells.toList n w.heap K) :
 ∃r w',(Builtin.append_ #[t,t'] ty #[.slice s.a s.len s.cap,.int .i64 n]).run P w=.ok (.slice (Sl.a r) r.len r.cap) w'/\ZP w w'/\K r w'.heap:=by
 obtain⟨J,W,X,V,M,Z,h6,h7,i,j⟩:=h;obtain⟨n,rfl⟩:=zi J;simp only[dC]at Z h6 h7 i j;have E:=uW (P:=P) (n:=s.len) X V rfl;have Q:∀v∈(List.replicate n z.cells.toList).flatten,dN v=true:=by
  intro v G;simp only[List.mem_flatten,xX]at G;obtain⟨l,⟨_,rfl⟩,G⟩:=G;exact M v G
 have C:IntKind.i64.wrap (n:Int)=n:=by unfold IntKind.wrap;simp[IntKind.bits,IntKind.signed];omega
 have A:IntKind.i64.wrap 0=0:=by decide
 have u:=Vx (z:=z.cells) O;have D:¬((n:Int)<0):=by omega
 have H:¬((n:Int)*(te.bytes:Int)>2^48):=by
  have:(2:Int)^46<=2^48:=by decide
  omega
 have p:¬(281474976710656<(n:Int)*(te.bytes:Int)):=by simpa using H
 have U:n*te.size=0->(List.replicate n z.cells.toList).flatten=[]:=by
  intro h0;rcases uL.1 h0 with h|h
  ·subst h;simp
  ·omega
 by_cases hroom:s.len+n<=s.cap
 ·have i:=i hroom;cases hsa:s.a with
  | some a=>
   rw[hsa]at i;obtain⟨w',N,io,L⟩:=GC (P:=P) Q i;rw[hsa]at E;refine⟨⟨some a,s.len+n,s.cap⟩,w',?_,io,L⟩;by_cases hn:n*te.size=0
   ·have:=U hn;rw[this]at N;rcases uL.1 hn with hn'|hn'
    ·subst hn';have b:s.len<=s.cap:=by simpa using hroom
     simp[Builtin.append_,run_underlying hu,run_underlying hu',sizeOf,typeInfo,hi,Builtin.lenOf,b,asInt,asIntOf,A,N]
    ·omega
   ·have d:¬n=0:=λe=>hn (by rw[e];simp);have g:¬te.size=0:=by omega
    simp[Builtin.append_,run_underlying hu,run_underlying hu',sizeOf,typeInfo,hi,Builtin.lenOf,hroom,N,asInt,asIntOf,C,D,p,hn,d,g,zeroValue,hz,u]
  | none=>
   rw[hsa]at i;rw[hsa]at E;refine⟨⟨none,s.len+n,s.cap⟩,w,?_,.refl _,i⟩;by_cases hn:n*te.size=0
   ·rcases uL.1 hn with hn'|hn'
    ·subst hn';have b:s.len<=s.cap:=by simpa using hroom
     simp[Builtin.append_,run_underlying hu,run_underlying hu',sizeOf,typeInfo,hi,Builtin.lenOf,b,asInt,asIntOf,A]
    ·omega
   ·have d:¬n=0:=λe=>hn (by rw[e];simp);have g:¬te.size=0:=by omega
    simp[Builtin.append_,run_underlying hu,run_underlying hu',sizeOf,typeInfo,hi,Builtin.lenOf,hroom,asInt,asIntOf,C,D,p,hn,d,g,zeroValue,hz,u]
 ·have j:=j hroom;have B:¬(2^48<Builtin.nextslicecap (s.len+n) s.cap*te.bytes):=by
   have:=Fw (s.len+n) s.cap hroom;have:Builtin.nextslicecap (s.len+n) s.cap*te.bytes<=2*(s.len+n)*te.bytes:=lB _ this;rw[xe]at this;omega
  have m:¬(281474976710656<Builtin.nextslicecap (s.len+n) s.cap*te.bytes):=by simpa using B
  let q:=Question.appendCap (s.len+n) s.cap e
  let c:=q.cut (w.tape w.drawn q)
  have hc:s.len+n<=c:=by simp only[c,q,Question.cut];omega
  have L:=j c hc;refine⟨⟨some ⟨w.heap.size,0,none⟩,s.len+n,c⟩,{w with drawn:=w.drawn+1,heap:=w.heap.push (.cells (W++(List.replicate n z.cells.toList).flatten++(List.replicate (c-(s.len+n)) z.cells.toList).flatten).toArray e (0,0))},?_,⟨rfl,rfl,rfl,by simp⟩,L⟩;have Y:(Question.appendCap (s.len+n) s.cap e).forced=false:=rfl;have R:¬(9223372036854775807<(s.len:Int)+(n:Int)):=by omega
  have x:=uW (P:=P) (w:=w.drew) (n:=s.len) X (show Rd w.drew.heap s.a W from V) rfl;by_cases hn:n*te.size=0
  ·rcases uL.1 hn with hn'|hn'
   ·subst hn';have b:¬s.len<=s.cap:=by simpa using hroom
    have y:¬(281474976710656<Builtin.nextslicecap s.len s.cap*te.bytes):=by simpa using m
    have S:(Question.appendCap s.len s.cap e).forced=false:=rfl;have F:¬(9223372036854775807<(s.len:Int)):=by omega
    simp[Builtin.append_,run_underlying hu,run_underlying hu',sizeOf,typeInfo,hi,Builtin.lenOf,b,F,S,y,x,zeroValue,hz,u,newRow,asInt,asIntOf,A];refine⟨rfl,?_⟩;unfold World.alloc World.drew;simp[c,q]
   ·omega
  ·have d:¬n=0:=λe=>hn (by rw[e];simp);have g:¬te.size=0:=by omega
   simp[Builtin.append_,run_underlying hu,run_underlying hu',sizeOf,typeInfo,hi,Builtin.lenOf,hroom,R,Y,m,x,zeroValue,hz,u,newRow,asInt,asIntOf,C,D,p,hn,d,g];refine⟨rfl,?_⟩;unfold World.alloc World.drew;simp[c,q]
theorem Ot {P:Program}{t e ty:Nat}{ats:List TypeId}{te:TypeInfo}{d s:Sl}{K:aN}{w:World}(hu:P.underlying t=some (.slice e))(hi:P.info? e=some te)
 (h:tV d te.size s w.heap K):∃z w',(Builtin.copy_ (t::ats).toArray ty #[.slice d.a d.len d.cap,.slice s.a s.len s.cap]).run P w=.ok (.int .i64 z) w'/\ZP w w'/\K z w'.heap:=by
 obtain⟨r,p,m,y,i⟩:=h;have g:(Builtin.firstCells te.size (min s.len d.len) (.slice s.a s.len s.cap)).run P w=.ok r.toArray w:=by
  obtain⟨a,len,cap⟩:=s;cases a with
  | none=>simp only[Rd]at m;subst m;simp[Builtin.firstCells]
  | some a=>
   simp only at p m;simp only[Builtin.firstCells];rw[←p];exact run_loadCells_list (P:=P) (w:=w) a r (λj v B=>m j v B)
 have b:Nat.min s.len d.len=min s.len d.len:=rfl;cases hda:d.a with
 | none=>
  rw[hda]at i;refine⟨_,w,?_,.refl _,i⟩;simp[Builtin.copy_,run_underlying hu,sizeOf,typeInfo,hi,Builtin.lenOf,g,b,goInt]
 | some a=>
  rw[hda]at i;obtain⟨w',u,x,A⟩:=GC (P:=P) y i;refine⟨_,w',?_,x,A⟩;simp[Builtin.copy_,run_underlying hu,sizeOf,typeInfo,hi,Builtin.lenOf,g,b,u,goInt]
theorem LS {P:Program}{t e ty:Nat}{te:TypeInfo}{z:Value}{s:Sl}{K:aP}{w:World}(hu:P.underlying t=some (.slice e))(hi:P.info? e=some te)(hz:te.zero=some z)(hzs:z.cells.size=te.size)(hpos:0<te.size)
 (h:By s z.cells.toList w.heap K):∃w',(Builtin.clear_ #[t] ty #[.slice s.a s.len s.cap]).run P w=.ok (.tuple #[]) w'/\ZP w w'/\K w'.heap:=by
 obtain⟨m,h⟩:=h;have d:=Vx (z:=z.cells) O;obtain⟨a,len,cap⟩:=s;cases a with
 | none=>exact⟨w,by simp[Builtin.clear_,run_underlying hu],.refl _,h⟩
 | some a=>
  simp only at h;cases len with
  | zero=>
   simp[ql]at h;exact⟨w,by simp[Builtin.clear_,run_underlying hu],.refl _,h⟩
  | succ n=>
   obtain⟨w',g,i,j⟩:=GC (P:=P) (λv b=>by
    simp only[List.mem_flatten,xX]at b;obtain⟨l,⟨_,rfl⟩,b⟩:=b;exact m v b) h
   refine⟨w',?_,i,j⟩;simp[Builtin.clear_,run_underlying hu,zeroValue,typeInfo,hi,hz,d,g]
theorem Od {P:Program}{t len:Nat}{ps:List (Nat×Value)}{K:TypeId->List Value->Prop}(h:Dg P t len ps K):∃e te z cs,P.underlying t=some (.slice e)/\P.info? e=some te/\te.zero=some z/\K e cs ∧
 ((len=0/\ps=[]/\cs=[])\/(len*te.size<=16777216/\0<len*te.size/\z.cells.size=te.size/\rU (λi=>some (i*te.size,te.size)) (List.replicate len z.cells.toList).flatten ps=some cs)):=by
 unfold Dg at h;split at h
 case h_2=>exact h.elim
 rename_i e hu;split at h
 case h_2=>exact h.elim
 rename_i te hi;split at h
 case h_2=>exact h.elim
 rename_i z hz;split at h
 ·exact⟨e,te,z,[],hu,hi,hz,h,.inl ⟨rfl,rfl,rfl⟩⟩
 ·exact h.elim
 ·rw[WJ]at h;obtain⟨a,h⟩:=h;simp only[zF,zX]at a;split at h
  case h_2=>exact h.elim
  rename_i cs hf;exact⟨e,te,z,cs,hu,hi,hz,h,.inr ⟨Nat.le_of_ble_eq_true a.1.1,Nat.blt_eq.mp a.1.2,a.2,hf⟩⟩
theorem Ff {z:Array Value}(hz:0<z.size)(n:Nat):((Array.range (n*z.size)).map (z[· % z.size]!))=(List.replicate n z.toList).flatten.toArray:=Vx hz n
theorem L7 {P:Program}{ρ:Env}{K:Value->Hp->Prop}{a:Act}{w:World}(hf:∀x v,ev ρ x=some v->a.eval x=v)(o:Oper)(hk:eK P o.op o.type ρ w.heap K) :
 Vp P (execOp a.eval o) w K:=by
 obtain⟨dst,op,ty,pos,after,guard⟩:=o;simp only at hk;have p:∀{s:Sem Value},(∃v B,s.run P w=.ok v B/\ZP w B/\K v B.heap)->Vp P (do pure (Next.value (←s)):Sem Next) w K:=by
  rintro s ⟨v,B,hv,M,D⟩;exact .inl ⟨v,B,by simp[hv],M,D⟩
 have N:∀{s:Sem Unit},(∃B,s.run P w=.ok () B/\ZP w B/\K undef B.heap)->Vp P (do s;pure Next.skip:Sem Next) w K:=by
  rintro s ⟨B,hv,M,D⟩;exact .inr (.inl ⟨B,by simp[hv],M,D⟩)
 unfold eK at hk;split at hk
 case h_1 t x y=>
  obtain⟨va,L,hk0⟩:=Wq hk;clear hk;obtain⟨vx,hx,hk⟩:=Wq hk0;clear hk0;simp only[execOp,hf _ _ L,hf _ _ hx];split at hk
  ·rename_i ad;cases hraw:wq P t
   case true=>
    rw[hraw]at hk;simp only[cond_true]at hk;rw[WJ]at hk;obtain⟨hc,hif,s1,s2,D⟩:=hk;simp only[zF,zX]at hc;obtain⟨h1,h2⟩:=hc;apply N;have hone:dN vx=true:=by rcases hif with rfl|⟨t',u,rfl⟩<;>rfl
    have F:vx.cells = #[vx]:=by rcases hif with rfl|⟨t',u,rfl⟩<;>rfl
    have C:=Fi (P:=P) (w:=w) hone s1 s2;refine⟨w.setCell ad vx,?_,⟨rfl,rfl,rfl,Nat.le_of_eq (Vd w.heap ad vx).symm⟩,D⟩;have hr':(storeCells ad #[vx].toList).run P w=.ok () (w.setCell ad vx):=by
     simp only[storeCells,Addr.add_zero',Sem.run_bind,C,Result.andThen_ok];rfl
    simp only[Instr.storeAt,Instr.sureAddr,Sem.run_bind,Sem.run_pure,Result.andThen_ok,storeVar,QV h1,h2,F,ne_eq,zw];simpa using hr'
   rw[hraw]at hk;simp only[cond_false]at hk;rw[WJ]at hk;obtain⟨hc,hk⟩:=hk;simp only[zF,zX]at hc;obtain⟨h1,h2⟩:=hc;obtain⟨hk,h3⟩:=Jr hk;apply N;obtain⟨B,C,M,D⟩:=PS (P:=P) h3 hk;refine⟨B,?_,M,D⟩;simp only[Instr.storeAt,Instr.sureAddr,Sem.run_bind,Sem.run_pure,Result.andThen_ok,storeVar,QV h1,h2,ne_eq,not_true_eq_false,zw];simpa using C
  ·exact hk.elim
 case h_2 e=>
  split at hk
  case h_2=>exact hk.elim
  rename_i Q J;split at hk
  case h_2=>exact hk.elim
  rename_i z V;apply p;refine⟨_,_,?_,Us _ _,hk⟩;simp[Instr.alloc,Vs J V,newVar,newRow,newObj,Sem.run]
 case h_3 e x=>
  obtain⟨v,hv,hk⟩:=Wq hk;simp only[execOp,hf _ _ hv];apply p;cases hraw:wq P e
  case true=>
   rw[hraw]at hk;simp only[cond_true]at hk;have F:v.cells = #[v]:=by rcases hk.1 with rfl|⟨t',u,rfl⟩<;>rfl
   refine⟨_,_,?_,Us _ _,hk.2⟩;simp[Instr.box,newVar,newRow,newObj,Sem.run,F]
  rw[hraw]at hk;refine⟨_,_,?_,Us _ _,hk⟩;simp[Instr.box,newVar,newRow,newObj,Sem.run]
 case h_4 t len ps=>
  split at hk
  case h_2=>exact hk.elim
  rename_i vs hps;have H:=VZ hf hps;have d:ps.map (λ(i,x)=>(i,a.eval x))=vs.toArray:=by apply Array.ext';simpa using H
  obtain⟨e,Q,z,cs,E,J,V,hk,hcase⟩:=Od hk;simp only[execOp,d];apply p;refine⟨_,_,?_,Us _ _,hk⟩;rcases hcase with⟨rfl,rfl,rfl⟩|⟨hle,hpos,hzs,hfl⟩
  ·simp only[Instr.buildSlice,Sem.run_bind,run_underlying E,Result.andThen_ok,sizeOf,V4 J,Sem.run_pure,tz];simp[Instr.fill,newRow,newObj,Sem.run,Array.range_zero']
  have hts:0<Q.size:=Nat.pos_of_mul_pos_left hpos;have hfill:=UD _ _ _ _ hfl;have Y:=Ff (z:=z.cells) O len;rw[hzs]at Y;have hne:¬(len*Q.size=0):=by omega
  have hle':¬(len*Q.size>2^24):=by
   have:(2:Nat)^24=16777216:=by decide
   omega
  simp only[Instr.buildSlice,Sem.run_bind,run_underlying E,Result.andThen_ok,sizeOf,V4 J,Sem.run_pure,hle',zw,hne,Vs J V,Y,hzs,hfill,newRow,newObj,Sem.run]
 case h_5 t r=>
  split at hk
  ·apply p;refine⟨_,_,?_,Us _ _,hk⟩;simp[Instr.makeMap,newObj,Sem.run]
  ·exact hk.elim
 case h_6 t l c=>
  obtain⟨vl,hl,hk⟩:=Wq hk;obtain⟨vc,hc,hk⟩:=Wq hk;simp only[execOp,hf _ _ hl,hf _ _ hc];split at hk
  case h_2=>exact hk.elim
  rename_i e n m E _;split at hk
  case h_2=>exact hk.elim
  rename_i Q J;split at hk
  case h_2=>exact hk.elim
  rename_i z V;rw[WJ]at hk;obtain⟨j,h0,h1,h2,h3,hk⟩:=hk;simp only[zF,zX]at j;have hpos:0<Q.size:=Nat.blt_eq.mp j.2;apply p;refine⟨_,_,?_,Us _ _,hk⟩;have hwn:IntKind.i64.wrap n=n:=by unfold IntKind.wrap;simp[IntKind.bits,IntKind.signed];omega
  have hwm:IntKind.i64.wrap m=m:=by unfold IntKind.wrap;simp[IntKind.bits,IntKind.signed];omega
  have hbig:¬((Q.bytes:Int)*m>2^48):=by
   have:(2:Int)^46<=2^48:=by decide
   omega
  have hm0:¬m<0:=by omega
  have hn0:¬n<0:=by omega
  have hnm:¬n>m:=by omega
  have Z:¬m<n:=by omega
  have Y:=Ff (z:=z.cells) O m.toNat;have hrz2:Array.map (λx=>z.cells[x%z.cells.size]!) (Array.range (m.toNat*Q.size))=(List.replicate m.toNat z.cells.toList).flatten.toArray:=by rw[←j.1];exact Y
  have S:¬(281474976710656<(Q.bytes:Int)*m):=by simpa using hbig
  by_cases hz0:m.toNat*Q.size=0
  ·have hmz:m.toNat=0:=by
    rcases uL.1 hz0 with h|h
    ·exact h
    ·omega
   simp[Instr.makeSlice,run_underlying E,V4 J,asInt,asIntOf,hwn,hwm,S,hm0,hn0,hnm,Z,askRoom,mark,sizeOf,hmz,newRow];rw[show Array.range 0 = #[]from rfl];simp
  ·simp[Instr.makeSlice,run_underlying E,V4 J,asInt,asIntOf,hwn,hwm,S,hm0,hn0,hnm,Z,askRoom,mark,sizeOf,hz0,Vs J V,newRow,hrz2];intro _;rfl
 case h_7 t x=>
  obtain⟨v,hv,G⟩:=Wq hk;obtain⟨kt,et,ki,c,E,W,R⟩:=BO G;clear hk G;simp only[execOp,hf _ _ hv];split at R
  case h_2=>exact R.elim
  rename_i m;apply p;obtain⟨l,hm,D⟩:=R;cases m with
  | none=>
   refine⟨_,{w with heap:=w.heap.push (.mapIter none 0 #[] 0)},?_,Us _ _,D _ aA (λb hb=>by simp[yD,xl hb]) ?_⟩
   ·simp[Instr.range,run_underlying E,newObj,Sem.run]
   ·simp only[jV]at hm;exact⟨hm,hm,rfl,0,#[],0,by simp⟩
  | some b=>
   obtain⟨es,clk,C,he,hn,hp,hb⟩:=hm;have hlt:b<w.heap.size:=(mA.1 C).1;refine⟨_,{w with heap:=w.heap.push (.mapIter (some b) clk #[] clk)},?_,Us _ _,D _ aA (λb hb=>by simp[yD,xl hb]) ?_⟩
   ·simp[Instr.range,run_underlying E,newObj,getObj,Sem.run,C]
   ·exact⟨es,clk,#[],by simp,by simp[yD,xl hlt,C],he,hn,hp,hb,by rw[oz.2 (λe _=>by simp)];exact he,λx hx=>by cases hx⟩
 case h_8 t m k x=>
  obtain⟨vm,hm,G⟩:=Wq hk;obtain⟨vk,hkk,R⟩:=Wq G;obtain⟨vx,hx,hk3⟩:=Wq R;obtain⟨kt,et,ki,c,E,W,U⟩:=BO hk3;clear hk G R hk3;simp only[execOp,hf _ _ hm,hf _ _ hkk,hf _ _ hx];split at U
  ·split at U
   ·rename_i e;subst e;obtain⟨x,rfl,r,l,rfl,hl,D⟩:=Ur U;apply N;obtain⟨B,C,M,ho,hl'⟩:=MR (P:=P) E W (x:=x) hl;exact⟨B,C,M,D _ ho hl'⟩
   ·exact U.elim
  ·exact U.elim
 case h_9 c=>
  obtain⟨callee,A,ats⟩:=c;simp only at hk;split at hk
  ·rename_i f args' L;have H:=Z3 hf L;have d:A.map a.eval=args'.toArray:=by apply Array.ext';simpa using H
   have:=Rj hk;simpa[execOp,resolve,d,Act.eval,Deferred.ofValue,invoke]using this
  ·rename_i g args' _ L;obtain⟨vg,hg,hk⟩:=Wq hk;obtain⟨fv,rfl,hk⟩:=Ur hk;have H:=Z3 hf L;have d:A.map a.eval=args'.toArray:=by apply Array.ext';simpa using H
   have:=WcI hk;simpa[execOp,resolve,d,hf _ _ hg,CK.v,Deferred.ofValue,invoke]using this
  ·rename_i r name args' L;obtain⟨vr,C,hk⟩:=Wq hk;have H:=Z3 hf L;have d:A.map a.eval=args'.toArray:=by apply Array.ext';simpa using H
   have:=Rc hk;simpa[execOp,resolve,d,hf _ _ C,invoke]using this
  ·rename_i sa sn sc xa xn xc t t' L ht;have H:=Z3 hf L;have d:A.map a.eval = #[.slice sa sn sc,.slice xa xn xc]:=by apply Array.ext';simpa using H
   have X:ats = #[t,t']:=by apply Array.ext';simpa using ht
   subst X;split at hk
   case h_2=>exact hk.elim
   rename_i e E;split at hk
   case h_2=>exact hk.elim
   rename_i Q J;split at hk
   case h_2=>exact hk.elim
   rename_i z V;rw[WJ]at hk;obtain⟨j,hk⟩:=hk;simp only[zF,zX]at j;obtain⟨⟨h1,h2⟩,h3⟩:=j;have ett:t=t':=lD h1;subst ett;obtain⟨r,B,C,M,D⟩:=Tt (P:=P) (ty:=ty) E J V h2 (Nat.blt_eq.mp h3) hk;refine .inl ⟨_,B,?_,M,D⟩;simp only at C;simp[execOp,resolve,d,invoke,builtin,C]
  ·rename_i m k' n t ats' L ht;have H:=Z3 hf L;have d:A.map a.eval = #[.map m,.int k' n]:=by apply Array.ext';simpa using H
   have X:ats=(t::ats').toArray:=by apply Array.ext';simpa using ht
   subst X;obtain⟨kt,et,ki,c,E,W,G⟩:=BO hk;clear hk;split at G
   ·rename_i e;subst e;obtain⟨l,hl,D⟩:=G;obtain⟨B,C,M,h1,h2,h3⟩:=N2 (P:=P) (ty:=ty) (ats:=ats') E W (n:=n) hl;refine .inl ⟨_,B,?_,M,D _ h1 h2 h3⟩;simp[execOp,resolve,d,invoke,builtin,C]
   ·exact G.elim
  ·rename_i sa sn sc n t t' L ht;have H:=Z3 hf L;have d:A.map a.eval = #[.slice sa sn sc,.int .i64 n]:=by apply Array.ext';simpa using H
   have X:ats = #[t,t']:=by apply Array.ext';simpa using ht
   subst X;split at hk
   case h_2=>exact hk.elim
   rename_i e ki E hu';split at hk
   case h_2=>exact hk.elim
   rename_i Q J;split at hk
   case h_2=>exact hk.elim
   rename_i z V;rw[WJ]at hk;obtain⟨j,hk⟩:=hk;simp only[zF,zX]at j;obtain⟨r,B,C,M,D⟩:=Sg (P:=P) (ty:=ty) E hu' J V j.1 (Nat.blt_eq.mp j.2) hk;refine .inl ⟨_,B,?_,M,D⟩;simp only at C;simp[execOp,resolve,d,invoke,builtin,C]
  ·rename_i da dn dc xa xn xc t ats' L ht;have H:=Z3 hf L;have d:A.map a.eval = #[.slice da dn dc,.slice xa xn xc]:=by apply Array.ext';simpa using H
   have X:ats=(t::ats').toArray:=by apply Array.ext';simpa using ht
   subst X;split at hk
   case h_2=>exact hk.elim
   rename_i e E;split at hk
   case h_2=>exact hk.elim
   rename_i Q J;obtain⟨r,B,C,M,D⟩:=Ot (P:=P) (ty:=ty) (ats:=ats') E J hk;refine .inl ⟨_,B,?_,M,D⟩;simp only at C;simp[execOp,resolve,d,invoke,builtin,C]
  ·rename_i sa sn sc t L ht;have H:=Z3 hf L;have d:A.map a.eval = #[.slice sa sn sc]:=by apply Array.ext';simpa using H
   have X:ats = #[t]:=by apply Array.ext';simpa using ht
   subst X;split at hk
   case h_2=>exact hk.elim
   rename_i e E;split at hk
   case h_2=>exact hk.elim
   rename_i Q J;split at hk
   case h_2=>exact hk.elim
   rename_i z V;rw[WJ]at hk;obtain⟨j,hk⟩:=hk;simp only[zF,zX]at j;obtain⟨B,C,M,D⟩:=LS (P:=P) (ty:=ty) E J V j.1 (Nat.blt_eq.mp j.2) hk;refine .inl ⟨_,B,?_,M,D⟩;simp only at C;simp[execOp,resolve,d,invoke,builtin,C]
  ·exact hk.elim
 ·exact hk.elim
theorem JB {k:IntKind}{c:CK}(p:MapEntry->Bool)(q:Int×c.T->Bool):∀(L:List MapEntry) (T:List (Int×c.T)),L.map (λe=>(e.key,e.val))=T.map (λx=>(Value.int k x.1,c.v x.2)) →
 (∀(j:Nat) (e:MapEntry) (y:Int×c.T),L[j]?=some e->T[j]?=some y->p e=q y)->(L.filter p).map (λe=>(e.key,e.val))=(T.filter q).map (λx=>(Value.int k x.1,c.v x.2))
 | [],T,h,_=>by
  cases T with
  | nil=>rfl
  | cons y T=>simp at h
 | e::L,[],h,_=>by simp at h
 | e::L,y::T,h,hpq=>by
  simp only[zJ,List.cons.injEq]at h;have h0:=hpq 0 e y rfl rfl;have a:=JB p q L T h.2 (λj d g b i=>hpq (j+1) d g (by simpa using b) (by simpa using i));simp only[rK,h0];cases q y
  ·simpa using a
  ·simp[h.1,a]
theorem It.pz {P:Program}{r:Nat}{k:IntKind}{c:CK}{m:Option Nat}{l todo:List (Int×c.T)}{cur:Option (Int×c.T)}{w:World}(hit:It w.heap r k c m l todo cur)(ty:Nat) :
 (todo=[]/\∃w',(Instr.next (.pointer (some ⟨r,0,none⟩)) false ty).run P w=.ok (.tuple #[.bool false]) w'/\ZP w w'/\w'.heap=w.heap) ∨
 (∃n x w',(n,x)∈todo/\(Instr.next (.pointer (some ⟨r,0,none⟩)) false ty).run P w=.ok (.tuple #[.bool true,.int k n,c.v x]) w'/\ZP w w'/\QD w.heap w'.heap r ∧
  It w'.heap r k c m l (todo.filter λy=>!(y.1==n)) (some (n,x))):=by
 cases m with
 | none=>
  obtain⟨rfl,rfl,rfl,s,q,y,hr⟩:=hit;exact .inl ⟨rfl,w,by simp[Instr.next,getObj,Sem.run,hr],.refl _,rfl⟩
 | some b=>
  obtain⟨es,clk,seen,hr,hb,he,hn,hp,hlt,htodo,hcur⟩:=hit;have hrlt:r<w.heap.size:=(mA.1 hr).1;have hrb:r≠b:=λe=>by rw[e,hb]at hr;cases hr
  have hchk:¬((!seen.isEmpty && !es.isEmpty&&es.all (·.born≥clk))=true):=by
   intro h;simp only[zF,nj,Array.all_eq_true',zS]at h;obtain⟨⟨_,h2⟩,h3⟩:=h;have h2':es ≠ #[]:=by simpa[Array.isEmpty_iff]using h2
   obtain⟨e,hme⟩:=Array.exists_mem_of_ne_empty es h2';have:=h3 e hme;have:=hlt e (by simpa using hme);omega
  have hold:((es.filter λe=>!seen.contains e.born).filter (·.born<clk))=es.filter λe=>!seen.contains e.born:=by
   rw[Array.filter_eq_self];intro e hme;have:e∈es:=(Array.mem_filter.1 hme).1;simpa using hlt e (by simpa using this)
  have hnew:((es.filter λe=>!seen.contains e.born).filter (·.born≥clk)) = #[]:=by
   rw[Array.filter_eq_empty_iff];intro e hme;have:e∈es:=(Array.mem_filter.1 hme).1;have:=hlt e (by simpa using this);simp;omega
  have hlist:(es.filter λe=>!seen.contains e.born).toList=es.toList.filter λe=>!seen.contains e.born:=Array.toList_filter;have hrun:∀(cand:Array (Option MapEntry)),cand=(if(es.filter λe=>!seen.contains e.born).isEmpty then #[none]else #[])++(es.filter λe=>!seen.contains e.born).map some →
   (Instr.next (.pointer (some ⟨r,0,none⟩)) false ty).run P w=(do
    match cand[←choose (.mapNext cand.size)]? with
    | some (some e)=>do
     setObj r (.mapIter (some b) clk (seen.push e.born) clk)
     pure (.tuple #[.bool true,e.key,e.val])
    | some none=>pure (.tuple #[.bool false])
    | none=>stuck "Next: no such candidate" : Sem Value).run P w := by
   rintro cand rfl;simp only[Instr.next,getObj,Sem.run_bind,Sem.run,hr,Result.andThen_ok,hb,hchk,zw,hold,hnew,Array.append_empty,zb,Sem.run_bind]
   try rfl
  cases htd:todo with
  | nil=>
   left;subst htd;have hnil:(es.filter λe=>!seen.contains e.born) = #[]:=by
    apply Array.ext';rw[hlist];have:=congrArg List.length htodo;simpa using this
   refine⟨rfl,w,?_,.refl _,rfl⟩;rw[hrun #[none] (by rw[hnil];simp)];simp[choose,Sem.run,Question.forced]
  | cons y ys=>
   right;have hlen:(es.filter λe=>!seen.contains e.born).size=todo.length:=by
    rw[←vU,hlist];simpa using congrArg List.length htodo
   have hne:(es.filter λe=>!seen.contains e.born).isEmpty=false:=by
    rw[htd]at hlen;simp only[zP]at hlen;cases hce:(es.filter λe=>!seen.contains e.born).isEmpty
    ·rfl
    ·rw[Array.isEmpty_iff]at hce;rw[hce]at hlen;simp at hlen
   have key:∀(i:Nat),i<todo.length->∀w1:World,w1.heap=w.heap->ZP w w1->∃n x w',(n,x)∈todo ∧
    ((match ((es.filter λe=>!seen.contains e.born).map some)[i]? with
     | some (some e)=>do
      setObj r (.mapIter (some b) clk (seen.push e.born) clk)
      pure (.tuple #[.bool true,e.key,e.val])
     | some none=>pure (.tuple #[.bool false])
     | none=>stuck "Next: no such candidate" : Sem Value)).run P w1 = .ok (.tuple #[.bool true, .int k n, c.v x]) w' /\ ZP w w' /\ QD w.heap w'.heap r ∧
    It w'.heap r k c (some b) l (todo.filter λy=>!(y.1==n)) (some (n,x)):=by
    intro i hi w1 hw1 io;have hi':i<(es.filter λe=>!seen.contains e.born).size:=by omega
    let e:=(es.filter λe=>!seen.contains e.born)[i]
    have hei:(es.filter λe=>!seen.contains e.born)[i]?=some e:=by simp[e,hi']
    have hti:(es.toList.filter λe=>!seen.contains e.born)[i]?=some e:=by rw[←hlist,yX];exact hei
    have hty:todo[i]?=some todo[i]:=by simp[hi]
    have hkv:(e.key,e.val)=(Value.int k todo[i].1,c.v todo[i].2):=by
     have:=congrArg (λl=>l[i]?) htodo;simp only[ze,hti,hty,zf,Option.some.injEq]at this;exact this
    simp only[Prod.mk.injEq]at hkv;have hmemF:e∈es.toList.filter λe=>!seen.contains e.born:=zE hti;have hme:e∈es.toList:=(zH.1 hmemF).1;have hns:seen.contains e.born=false:=by simpa using(zH.1 hmemF).2
    refine⟨todo[i].1,todo[i].2,{w1 with heap:=w1.heap.setIfInBounds r (.mapIter (some b) clk (seen.push e.born) clk)},zc _,?_,?_,?_,?_⟩
    ·have hr1:w1.heap[r]?=some (.mapIter (some b) clk seen clk):=by rw[hw1];exact hr
     simp only[Array.getElem?_map,hei,zf,setObj,Sem.run_bind,Sem.run,hr1,Result.andThen_ok,Sem.run_pure,hkv.1,hkv.2]
    ·exact⟨io.1,io.2.1,io.2.2.1,by simp only[Array.size_setIfInBounds];exact io.2.2.2⟩
    ·rw[hw1];exact HD _ _ _
    ·rw[hw1];refine⟨es,clk,seen.push e.born,by simp[hrlt],?_,he,hn,hp,hlt,?_,λx hx=>?_⟩
     ·rw[An hrb];exact hb
     ·-- the rest
      have hinj:∀e'∈es.toList,(e'.born==e.born)=true->e'=e:=by
       intro e' h1 h2;have h2':e'.born=e.born:=by simpa using h2
       obtain⟨p,hp1,kB⟩:=uV h1;obtain⟨q,hq1,hq2⟩:=uV hme;have hpw:=kP.1 hp;rcases qx p q with h|h|h
       ·have:=hpw p q (by simpa using hp1) (by simpa using hq1) h;simp[kB,hq2,h2']at this
       ·subst h;rw[←kB,hq2]
       ·have:=hpw q p (by simpa using hq1) (by simpa using hp1) h;simp[kB,hq2,h2']at this
      have hf1:(es.toList.filter λe'=>!(seen.push e.born).contains e'.born)=(es.toList.filter λe'=>!seen.contains e'.born).filter λe'=>!(e'.born==e.born):=by
       rw[CX];apply Ac;intro e' _;simp[Array.contains_eq_mem,Array.mem_push];rw[Bool.and_comm]
       congr 1
      rw[hf1];refine JB _ _ _ _ htodo λj e' y h1 h2=>?_;have hm':e'∈es.toList:=(zH.1 (zE h1)).1;have hkv':(e'.key,e'.val)=(Value.int k y.1,c.v y.2):=by
       have:=congrArg (λl=>l[j]?) htodo;simp only[ze,h1,h2,zf,Option.some.injEq]at this;exact this
      simp only[Prod.mk.injEq]at hkv'
      congr 1
      rw[nG];constructor
      ·intro hb';have:=hinj e' hm' hb';subst this;have:=hkv'.1.symm.trans hkv.1;simp only[Value.int.injEq,td]at this;simpa using this
      ·intro hy;have hy':y.1=todo[i].1:=by simpa using hy
       have hkk:e'.key=e.key:=by rw[hkv'.1,hkv.1,hy']
       obtain⟨p,hp1,kB⟩:=uV hm';obtain⟨q,hq1,hq2⟩:=uV hme;have hll:es.toList.length=l.length:=by simpa using congrArg List.length he
       have hk1:∀(p:Nat) (hp:p<es.toList.length),es.toList[p].key=.int k (l[p]' O).1:=by
        intro p hp;have:=congrArg (λl=>l[p]?) he;simp only[ze,cM hp,cM (show p<l.length by omega),zf,Option.some.injEq,Prod.mk.injEq]at this;exact this.1
       have e1:=hk1 p hp1;have e2:=hk1 q hq1;rw[kB]at e1;rw[hq2]at e2;rw[hkk,e2]at e1;simp only[Value.int.injEq,td]at e1;have:p=q:=by
        have hnn:=kP.1 hn;rcases qx p q with h|h|h
        ·exact absurd (by rw[sv,sv];exact e1.symm) (hnn p q aE aE h)
        ·exact h
        ·exact absurd (by rw[sv,sv];exact e1) (hnn q p aE aE h)
       subst this;rw[←kB,←hq2];simp
     ·cases hx;refine⟨e,hme,by simp,hkv.1,hkv.2⟩
   have hsz:((if(es.filter λe=>!seen.contains e.born).isEmpty then #[none]else #[])++(es.filter λe=>!seen.contains e.born).map some:Array (Option MapEntry))=(es.filter λe=>!seen.contains e.born).map some:=by
    rw[hne];simp
   rw[←htd];rw[hrun _ hsz.symm];have hpos:0<todo.length:=by rw[htd];simp
   simp only[Sem.run_bind,choose,Sem.run,Array.size_map,hlen];cases hfo:(Question.mapNext todo.length).forced
   ·simp only[zb,zw,Result.andThen_ok];exact key _ (by simp only[Question.cut];exact uc _ hpos) _ rfl ⟨rfl,rfl,rfl,zD _⟩
   ·simp only[zT,Result.andThen_ok];exact key 0 hpos w rfl (.refl _)
theorem It.R7 {P:Program}{r:Nat}{k:IntKind}{c:CK}{m:Option Nat}{l todo:List (Int×c.T)}{n:Int}{x:c.T}{w:World}(hit:It w.heap r k c m l todo (some (n,x))) :
 (Instr.entry (.pointer (some ⟨r,0,none⟩))).run P w=.ok (.tuple #[.int k n,c.v x]) w:=by
 cases m with
 | none=>obtain⟨_,_,h,_⟩:=hit;cases h
 | some b=>
  obtain⟨z,D,A,G,H,L,K,C,B,u,i⟩:=hit;obtain⟨e,s,g,J,E⟩:=i _ rfl;have d:z.find? (·.born==e.born)=some e:=by
   rw[←Array.find?_toList,List.find?_eq_some_iff_getElem];obtain⟨p,a,kB⟩:=uV s;refine⟨by simp,p,a,kB,λj F=>?_⟩;have y:=kP.1 C j p (by simp;simp at a;omega) (by simpa using a) F;rw[sv,sv,kB]at y;rw[nj];cases hb2:(z.toList[j].born==e.born)
   ·rfl
   ·have:=zX.1 hb2;omega
  simp[Instr.entry,getObj,Sem.run,G,H,g,d,J,E]
def xR (k:IntKind)(c:CK)(o:Op)(ρ:Env)(h:Hp)(K:Value->Hp->Prop):Prop:=
 match o with
 | .next x false=>wv (ev ρ x) λv=>match v with
  | .pointer (some a)=>sC k c a h (K (.tuple #[.bool false]) h) λn y h'=>K (.tuple #[.bool true,.int k n,c.v y]) h'
  | _=>False
 | .entry x=>wv (ev ρ x) λv=>match v with
  | .pointer (some a)=>sk k c a h λn y=>K (.tuple #[.int k n,c.v y]) h
  | _=>False
 | _=>False
theorem It.spot {a:Addr}(h:a.off=0):∃s,a=⟨a.block,0,s⟩:=⟨a.spot,by cases a;simp at h;subst h;rfl⟩
theorem Sd {P:Program}{k:IntKind}{c:CK}{ρ:Env}{K:Value->Hp->Prop}{a:Act}{w:World}(hf:∀x v,ev ρ x=some v->a.eval x=v)(o:Oper)(hk:xR k c o.op ρ w.heap K):Vp P (execOp a.eval o) w K:=by
 obtain⟨D,op,j,pos,p,r⟩:=o;simp only at hk;unfold xR at hk;split at hk
 ·rename_i x;obtain⟨v,i,hk⟩:=Wq hk;simp only[execOp,hf _ _ i];split at hk
  case h_2=>exact hk.elim
  rename_i ad;obtain⟨g,m,l,e,B,d,C,z⟩:=hk;obtain⟨s,u⟩:=It.spot g;have b:∀w:World,(Instr.next (.pointer (some ad)) false j).run P w=(Instr.next (.pointer (some ⟨ad.block,0,none⟩)) false j).run P w:=by
   intro w;rw[u];rfl
  rcases d.pz (P:=P) j with⟨ht,w',hr,io,hh⟩|⟨n,y,w',hm,hr,io,ho,hi'⟩
  ·exact .inl ⟨.tuple #[.bool false],w',by simp[b,hr],io,by rw[hh];exact C ht⟩
  ·exact .inl ⟨.tuple #[.bool true,.int k n,c.v y],w',by simp[b,hr],io,z n y hm _ ho hi'⟩
 ·rename_i x;obtain⟨v,i,hk⟩:=Wq hk;simp only[execOp,hf _ _ i];split at hk
  case h_2=>exact hk.elim
  rename_i ad;obtain⟨g,m,l,e,n,y,d,A⟩:=hk;obtain⟨s,u⟩:=It.spot g;have b:(Instr.entry (.pointer (some ad))).run P w=(Instr.entry (.pointer (some ⟨ad.block,0,none⟩))).run P w:=by
   rw[u];rfl
  exact .inl ⟨.tuple #[.int k n,c.v y],w,by simp[b,d.R7 (P:=P)],.refl _,A⟩
 ·exact hk.elim
structure Fits (N:Nat) (ρ:Env) (a:Act):Prop where
 defers:a.defers=[]
 size:a.tmps.size=N
 at_:∀i v,ρ i=some v->a.tmps[i]?=some v
theorem Fits.ev {N:Nat}{ρ:Env}{a:Act}(h:Fits N ρ a):∀x v,ev ρ x=some v->a.eval x=v:=by
 intro x v hx;cases x with
 | tmp t=>
  have:=h.at_ t v hx;simp[Act.eval,si,this]
 | const u=>simp only[Vc.ev,Option.some.injEq]at hx;exact hx
 | global g=>simp only[Vc.ev,Option.some.injEq]at hx;exact hx
 | func f=>simp only[Vc.ev,Option.some.injEq]at hx;exact hx
def tg (N:Nat):Option Nat->Bool
 | some d=>Nat.blt d N
 | none=>true
theorem Fits.put {N:Nat}{ρ:Env}{a:Act}(h:Fits N ρ a){d:Option Nat}(hd:tg N d=true)(v:Value):Fits N (ρ.iS d v) (a.put d v):=by
 cases d with
 | none=>exact h
 | some d=>
  have g:d<N:=Nat.blt_eq.mp hd;refine⟨h.defers,by simp[Act.put,h.size],λi u b=>?_⟩;simp only[Env.iS,Env.put]at b;cases hi:Nat.beq i d
  ·rw[hi]at b;have j:i≠d:=λe=>by subst e;simp at hi
   simp only[Act.put];rw[An (Ne.symm j)];exact h.at_ i u b
  ·rw[hi]at b;have e:i=d:=lD hi;subst e;simp only[cond_true,Option.some.injEq]at b;subst b;simp[Act.put,h.size,g]
theorem Fits.weaken {N:Nat}{ρ ρ':Env}{a:Act}(h:Fits N ρ a)(hw:∀i v,ρ' i=some v->ρ i=some v):Fits N ρ' a:=
 ⟨h.defers,h.size,λi v b=>h.at_ i v (hw i v b)⟩
theorem AN (ρ:Env)(ds:List Nat):∀i v,ρ.fA ds i=some v->ρ i=some v:=by
 intro i v h;simp only[Env.fA]at h;cases hc:ds.contains i<;>rw[hc]at h<;>simp at h
 exact h
theorem Fits.lit {N:Nat}{ρ:Env}{a:Act}(h:Fits N ρ a){c:Nat}{b b':Bool}(hc:ρ c=some (.bool b))(e:b=b'):Fits N (ρ.put c (.bool b')) a:=by
 subst e;refine h.weaken λi v d=>?_;simp only[Env.put]at d;cases hi:Nat.beq i c
 ·rw[hi]at d;exact d
 ·rw[hi]at d;have e:i=c:=lD hi;subst e;rw[hc];exact d
def px (ops:Array Oper)(o:Oper)(ρ:Env):Bool:=
 match o.guard with
 | none=>true
 | some (j,want)=>match (ops[j]?).bind (·.dst)with
  | some c=>match ρ c with
   | some (.bool b)=>b==want
   | _=>false
  | none=>false
def tf (ops:Array Oper)(o:Oper)(ρ:Env):Bool:=
 match o.guard with
 | none=>false
 | some (j,want)=>match (ops[j]?).bind (·.dst)with
  | some c=>match ρ c with
   | some (.bool b)=>!(b==want)
   | some (.tuple _)=>true
   | _=>false
  | none=>false
theorem Z9 {N:Nat}{ops:Array Oper}{o:Oper}{ρ:Env}{a:Act}(hf:Fits N ρ a)(h:px ops o ρ=true):Region.wanted o (yielded ops a.tmps)=true:=by
 unfold px at h;unfold Region.wanted;cases hg:o.guard with
 | none=>rfl
 | some jw=>
  obtain⟨j,d⟩:=jw;rw[hg]at h;simp only at h ⊢;cases hc:(ops[j]?).bind (·.dst)with
  | none=>rw[hc]at h;cases h
  | some c=>
   rw[hc]at h;simp only at h;split at h
   ·rename_i b hb;have:=hf.at_ c _ hb;simp only[yielded,hc,Ad,this];simpa using h
   ·cases h
theorem VE {N:Nat}{ops:Array Oper}{o:Oper}{ρ:Env}{a:Act}(hf:Fits N ρ a)(h:tf ops o ρ=true):Region.wanted o (yielded ops a.tmps)=false:=by
 unfold tf at h;unfold Region.wanted;cases hg:o.guard with
 | none=>rw[hg]at h;cases h
 | some jw=>
  obtain⟨j,d⟩:=jw;rw[hg]at h;simp only at h ⊢;cases hc:(ops[j]?).bind (·.dst)with
  | none=>rw[hc]at h;cases h
  | some c=>
   rw[hc]at h;simp only at h;split at h
   ·rename_i b hb;have:=hf.at_ c _ hb;simp only[yielded,hc,Ad,this];simpa using h
   ·rename_i b hb;have:=hf.at_ c _ hb;simp only[yielded,hc,Ad,this];rfl
   ·cases h
def Gy (N:Nat)(ops:Array Oper):List Oper->Env->Bool
 | [],_=>true
 | o::os,ρ=>tf ops o ρ&&(tg N o.dst&&Gy N ops os (ρ.iS o.dst undef))
theorem JI {P:Program}{N:Nat}{ops:Array Oper}{Q:Exit->Act->World->Prop}{tail:List Oper}{w:World}:∀{os:List Oper} {ρ:Env} {a:Act},Gy N ops os ρ=true->Fits N ρ a →
 (∀a',Fits N (ρ.fA (os.filterMap (·.dst))) a'->wpList P ops Q tail a' w)->wpList P ops Q (os++tail) a w
 | [],ρ,a,_,hf,h=>h a (hf.weaken (AN _ _))
 | o::os,ρ,a,hs,hf,h=>by
  simp only[Gy,zF]at hs;obtain⟨h1,h2,h3⟩:=hs;have m:=VE hf h1;simp only[lL,wpList,m];refine JI h3 (hf.put h2 _) λa' e=>h a' (e.weaken λi v b=>?_);simp only[Env.fA]at b ⊢;cases hc:(List.filterMap (·.dst) (o::os)).contains i
  ·rw[hc]at b;simp only[cond_false]at b;have j:(List.filterMap (·.dst) os).contains i=false:=by
    cases hd:o.dst<;>simp_all
   have g:∀d,o.dst=some d->i≠d:=by
    intro d hd;simp_all
   rw[j];simp only[cond_false];cases hd:o.dst with
   | none=>exact b
   | some d=>
    have:=g d hd;simp only[Env.iS,Env.put];have:Nat.beq i d=false:=by
     cases hb:Nat.beq i d
     ·rfl
     ·exact absurd (lD hb) this
    rw[this];exact b
  ·rw[hc]at b;cases b
theorem Fj {P:Program}{N:Nat}{ops:Array Oper}{Q:Act->Prop}{tail:List Oper}{w:World}:∀{os:List Oper} {ρ:Env} {a:Act},Gy N ops os ρ=true->Fits N ρ a →
 (∀a',Fits N (ρ.fA (os.filterMap (·.dst))) a'->wpStill P ops w Q tail a')->wpStill P ops w Q (os++tail) a
 | [],ρ,a,_,hf,h=>h a (hf.weaken (AN _ _))
 | o::os,ρ,a,hs,hf,h=>by
  simp only[Gy,zF]at hs;obtain⟨h1,h2,h3⟩:=hs;have m:=VE hf h1;simp only[lL,wpStill,m];refine Fj h3 (hf.put h2 _) λa' e=>h a' (e.weaken λi v b=>?_);simp only[Env.fA]at b ⊢;cases hc:(List.filterMap (·.dst) (o::os)).contains i
  ·rw[hc]at b;simp only[cond_false]at b;have j:(List.filterMap (·.dst) os).contains i=false:=by
    cases hd:o.dst<;>simp_all
   have g:∀d,o.dst=some d->i≠d:=by
    intro d hd;simp_all
   rw[j];simp only[cond_false];cases hd:o.dst with
   | none=>exact b
   | some d=>
    have:=g d hd;simp only[Env.iS,Env.put];have:Nat.beq i d=false:=by
     cases hb:Nat.beq i d
     ·rfl
     ·exact absurd (lD hb) this
    rw[this];exact b
  ·rw[hc]at b;cases b
def bY (K:aO)(body:(Bool->Hp->Prop)->Prop):Prop:=∃J:Bool->Hp->Prop,(∀r h,J r h->K r h)/\body J
theorem bY.intro {K:aO}{body:(Bool->Hp->Prop)->Prop}(h:body K):bY K body:=⟨K,λ_ _ h=>h,h⟩
inductive RI where
 | op
 | it (k:IntKind) (c:CK)
 | dD (and:Bool) (n:Nat) (inner:List RI)
def Bz (b:Bool):Operand->Bool
 | .const (.bool b')=>b'==b
 | _=>false
def HM (ρ:Env)(x:Operand)(K:Bool->Prop):Prop:=match ev ρ x with
 | some (.bool r)=>K r
 | _=>False
def sK (ρ:Env)(c:Nat)(b:Bool):Bool:=match ρ c with
 | some (.bool b')=>b'==b
 | _=>false
def fS (P:Program)(N:Nat)(ops:Array Oper):Nat->List RI->List Oper->Env->Hp->(Env->Hp->Prop)->Prop
 | 0,_,_,_,_,_=>False
 | _+1,[],[],ρ,h,K=>K ρ h
 | n+1,.op::hs,o::os,ρ,h,K=>gR (px ops o ρ&&tg N o.dst) (vV P o.op o.type ρ h λv h'=>fS P N ops n hs os (ρ.iS o.dst v) h' K)
 | n+1,.it ki c::hs,o::os,ρ,h,K=>gR (px ops o ρ&&tg N o.dst) (xR ki c o.op ρ h λv h'=>fS P N ops n hs os (ρ.iS o.dst v) h' K)
 | n+1,.dD and m inner::hs,os,ρ,h,K=>
  match os.drop m with
  | pk::rest=>match pk.op,pk.dst with
   | .pick (.tmp c) x y,some d=>match ρ c with
    | some (.bool b)=>gR (Nat.blt d N&&(Bz (!and) (bif and then y else x)&&(px ops pk (ρ.fA ((os.take m).filterMap (·.dst)))&&(sK ((ρ.put c (.bool (!and))).fA ((os.take m).filterMap (·.dst))) c (!and)&&Gy N ops (os.take m) (ρ.put c (.bool (!and)))))))
     (bY (λr h'=>fS P N ops n hs rest ((ρ.fA ((os.take m).filterMap (·.dst))).put d (.bool r)) h' K) λJ=>
      bif and then If b (fS P N ops n inner (os.take m) (ρ.put c (.bool true)) h λρ' h'=>gR (px ops pk ρ'&&sK ρ' c true) (HM ρ' x λr=>J r h')) (J false h)
      else If b (J true h) (fS P N ops n inner (os.take m) (ρ.put c (.bool false)) h λρ' h'=>gR (px ops pk ρ'&&sK ρ' c false) (HM ρ' y λr=>J r h')))
    | _=>False
   | _,_=>False
  | []=>False
 | _,_,_,_,_,_=>False
theorem F5 {P:Program}{ρ:Env}{K:Value->Hp->Prop}{a:Act}{w:World}(hf:∀x v,ev ρ x=some v->a.eval x=v)(o:Oper)(hk:vV P o.op o.type ρ w.heap K) :
 Vp P (execOp a.eval o) w K:=by
 unfold vV at hk;cases hq:s8 o.op
 ·rw[hq]at hk;exact L7 hf o hk
 ·rw[hq]at hk;obtain⟨v,b,d⟩:=G5 hf o hk;exact .inl ⟨v,w,b,.refl _,d⟩
theorem UI {ρ:Env}{x:Operand}{K:Bool->Prop}(h:HM ρ x K):∃r,ev ρ x=some (.bool r)/\K r:=by
 unfold HM at h;split at h
 ·exact⟨_,by assumption,h⟩
 ·exact h.elim
theorem IF {b:Bool}{x:Operand}(h:Bz b x=true)(ρ:Operand->Value)(hc:∀v,ρ (.const v)=v):ρ x=.bool b:=by
 unfold Bz at h;split at h
 ·rw[hc];simp at h;rw[h]
 ·cases h
theorem LW {P:Program}{a:Act}{w:World}{o:Oper}{c x y:Operand}{b r:Bool}{K:Value->Hp->Prop}(ho:o.op=.pick c x y)(hc:a.eval c=.bool b)(hr:a.eval (bif b then x else y)=.bool r)(hK:K (.bool r) w.heap) :
 Vp P (execOp a.eval o) w K:=by
 obtain⟨g,op,i,pos,d,e⟩:=o;simp only at ho;subst ho;refine .inl ⟨_,w,?_,.refl _,hK⟩;cases b<;>simp at hr<;>simp[execOp,hc,asBool,hr]
def UQ (os:List Oper)(ρ ρ':Env):Prop:=∀i,(os.filterMap (·.dst)).contains i=false->∀v,ρ i=some v->ρ' i=some v
theorem UQ.cons {o:Oper}{os:List Oper}{ρ ρ':Env}{v:Value}(h:UQ os (ρ.iS o.dst v) ρ'):UQ (o::os) ρ ρ':=by
 intro i hi u hu;cases hd:o.dst with
 | none=>rw[hd]at h;exact h i (by simpa[hd]using hi) u hu
 | some d=>
  rw[hd]at h;simp[hd]at hi;refine h i (by simpa using hi.2) u ?_;simp only[Env.iS,Env.put];have:Nat.beq i d=false:=by
   cases hb:Nat.beq i d
   ·rfl
   ·exact absurd (lD hb) hi.1
  rw[this];exact hu
theorem UQ.dD {os rest:List Oper}{pk:Oper}{m d:Nat}{ρ ρ':Env}{r:Bool}(hd:pk.dst=some d)(hdrop:os.drop m=pk::rest)(h:UQ rest ((ρ.fA ((os.take m).filterMap (·.dst))).put d (.bool r)) ρ'):UQ os ρ ρ':=by
 intro i hi u hu;rw[←nu m os,hdrop,vq,AZ,hd]at hi;simp only[rQ,zR,zQ,decide_eq_false_iff_not,not_or]at hi;refine h i (by simpa using hi.2.2) u ?_;simp only[Env.put,Env.fA];have:Nat.beq i d=false:=by
  cases hb:Nat.beq i d
  ·rfl
  ·exact absurd (lD hb) hi.2.1
 rw[this];have a:((os.take m).filterMap (·.dst)).contains i=false:=by simpa using hi.1
 rw[a];exact hu
theorem Fits.yT {N:Nat}{os:List Oper}{ρ ρ':Env}{a:Act}{c:Nat}{b b':Bool}(h:Fits N ρ' a)(hc:ρ c=some (.bool b))(e:b=b')(k:UQ os (ρ.put c (.bool b')) ρ'):Fits N (ρ.fA (os.filterMap (·.dst))) a:=by
 refine h.weaken λi v d=>?_;simp only[Env.fA]at d;cases hci:(os.filterMap (·.dst)).contains i
 ·rw[hci]at d;refine k i hci v ?_;simp only[Env.put];cases hb:Nat.beq i c
  ·exact d
  ·have g:i=c:=lD hb;subst g;simp only[cond_false]at d;rw[hc]at d;simp only[cond_true];rw[←e];exact d
 ·rw[hci]at d;cases d
theorem G0 {ρ:Env}{c:Nat}{b:Bool}(h:sK ρ c b=true):ρ c=some (.bool b):=by
 unfold sK at h;split at h
 ·rename_i b' hb;simp at h;rw[hb,h]
 ·cases h
theorem KZ {P:Program}{N:Nat}{ops:Array Oper}{Q:Exit->Act->World->Prop}:∀(n:Nat) {hs:List RI} {os:List Oper} {tail:List Oper} {ρ:Env} {a:Act} {w:World} {K:Env->Hp->Prop},
 fS P N ops n hs os ρ w.heap K->Fits N ρ a->(∀ρ' a' w',Fits N ρ' a'->ZP w w'->UQ os ρ ρ'->K ρ' w'.heap->wpList P ops Q tail a' w')->wpList P ops Q (os++tail) a w
 | 0,_,_,_,_,_,_,_,h,_,_=>(by simp only[fS]at h)
 | n+1,[],[],tail,ρ,a,w,K,h,hf,hK=>by
  simp only[fS]at h;exact hK ρ a w hf (.refl _) (λ_ _ _ h=>h) h
 | n+1,[],o::os,tail,ρ,a,w,K,h,hf,hK=>(by simp only[fS]at h)
 | n+1,.op::hs,[],tail,ρ,a,w,K,h,hf,hK=>(by simp only[fS]at h)
 | n+1,.op::hs,o::os,tail,ρ,a,w,K,h,hf,hK=>by
  simp only[fS]at h;rw[WJ]at h;obtain⟨hc,h⟩:=h;simp only[zF]at hc;have G:=Z9 hf hc.1;simp only[lL,wpList,G,zT];refine .inl (Vp.upon (F5 hf.ev o h) λv w' E u=>?_);exact KZ n u (hf.put hc.2 v) λρ' a' A g j F p=>hK ρ' a' A g (E.trans j) F.cons p
 | n+1,.it ki c::hs,[],tail,ρ,a,w,K,h,hf,hK=>(by simp only[fS]at h)
 | n+1,.it ki c::hs,o::os,tail,ρ,a,w,K,h,hf,hK=>by
  simp only[fS]at h;rw[WJ]at h;obtain⟨hc,h⟩:=h;simp only[zF]at hc;have G:=Z9 hf hc.1;simp only[lL,wpList,G,zT];refine .inl (Vp.upon (Sd hf.ev o h) λv w' E u=>?_);exact KZ n u (hf.put hc.2 v) λρ' a' A g j F p=>hK ρ' a' A g (E.trans j) F.cons p
 | n+1,.dD and m inner::hs,os,tail,ρ,a,w,K,h,hf,hK=>by
  simp only[fS]at h;split at h
  case h_2=>exact h.elim
  rename_i pk rest hdrop;split at h
  case h_2=>exact h.elim
  rename_i c x y d hop hd;split at h
  case h_2=>exact h.elim
  rename_i b hb;rw[WJ]at h;obtain⟨hc,J,hJ,h⟩:=h;simp only[zF]at hc;obtain⟨R,V,ab,Y,D⟩:=hc;have ad:tg N pk.dst=true:=by rw[hd];exact R
  have W:os++tail=os.take m++(pk::rest++tail):=by
   rw[←hdrop,←kJ,nu]
  rw[W];have s:∀(r b':Bool) (z:Operand) a' w',b=b'->(bif b' then x else y)=z->Fits N (ρ.fA ((os.take m).filterMap (·.dst))) a'->ZP w w'->J r w'.heap->Region.wanted pk (yielded ops a'.tmps)=true →
   a'.eval (.tmp c)=.bool b'->a'.eval z=.bool r->wpList P ops Q (pk::rest++tail) a' w':=by
   intro r b' z a' w' e ez g E S G C hez;simp only[lL,wpList,G,zT];refine .inl (Vp.upon (K:=λv X=>v=.bool r/\X=w'.heap) (LW hop C (by rw[ez];exact hez) ⟨rfl,rfl⟩) λv A j u=>?_);obtain⟨rfl,hh⟩:=u;have Z:=g.put (d:=some d) R (.bool r);rw[hd];have L:=hJ _ _ S;rw[←hh]at L;exact KZ n L Z λρ' aa w3 U H F p=>hK ρ' aa w3 U ((E.trans j).trans H) (UQ.dD hd hdrop F) p
  have run:∀(b':Bool) (z:Operand),b=b'->(bif b' then x else y)=z →
   fS P N ops n inner (os.take m) (ρ.put c (.bool b')) w.heap (λρ' X=>gR (px ops pk ρ'&&sK ρ' c b') (HM ρ' z λr=>J r X))->wpList P ops Q (os.take m++(pk::rest++tail)) a w:=by
   intro b' z e ez hseg;refine KZ n hseg (hf.lit hb e) λρ' a' w' g E F u=>?_;rw[WJ]at u;simp only[zF]at u;obtain⟨⟨hg,ac⟩,u⟩:=u;obtain⟨r,hr,S⟩:=UI u;exact s r b' z a' w' e ez (g.yT hb e F) E S (Z9 g hg) (g.ev _ _ (G0 ac)) (g.ev _ _ hr)
  have B:∀(b':Bool),b=b'->b' = !and->J (!and) w.heap->wpList P ops Q (os.take m++(pk::rest++tail)) a w:=by
   intro b' e eb S;subst eb;refine JI D (hf.lit hb e) λa' g=>?_;have M:Fits N (ρ.fA ((os.take m).filterMap (·.dst))) a':=g.yT (ρ':=(ρ.put c (.bool (!and))).fA ((os.take m).filterMap (·.dst))) hb e (λi hi v hv=>by simp only[Env.fA,hi];exact hv);have C:=g.ev (.tmp c) _ (G0 Y);refine s (!and) (!and) (bif (!and)then x else y) a' w e rfl M (.refl _) S (Z9 M ab) C ?_;refine IF ?_ _ (λv=>rfl);cases and<;>exact V
  cases and
  ·simp only[cond_false]at h;cases b
   ·exact run false y rfl rfl (h.f rfl)
   ·exact B true rfl rfl (h.t rfl)
  ·simp only[cond_true]at h;cases b
   ·exact B false rfl rfl (h.f rfl)
   ·exact run true x rfl rfl (h.t rfl)
variable {P:Program}{ops:Array Oper}{Q:Exit->Act->World->Prop}
def wg (ops:Array Oper)(k i:Nat):Bool:=match ops[k]? with
 | none=>false
 | some o=>o.after.toList.any λe=>Region.binds .any e&&Nat.beq e.on i
def TS (S:World->Prop)(C:List Nat)(listed:Array Bool)(w:World):Prop:=S w\/∃k∈C,listed.getD k false=true
def anyS (P:Program)(ops:Array Oper)(Q:Exit->Act->World->Prop)(S:World->Prop)(C:List Nat):Nat->Array Bool->Act->World->Prop
 | 0,listed,a,w=>Region.ready .any ops listed=[]/\Q .normal a w
 | m+1,listed,a,w=>(Region.ready .any ops listed=[]->Q .normal a w) ∧
  ∀i,i∈Region.ready .any ops listed->wpOp P ops Q i (λa' w'=>TS S C (listed.setIfInBounds i true) w'/\anyS P ops Q S C m (listed.setIfInBounds i true) a' w') a w
theorem JM {S:World->Prop}{C:List Nat}:∀(m:Nat) (listed:Array Bool) (a:Act) (w:World),anyS P ops Q S C m listed a w->wpAny P .any ops Q m listed a w
 | 0,_,_,_,h=>h
 | m+1,_,_,_,h=>⟨h.1,λi hi=>wpOp_mono (λ_ _ h'=>JM m _ _ _ h'.2) (h.2 i hi)⟩
theorem TS.out {S:World->Prop}{C:List Nat}{listed:Array Bool}{w:World}(h:TS S C listed w)(hn:∀k∈C,listed.getD k false=false):S w:=by
 rcases h with h|⟨k,hk,hl⟩
 ·exact h
 ·rw[hn k hk]at hl;cases hl
theorem S9 {k i:Nat}{o:Oper}(ho:ops[k]?=some o)(hno:∀e∈o.after,Region.binds .any e=true->e.on≠i):wg ops k i=false:=by
 unfold wg;rw[ho];simp only;rw[m7];intro e he hb;simp only[zF]at hb;exact hno e (by simpa using he) hb.1 (lD hb.2)
theorem TS.drop {S:World->Prop}{C:List Nat}{listed:Array Bool}{w:World}{i j:Nat}(hij:i≠j)(hi:∀k∈C,k≠i)(h:TS S C ((listed.setIfInBounds i true).setIfInBounds j true) w):TS S C (listed.setIfInBounds j true) w:=by
 refine h.imp id ?_;rintro⟨k,hk,hl⟩;refine⟨k,hk,?_⟩;rw[Array.setIfInBounds_comm _ _ hij,getD_set_ne false (Ne.symm (hi k hk))]at hl;exact hl
theorem Te {S T:World->Prop}{C:List Nat}{i:Nat}{oi:Oper}{v:Value}(hi:ops[i]?=some oi)(hsel:∀(j:Nat) (o:Oper) cs b,ops[j]?=some o->o.op≠.select cs b)
 (hQ:∀c a w,Q (.panic c) (a.put oi.dst v) w->Q (.panic c) a w) (hiC:∀k∈C,k≠i) (hT:(∀w,T w)\/((∀w,S w->T w)/\∀k∈C,wg ops k i=true)) :
 ∀(m:Nat) (listed:Array Bool) (a:Act) (w:World),
  (∀j oj,ops[j]?=some oj->j≠i->listed.getD j true=false->(∀e∈oj.after,Region.binds .any e=true->e.on≠i)->oi.apart ops oj=true) →
  i∈Region.ready .any ops listed->((∀w,T w)\/∀k∈C,listed.getD k false=false)->YieldsIf P ops T oi v a->TS S C listed w →
  anyS P ops Q S C m (listed.setIfInBounds i true) (a.put oi.dst v) w->anyS P ops Q S C (m+1) listed a w:=by
 have s:∀{listed:Array Bool} {a:Act} {w:World} {K:Act->World->Prop},((∀w,T w)\/∀k∈C,listed.getD k false=false)->YieldsIf P ops T oi v a->TS S C listed w->K (a.put oi.dst v) w →
  wpOp P ops Q i (λG B=>TS S C (listed.setIfInBounds i true) B/\K G B) a w:=by
  intro listed a w K g hy hS hK;refine hy.wpOp hi ?_ ⟨?_,hK⟩
  ·rcases hT with hT|⟨hT,_⟩
   ·exact hT w
   ·rcases g with g|g
    ·exact g w
    ·exact hT w (hS.out g)
  ·refine hS.imp id ?_;rintro⟨k,u,hl⟩;exact⟨k,u,by rw[getD_set_ne false (Ne.symm (hiC k u))];exact hl⟩
 intro m
 induction m with
 | zero=>
  intro listed a w _ hr g hy hS H;refine⟨λh=>by rw[h]at hr;simp at hr,λj D=>?_⟩;by_cases hji:j=i
  ·rw[hji];exact s g hy hS H
  ·have p:=ready_mono D hji;rw[H.1]at p;simp at p
 | succ m ih=>
  intro listed a w hfree hr g hy hS H;refine⟨λh=>by rw[h]at hr;simp at hr,λj D=>?_⟩;by_cases hji:j=i
  ·rw[hji];exact s g hy hS H
  ·obtain⟨y,oj,r,A⟩:=mem_ready.1 D;have d:=(mem_ready.1 hr).1;have z:∀e∈oj.after,Region.binds .any e=true->e.on≠i:=by
    intro e he hb heq;have p:=A e he hb;rw[heq]at p;rw[si]at p d;cases hg:listed[i]? with
    | none=>rw[hg]at p;cases p
    | some b=>rw[hg]at p d;simp only[oV]at p d;rw[d]at p;cases p
   have M:=wpOp_putIf r (hfree j oj r hji y z) (λcs b=>hsel i oi cs b hi) (λcs b=>hsel j oj cs b r) hQ hy (H.2 j (ready_mono D hji));refine wpOp_mono (λG B F=>?_) M;have x:=F.2.1.drop (Ne.symm hji) hiC;refine⟨x,ih _ G B (λk ok u E J L=>?_) (ready_mono hr (Ne.symm hji)) ?_ F.1 x ?_⟩
   ·refine hfree k ok u E ?_ L;by_cases hjk:j=k
    ·rw[←hjk];exact y
    ·rwa [getD_set_ne true hjk]at J
   ·rcases hT with hT|⟨_,hw⟩
    ·exact .inl hT
    refine g.imp id λg k u=>?_;by_cases hjk:j=k
    ·exfalso;have:=hw k u;rw[←hjk,S9 r z]at this;cases this
    ·rw[getD_set_ne false hjk];exact g k u
   ·rw[Array.setIfInBounds_comm _ _ hji];exact F.2.2
theorem A3 {S T:World->Prop}{C:List Nat}{i m:Nat}{oi:Oper}{v:Value}{listed:Array Bool}{a:Act}{w:World}(hi:ops[i]?=some oi)(hs:Region.noSelect ops=true)(hf:Region.free .any ops listed i=true)
 (hr:i∈Region.ready .any ops listed) (hQ:∀c a w,Q (.panic c) (a.put oi.dst v) w->Q (.panic c) a w) (hiC:C.contains i=false)
 (hT:(∀w,T w)\/((∀w,S w->T w)/\∀k∈C,wg ops k i=true)) (hn:(∀w,T w)\/∀k∈C,listed.getD k false=false) (hy:YieldsIf P ops T oi v a) (hS:TS S C listed w)
 (h:anyS P ops Q S C m (listed.setIfInBounds i true) (a.put oi.dst v) w):anyS P ops Q S C (m+1) listed a w:=
 Te hi (Region.noSelect_spec hs) hQ (λk b e=>by subst e;rw[tu.2 b]at hiC;cases hiC) hT m listed a w (Region.free_spec hi hf) hr hn hy hS h
theorem Wkv {S:World->Prop}{C:List Nat}{rs:List Nat}{m:Nat}{listed:Array Bool}{a:Act}{w:World}(hr:Region.ready .any ops listed=rs)(hne:rs≠[])
 (h:∀i∈rs,wpOp P ops Q i (λa' w'=>TS S C (listed.setIfInBounds i true) w'/\anyS P ops Q S C m (listed.setIfInBounds i true) a' w') a w):anyS P ops Q S C (m+1) listed a w:=
 ⟨λb=>absurd (hr▸b) hne,hr▸h⟩
theorem Oj {S:World->Prop}{C:List Nat}{listed:Array Bool}{a:Act}{w:World}(hr:Region.ready .any ops listed=[])(h:Q .normal a w):∀m,anyS P ops Q S C m listed a w
 | 0=>⟨hr,h⟩
 | _+1=>⟨λ_=>h,by rw[hr];simp⟩
theorem UT {S:World->Prop}{C:List Nat}{id:Nat}{a:Act}{w:World}(hm:P.follows .mixedOrders=true)
 (h:anyS P ops Q S C ops.size (Array.replicate ops.size false) a {w with drawn:=w.drawn+1}):(Code.region id ops true).wp P Q a w:=
 wp_region_any hm (JM _ _ _ _ h)
end Go.Vc
namespace Go.Vc
open Go
def GK (P:Program):Op->Bool
 | .load _ _=>false
 | .lookup .. => false
 | .typeAssert .. => false
 | .convert s _ _=>match P.underlying s with
  | some (.slice _)=>false
  | _=>true
 | .call c=>match c.callee,c.argTypes.toList with
  | .builtin .len,[t]=>match P.underlying t with
   | some (.map _ _)=>false
   | some _=>true
   | none=>false
  | .builtin .cap,_=>true
  | .builtin .max,_=>true
  | .builtin .min,_=>true
  | _,_=>false
 | o=>s8 o
theorem Bi {op:BinOp}{k:IntKind}{x y:Int}{K:Value->Prop}(h:qA op k x y K):∃v,K v/\qA op k x y (· = v):=by
 cases op<;>simp only[qA,Ar,Nz,Nn]at h ⊢
 all_goals first
  | exact⟨_,h,rfl⟩
  | exact⟨_,h.2,h.1,rfl⟩
theorem Gf {op:BinOp}{b:Bool}{K:Value->Prop}(h:nE op b K):∃v,K v/\nE op b (· = v):=by
 cases op<;>simp only[nE]at h ⊢ <;> first|exact h.elim|exact⟨_,h,rfl⟩
theorem L1 {P:Program}{op:BinOp}{t:Nat}{x y:Value}{K:Value->Prop}(h:mI P op t x y K):∃v,K v/\mI P op t x y (· = v):=by
 unfold mI at h ⊢;split at h
 ·obtain⟨v,a,b⟩:=Gf h;exact⟨v,a,by simp only[*]⟩
 ·obtain⟨v,a,b⟩:=Gf h;exact⟨v,a,by simp only[*]⟩
 ·obtain⟨v,a,b⟩:=Gf h;exact⟨v,a,by simp only[*]⟩
 ·obtain⟨d,h⟩:=h;obtain⟨v,a,b⟩:=Gf h;exact⟨v,a,by simp only[*];trivial⟩
 ·exact h.elim
theorem LY {P:Program}{op:BinOp}{t:Nat}{x y:Value}{K:Value->Prop}(h:mr P op t x y K):∃v,K v/\mr P op t x y (· = v):=by
 unfold mr at h ⊢;split at h
 ·split at h
  ·obtain⟨v,a,b⟩:=Bi h;exact⟨v,a,by simpa[*]using b⟩
  ·rename_i hne;cases op<;>simp only at h
   all_goals try exact h.elim
   ·obtain⟨v,a,b⟩:=Bi h;exact⟨v,a,by simpa[hne]using b⟩
   ·obtain⟨v,a,b⟩:=Bi h;exact⟨v,a,by simpa[hne]using b⟩
 ·split at h
  ·obtain⟨v,a,b⟩:=Gf h;exact⟨v,a,by simp only[*]⟩
  ·exact h.elim
 ·cases op<;>simp only at h ⊢ <;> first|exact h.elim|exact⟨_,h,rfl⟩
 ·exact h.elim
theorem Oo {P:Program}{op:BinOp}{t:Nat}{xs ys:List Value}{K:Value->Prop}(h:om P op t xs ys K):∃v,K v/\om P op t xs ys (· = v):=by
 unfold om at h ⊢;split at h
 case h_3=>exact h.elim
 all_goals
  rename_i hu;rw[WJ]at h;obtain⟨d,h⟩:=h;split at h
  case h_2=>exact h.elim
  rename_i b hb;obtain⟨v,a,e⟩:=Gf h;exact⟨v,a,by simp only[hu,WJ,hb];exact⟨d,e⟩⟩
theorem PR {P:Program}{op:BinOp}{t:Nat}{y:Operand}{vx vy:Value}{K:Value->Prop}(h:xu P op t y vx vy K):∃v,K v/\xu P op t y vx vy (· = v):=by
 unfold xu at h ⊢;cases hn:xh y
 ·rw[hn]at h;simp only[cond_false]at h ⊢;split at h
  ·exact Oo h
  ·exact LY h
 ·rw[hn]at h;exact L1 h
theorem uT {o:Option Value}{K:Value->Prop}(h:wv o K):∃v,K v/\wv o (· = v):=by
 obtain⟨v,rfl,a⟩:=Wq h;exact⟨v,a,rfl⟩
theorem WjC {P:Program}{t off:Nat}{cs:List Value}{K:Value->Prop}(h:vF P t cs off K):∃v,K v/\vF P t cs off (· = v):=by
 unfold vF at h ⊢;split at h
 case h_2=>exact h.elim
 rename_i d ti hu hi;cases hd:Ux d
 ·rw[hd]at h;obtain⟨v,a,b⟩:=uT h;exact⟨v,a,by simpa[hd]using b⟩
 ·rw[hd]at h;exact⟨_,h,by simp⟩
theorem PC {P:Program}{t:Nat}{ps:List (Nat×Value)}{K:Value->Prop}(h:nY P t ps K):∃v,K v/\nY P t ps (· = v):=by
 unfold nY at h ⊢;split at h
 ·split at h
  ·rename_i z hz;have key:∀{ps:List (Nat×Value)} {raw:Nat->Bool} {A:Prop},mq raw ps A->A/\∀B:Prop,B->mq raw ps B:=by
    intro ps raw
    induction ps with
    | nil=>intro A h;exact⟨h,λB b=>b⟩
    | cons x ps ih=>
     intro A h;simp only[mq]at h ⊢;cases hr:raw x.1
     ·rw[hr]at h;exact ih h
     ·rw[hr]at h;simp only[cond_true]at h ⊢;exact⟨(ih h.2).1,λB b=>⟨h.1,(ih h.2).2 B b⟩⟩
   obtain⟨h,a⟩:=key h;split at h
   ·rename_i cs hf;rw[WJ]at h;refine⟨_,h.2,?_⟩;simp only[*];refine a _ ?_;rw[WJ]
    first|exact⟨h.1,trivial⟩|exact⟨rfl,trivial⟩
   ·exact h.elim
  ·exact h.elim
 ·split at h
  ·split at h
   ·refine⟨_,h,?_⟩;simp only[*]
   ·exact h.elim
  ·exact h.elim
 ·exact h.elim
theorem Η {P:Program}{t:Nat}{x:Value}{lo hi mx:Option Value}{K:Value->Prop}(h:n4 P t x lo hi mx K):∃v,K v/\n4 P t x lo hi mx (· = v):=by
 unfold n4 at h ⊢;split at h
 case h_2=>exact h.elim
 rename_i e a n c hu;split at h
 case h_2=>exact h.elim
 rename_i ti hi';simp only at h ⊢;split at h
 case h_2=>exact h.elim
 rename_i l hh m hlo hhi hmx;obtain⟨d,b,j,g,i⟩:=h;refine⟨_,i,?_⟩;simp only[hu,hi',hlo,hhi,hmx];exact⟨d,b,j,g,rfl⟩
theorem Cx:∀{vs:List Value} {v:Value} {b:Bool} {K:Value->Prop},pf b v vs K->∃z,K z/\pf b v vs (· = z)
 | [],v,b,K,h=>⟨v,by simpa[pf]using h,by simp[pf]⟩
 | u::vs,v,b,K,h=>by
  cases v<;>cases u<;>simp only[pf]at h ⊢ <;> try exact h.elim
  exact Cx h
theorem M0 {P:Program}{o:Op}(hp:GK P o=true){ρ:Env}{h:Hp}{K:Value->Prop}(hk:qK P o ρ h K):∃v,K v/\∀h',qK P o ρ h' (· = v):=by
 unfold qK at hk;split at hk
 case h_1 x=>obtain⟨v,a,e⟩:=uT hk;exact⟨v,a,λ_=>e⟩
 case h_2 x=>obtain⟨v,a,e⟩:=uT hk;exact⟨v,a,λ_=>e⟩
 case h_3 c x y=>
  obtain⟨v,A,hk⟩:=Wq hk;split at hk
  ·obtain⟨u,a,e⟩:=uT hk;exact⟨u,a,λ_=>by simpa only[qK,A,wv]using e⟩
  ·obtain⟨u,a,e⟩:=uT hk;exact⟨u,a,λ_=>by simpa only[qK,A,wv]using e⟩
  ·exact hk.elim
 case h_4=>simp[GK]at hp
 case h_5 x=>
  obtain⟨v,A,hk⟩:=Wq hk;split at hk
  ·obtain⟨C,rfl,p⟩:=hk;exact⟨_,p,λ_=>by simp only[qK,A,wv];exact⟨C,rfl,rfl⟩⟩
  ·exact⟨_,hk,λ_=>by simp only[qK,A,wv]⟩
  ·exact hk.elim
 case h_6 op t x y yt=>
  obtain⟨j,g,hk⟩:=Wq hk;obtain⟨N,F,D⟩:=Wq hk;obtain⟨v,a,e⟩:=PR D;exact⟨v,a,λ_=>by simpa only[qK,g,F,wv]using e⟩
 case h_7 op t x=>
  obtain⟨j,g,hk⟩:=Wq hk;split at hk
  ·exact⟨_,hk,λ_=>by simp only[qK,g,wv]⟩
  ·exact⟨_,hk,λ_=>by simp only[qK,g,wv,Ar]⟩
  ·exact hk.elim
 case h_8 s d x=>
  obtain⟨j,g,hk⟩:=Wq hk;split at hk
  ·rename_i a e;exact⟨_,hk,λ_=>by simp only[qK,g,wv,a,e,Ar]⟩
  ·rename_i a e;exact⟨_,hk,λ_=>by simp only[qK,g,wv,a,e]⟩
  ·rename_i a e;simp[GK,a]at hp
  ·exact hk.elim
 case h_9 s x f=>
  obtain⟨j,g,hk⟩:=Wq hk;obtain⟨M,J,E,r,hk⟩:=yG hk;split at hk
  ·rw[WJ]at hk;exact⟨_,hk.2,λ_=>by simp only[qK,g,wv,nX,E,r,WJ];exact⟨hk.1,trivial⟩⟩
  ·exact hk.elim
 case h_10 s x f=>
  obtain⟨j,g,hk⟩:=Wq hk;obtain⟨M,J,E,r,hk⟩:=yG hk;split at hk
  ·obtain⟨v,a,e⟩:=WjC hk;exact⟨v,a,λ_=>by simpa only[qK,g,wv,nX,E,r]using e⟩
  ·exact hk.elim
 case h_11 t x i=>
  obtain⟨j,g,hk⟩:=Wq hk;obtain⟨H,B,hk⟩:=Wq hk;split at hk
  ·have w:=(by assumption:P.underlying t=some _);rw[WJ]at hk;obtain⟨a,C,rfl,e,z,p⟩:=hk;exact⟨_,p,λ_=>by simp only[qK,g,B,wv,w,WJ];exact⟨a,C,rfl,e,z,rfl⟩⟩
  ·have w:=(by assumption:P.underlying t=some _);rw[WJ]at hk;obtain⟨a,e,z,p⟩:=hk;exact⟨_,p,λ_=>by simp only[qK,g,B,wv,w,WJ];exact⟨a,e,z,rfl⟩⟩
  ·exact hk.elim
 case h_12 t x i=>
  obtain⟨j,g,hk⟩:=Wq hk;obtain⟨H,B,hk⟩:=Wq hk;split at hk
  ·have w:=(by assumption:P.underlying t=some _);obtain⟨b,a,e,p⟩:=hk;exact⟨_,p,λ_=>by simp only[qK,g,B,wv,w];exact⟨b,a,e,rfl⟩⟩
  ·exact hk.elim
 case h_13=>simp[GK]at hp
 case h_14 t i=>
  obtain⟨j,g,hk⟩:=Wq hk;split at hk
  ·obtain⟨v,a,e⟩:=uT hk;exact⟨v,a,λ_=>by simpa only[qK,g,wv]using e⟩
  ·exact hk.elim
 case h_15 fn x y=>
  split at hk
  ·rename_i va vb a e;exact⟨_,hk,λ_=>by simp only[qK,a,e]⟩
  ·exact hk.elim
 case h_16 t ps=>
  split at hk
  ·rename_i vs a;obtain⟨v,e,z⟩:=PC hk;exact⟨v,e,λ_=>by simpa only[qK,a]using z⟩
  ·exact hk.elim
 case h_17 t x lo B mx=>
  obtain⟨j,g,hk⟩:=Wq hk;split at hk
  ·rename_i l h m a e z;obtain⟨v,G,L⟩:=Η hk;exact⟨v,G,λ_=>by simpa only[qK,g,wv,a,e,z]using L⟩
  ·exact hk.elim
 case h_18 t x=>
  obtain⟨j,g,hk⟩:=Wq hk;rw[WJ]at hk;exact⟨_,hk.2,λ_=>by simp only[qK,g,wv,WJ];exact⟨hk.1,trivial⟩⟩
 case h_19=>simp[GK]at hp
 case h_20 c=>
  split at hk
  ·rename_i x t hc ha ht;unfold mF at hk;split at hk
   ·exact⟨_,hk,λ_=>by simp only[qK,hc,ha,ht,mF, *]⟩
   ·exact⟨_,hk,λ_=>by simp only[qK,hc,ha,ht,mF, *]⟩
   ·exact⟨_,hk,λ_=>by simp only[qK,hc,ha,ht,mF, *]⟩
   ·rename_i w;simp only[GK,hc,ht,w]at hp;cases hp
   ·exact hk.elim
  ·rename_i hc ha ht;split at hk
   ·exact⟨_,hk,λ_=>by simp only[qK,hc,ha,ht, *]⟩
   ·exact hk.elim
  ·rename_i hc ha;obtain⟨v,a,e⟩:=Cx hk;exact⟨v,a,λ_=>by simpa only[qK,hc,ha]using e⟩
  ·rename_i hc ha;obtain⟨v,a,e⟩:=Cx hk;exact⟨v,a,λ_=>by simpa only[qK,hc,ha]using e⟩
  ·exact hk.elim
 ·exact hk.elim
def gQ (S:aP)(c:CK)(a:Addr)(K:c.T->Prop):Prop:=∃x,(∀h,S h->cell h a=some (c.v x))/\K x
def uG (S:aP):List CK->Addr->Nat->(List Value->Prop)->Prop
 | [],_,_,K=>K []
 | c::cs,a,i,K=>gQ S c (a.add i) λx=>uG S cs a (i+1) λvs=>K (c.v x::vs)
def R3 (S:aP)(k:IntKind)(c:CK)(m:Option Nat)(n:Int)(K:Option c.T->Prop):Prop:=∃l,(∀h,S h->jV h m k c l)/\K (bV l n)
def δ (S:aP)(k:IntKind)(c:CK)(m:Option Nat)(K:Int->Prop):Prop:=∃l,(∀h,S h->jV h m k c l)/\K (l.length:Int)
def qS (P:Program)(S:aP)(o:Op)(ρ:Env)(K:Value->Prop):Prop:=
 match o with
 | .load t a=>wv (ev ρ a) λv=>match v,kg P t with
  | .pointer (some a),some (.one c)=>gR (P.info? t).isSome (gQ S c a λx=>K (c.v x))
  | .pointer (some a),some (.agg cs)=>gR (P.cellsOf t==cs.length) (gR (P.info? t).isSome (uG S cs a 0 λvs=>K (.agg vs.toArray)))
  | _,_=>False
 | .lookup t x i ok=>wv (ev ρ x) λvx=>wv (ev ρ i) λvi=>match P.underlying t,vx,vi with
  | some (.map kt et),.map m,.int k n=>match P.underlying kt,pG P et,P.info? et with
   | some (.int k'),some (.one c),some ti=>match ti.zero with
    | some z=>if k=k' then pH c z λz=>R3 S k c m n λo=>K (bif ok then .tuple #[c.v (o.getD z),.bool o.isSome]else c.v (o.getD z))else False
    | none=>False
   | _,_,_=>False
  | _,_,_=>False
 | .call c=>match c.callee,qZ ρ c.args.toList,c.argTypes.toList with
  | .builtin .len,some [.map m],[t]=>r8 P t λk c=>δ S k c m λz=>K (.int .i64 z)
  | _,_,_=>False
 | _=>False
theorem Fb {S:aP}:∀{cs:List CK} {a:Addr} {i:Nat} {K:List Value->Prop},uG S cs a i K->∃vs,K vs/\∀h,S h->nW cs a i h (· = vs)
 | [],a,i,K,hk=>⟨[],hk,λh _=>rfl⟩
 | c::cs,a,i,K,⟨x,hx,hk⟩=>by
  obtain⟨vs,hK,hall⟩:=Fb hk;refine⟨c.v x::vs,hK,λh b=>?_⟩;have m:nW cs a (i+1) h λus=>c.v x::us=c.v x::vs:=by
   have key:∀{cs:List CK} {i:Nat} {K K':List Value->Prop},(∀vs,K vs->K' vs)->nW cs a i h K->nW cs a i h K':=by
    intro cs
    induction cs with
    | nil=>intro i K K' hh hk;exact hh _ hk
    | cons c cs ih=>
     intro i K K' hh hk;simp only[nW]at hk ⊢;cases c<;>(obtain⟨y,d,hk⟩:=hk;exact⟨y,d,ih (λvs e=>hh _ e) hk⟩)
   exact key (λus j=>by rw[j]) (hall h b)
  simp only[nW];have g:=hx h b;cases c<;>exact⟨x,g,m⟩
theorem OM {P:Program}{t:Nat}{K:IntKind->CK->Prop}(h:r8 P t K):∃kt et k c,P.underlying t=some (.map kt et)/\P.underlying kt=some (.int k)/\pG P et=some (.one c)/\K k c:=by
 unfold r8 at h;split at h
 ·split at h
  ·exact⟨_,_,_,_,by assumption,by assumption,by assumption,h⟩
  ·exact h.elim
 ·exact h.elim
theorem NH {P:Program}{S:aP}{o:Op}{ρ:Env}{K:Value->Prop}(hk:qS P S o ρ K):∃v,K v/\∀h,S h->qK P o ρ h (· = v):=by
 unfold qS at hk;split at hk
 ·obtain⟨N,r,hk⟩:=Wq hk;split at hk
  ·rename_i ad c hs;rw[WJ]at hk;obtain⟨B,x,u,b⟩:=hk;refine⟨_,b,λh d=>?_⟩;simp only[qK,r,wv,hs,WJ];refine⟨B,?_⟩;have w:=u h d;cases c<;>exact⟨x,w,rfl⟩
  ·rename_i ad cs hs;rw[WJ,WJ]at hk;obtain⟨B,G,hk⟩:=hk;obtain⟨vs,b,g⟩:=Fb hk;refine⟨_,b,λh d=>?_⟩;simp only[qK,r,wv,hs,WJ];refine⟨B,G,?_⟩;have key:∀{cs:List CK} {i:Nat} {K K':List Value->Prop},(∀vs,K vs->K' vs)->nW cs ad i h K->nW cs ad i h K':=by
    intro cs
    induction cs with
    | nil=>intro i K K' hh hk;exact hh _ hk
    | cons c cs ih=>
     intro i K K' hh hk;simp only[nW]at hk ⊢;cases c<;>(obtain⟨y,D,hk⟩:=hk;exact⟨y,D,ih (λvs J=>hh _ J) hk⟩)
   exact key (λus p=>by rw[p]) (g h d)
  ·exact hk.elim
 ·obtain⟨Q,u,j⟩:=Wq hk;obtain⟨M,F,a⟩:=Wq j;clear hk j;split at a
  case h_2=>exact a.elim
  rename_i L E m k n p;split at a
  case h_2=>exact a.elim
  rename_i k' c ti hkk hs hti;split at a
  case h_2=>exact a.elim
  rename_i z hz;split at a
  case isFalse=>exact a.elim
  rename_i e;subst e;obtain⟨R,rfl,l,s,b⟩:=Ur a;refine⟨_,b,λh d=>?_⟩;simp only[qK,u,F,wv,yU,p,hkk,hs,hti,hz,zT];have H:=s h d;rw[OK];exact⟨l,H,rfl⟩
 ·split at hk
  ·rename_i m t w r ht;obtain⟨L,E,k,c,p,A,C,l,s,b⟩:=OM hk;refine⟨_,b,λh d=>?_⟩;simp only[qK,w,r,ht,mF,p,A,C];exact⟨l,s h d,rfl⟩
  ·exact hk.elim
 ·exact hk.elim
structure iT (ops:Array Oper) (listed:Array Bool) (D:List Nat):Prop where
 size:listed.size=ops.size
 at_:∀j,j<ops.size->listed[j]?=some (D.contains j)
 lt:∀j∈D,j<ops.size
theorem iT.getD {ops:Array Oper}{listed:Array Bool}{D:List Nat}(h:iT ops listed D){j:Nat}(hj:j<ops.size)(b:Bool):listed.getD j b=D.contains j:=by
 rw[si,h.at_ j hj];rfl
theorem iT.nD {ops:Array Oper}{listed:Array Bool}{D:List Nat}(h:iT ops listed D)(j:Nat):listed.getD j false=D.contains j:=by
 rcases ma j ops.size with hj|hj
 ·exact h.getD hj false
 ·rw[si,Array.getElem?_eq_none (by rw[h.size];exact hj)]
  symm
  simp only[Option.getD_none,rQ,decide_eq_false_iff_not];exact λa=>by have:=h.lt j a;omega
theorem iT.start (ops:Array Oper):iT ops (Array.replicate ops.size false) []:=
 ⟨by simp,λj a=>by simp[a],λj a=>by simp at a⟩
theorem iT.cons {ops:Array Oper}{listed:Array Bool}{D:List Nat}(h:iT ops listed D){i:Nat}(hi:i<ops.size):iT ops (listed.setIfInBounds i true) (i::D):=by
 refine⟨by simp[h.size],λj a=>?_,λj a=>?_⟩
 ·by_cases hij:i=j
  ·subst hij;simp[h.size,a]
  ·rw[An hij,h.at_ j a];have:(j==i)=false:=by simpa using λe=>hij e.symm
   simp only[List.contains_cons,this,yN]
 ·rcases zQ.1 a with rfl|h'
  ·exact hi
  ·exact h.lt j h'
def nc (ops:Array Oper)(D:List Nat)(i:Nat):Bool:=match ops[i]? with
 | none=>false
 | some o=>!D.contains i&&o.after.toList.all λe=>!Region.binds .any e||D.contains e.on
def Cq (ops:Array Oper)(D:List Nat)(i:Nat):Bool:=match ops[i]? with
 | none=>false
 | some oi=>(List.range ops.size).all λj=>Nat.beq j i||(D.contains j||match ops[j]? with
  | some oj=>oj.after.toList.any (λe=>Region.binds .any e&&Nat.beq e.on i)||oi.apart ops oj
  | none=>true)
theorem A5 {ops:Array Oper}{D:List Nat}{i:Nat}(h:nc ops D i=true):i<ops.size:=by
 unfold nc at h;split at h
 ·cases h
 ·rename_i o ho;exact(mA.1 ho).1
theorem yF {ops:Array Oper}{listed:Array Bool}{D:List Nat}(h:iT ops listed D)(i:Nat):i∈Region.ready .any ops listed↔nc ops D i=true:=by
 rw[mem_ready];unfold nc;cases ho:ops[i]? with
 | none=>simp
 | some o=>
  have d:i<ops.size:=(mA.1 ho).1;simp only[h.getD d,Option.some.injEq,exists_eq_left',zF,nj,kM,nV];constructor
  ·rintro⟨h1,h2⟩;refine⟨h1,λe b=>?_⟩;cases a:Region.binds .any e
   ·exact .inl rfl
   ·right;have:=h2 e (by simpa using b) a
    rwa [h.nD]at this
  ·rintro⟨h1,h2⟩;refine⟨h1,λe b a=>?_⟩;have:=h2 e (by simpa using b);rw[a]at this;rw[h.nD];simpa using this
theorem Gi {ops:Array Oper}{listed:Array Bool}{D:List Nat}(h:iT ops listed D){i:Nat}(hf:Cq ops D i=true):Region.free .any ops listed i=true:=by
 unfold Cq at hf;unfold Region.free;cases ho:ops[i]? with
 | none=>rw[ho]at hf;cases hf
 | some oi=>
  rw[ho]at hf;simp only[kM,zU]at hf ⊢;intro j hj;have:=hf j hj;rw[h.getD hj];simp only[nV]at this ⊢;rcases this with h1|h1|h1
  ·exact .inl (.inl (by simpa using lD h1))
  ·exact .inl (.inr h1)
  ·right;split at h1
   ·rename_i oj hoj;simp only[hoj,nV]at h1 ⊢;rcases h1 with h1|h1
    ·left;rw[ka]at h1;obtain⟨e,b,a⟩:=h1;simp only[zF]at a;rw[Array.any_eq_true'];exact⟨e,by simpa using b,by simp[a.1,lD a.2]⟩
    ·exact .inr h1
   ·rename_i hoj;simp[hoj]
inductive SH where
 | done
 | take (i:Nat) (r:SH)
 | split (c:Nat) (t f:SH)
 | all (l:List (Nat×SH))
def SH.tk:List Nat->SH->SH
 |[],s=>s
 |i::l,s=>.take i (SH.tk l s)
def Sx (sm:Bool)(S:aP)(h:Hp)(X:Prop):Prop:=match sm with
 | true=>S h/\X
 | false=>X
def shut (C D:List Nat):Bool:=C.any λk=>D.contains k
def tE (f:Nat->SH->Prop):List (Nat×SH)->Prop
 | []=>True
 | [x]=>f x.1 x.2
 | x::y::l=>f x.1 x.2/\tE f (y::l)
def UA (P:Program)(N:Nat)(ops:Array Oper)(sm:Bool)(C:List Nat)(S:aP)(K:Env->Hp->Prop):Nat->Nat->SH->List Nat->Env->Hp->Prop
 | 0,_,_,_,_,_=>False
 | n+1,_,.done,D,ρ,h=>gR ((List.range ops.size).all λj=>D.contains j) (K ρ h)
 | n+1,m+1,.take i r,D,ρ,h=>match ops[i]? with
  | some o=>gR (nc ops D i&&(Cq ops D i&&(tg N o.dst && !C.contains i)))
   (bif tf ops o ρ then UA P N ops sm C S K n m r (i::D) (ρ.iS o.dst undef) h
    else gR (px ops o ρ) (bif GK P o.op then qK P o.op ρ h λv=>UA P N ops sm C S K n m r (i::D) (ρ.iS o.dst v) h
     else gR (sm&&((C.all λk=>wg ops k i) && !shut C D)) (qS P S o.op ρ λv=>UA P N ops sm C S K n m r (i::D) (ρ.iS o.dst v) h)))
  | none=>False
 | n+1,m,.split c t f,D,ρ,h=>HM ρ (.tmp c) λb=>If b (UA P N ops sm C S K n m t D (ρ.put c (.bool true)) h) (UA P N ops sm C S K n m f D (ρ.put c (.bool false)) h)
 | n+1,m+1,.all l,D,ρ,h=>gR ((!l.isEmpty&&l.all λx=>Nat.blt x.1 ops.size)&&((List.range ops.size).all λj=>nc ops D j==l.any λx=>Nat.beq x.1 j))
  (tE (λi r=>match ops[i]? with
   | some o=>gR (tg N o.dst) (bif tf ops o ρ then Sx (sm && !shut C (i::D)) S h (UA P N ops sm C S K n m r (i::D) (ρ.iS o.dst undef) h)
    else gR (px ops o ρ) (vV P o.op o.type ρ h λv h'=>Sx (sm && !shut C (i::D)) S h' (UA P N ops sm C S K n m r (i::D) (ρ.iS o.dst v) h')))
   | none=>False) l)
 | _,_,_,_,_,_=>False
def dT (h:Hp)(body:(Hp->Prop)->Prop):Prop:=∃S:Hp->Prop,S h/\body S
theorem E0 {f:Nat->SH->Prop}:∀{l:List (Nat×SH)},tE f l->∀x∈l,f x.1 x.2
 | [],_,x,hx=>by simp at hx
 | [y],h,x,hx=>by simp at hx;subst hx;exact h
 | y::z::l,h,x,hx=>by
  rcases zQ.1 hx with rfl|hx
  ·exact h.1
  ·exact E0 h.2 x hx
theorem xJ {ds:List Nat}{ρ ρ':Env}{ops:Array Oper}{i:Nat}{o:Oper}(ho:ops[i]?=some o){v:Value}
 (k:∀j,(ops.toList.filterMap (·.dst)).contains j=false->∀u,(ρ.iS o.dst v) j=some u->ρ' j=some u):∀j,(ops.toList.filterMap (·.dst)).contains j=false->∀u,ρ j=some u->ρ' j=some u:=by
 intro j hj u hu;refine k j hj u ?_;cases hd:o.dst with
 | none=>exact hu
 | some d=>
  simp only[Env.iS,Env.put];cases hb:Nat.beq j d
  ·exact hu
  ·have e:j=d:=lD hb;subst e;exfalso;simp only[rQ,decide_eq_false_iff_not,vw,not_exists,not_and]at hj;refine hj o ?_ hd;have:=Bd ho;simpa using this
def TD (S:aP)(C D:List Nat)(h:Hp):Prop:=S h\/shut C D=true
theorem TD.ts {S:aP}{C D:List Nat}{ops:Array Oper}{listed:Array Bool}{w:World}(hD:iT ops listed D)(h:TD S C D w.heap):TS (λw=>S w.heap) C listed w:=by
 refine h.imp id λa=>?_;unfold shut at a;rw[ka]at a;obtain⟨k,d,b⟩:=a;exact⟨k,d,by rw[hD.nD];exact b⟩
theorem S5 {C D:List Nat}{ops:Array Oper}{listed:Array Bool}(hD:iT ops listed D)(h:shut C D=false):∀k∈C,listed.getD k false=false:=by
 intro k hk;unfold shut at h;rw[m7]at h;rw[hD.nD];simpa using h k hk
theorem ν {C D:List Nat}{i:Nat}(h:shut C D=true):shut C (i::D)=true:=by
 unfold shut at *;rw[ka]at *;obtain⟨k,b,a⟩:=h;refine⟨k,b,?_⟩;rw[tu]at *;exact kL _ a
theorem JX {sm:Bool}{S:aP}{C D:List Nat}{h:Hp}{X:Prop}(hs:sm=false->∀h,S h)(hx:Sx (sm && !shut C D) S h X):TD S C D h/\X:=by
 cases hc:shut C D
 ·rw[hc]at hx;simp only[zv,sN]at hx;cases sm
  ·exact⟨.inl (hs rfl h),hx⟩
  ·exact⟨.inl hx.1,hx.2⟩
 ·rw[hc]at hx;simp only[Bool.not_true,sH]at hx;exact⟨.inr hc,hx⟩
theorem Qv {P:Program}{N:Nat}{ops:Array Oper}{sm:Bool}{C:List Nat}{S:aP}{K:Env->Hp->Prop}{Qn:Act->World->Prop}(hsel:Region.noSelect ops=true)(hsm:sm=false->∀h,S h):∀(n m:Nat) {sh:SH} {D:List Nat} {ρ:Env} {a:Act} {w:World} {listed:Array Bool},
 UA P N ops sm C S K n m sh D ρ w.heap->Fits N ρ a->iT ops listed D->TD S C D w.heap->(∀ρ' a' w',Fits N ρ' a'->ZP w w'->UQ ops.toList ρ ρ'->K ρ' w'.heap->Qn a' w') →
 anyS P ops (λe a w=>match e with | .normal=>Qn a w|_=>False) (λw=>S w.heap) C m listed a w
 | 0,m,sh,D,ρ,a,w,listed,h,hf,hD,hS,hK=>(by simp only[UA]at h)
 | n+1,m,.done,D,ρ,a,w,listed,h,hf,hD,hS,hK=>by
  have h':gR ((List.range ops.size).all λj=>D.contains j) (K ρ w.heap):=by cases m<;>exact h
  rw[WJ]at h';refine Oj ?_ (hK ρ a w hf (.refl _) (λ_ _ _ h=>h) h'.2) m;rw[List.eq_nil_iff_forall_not_mem];intro j hj;have B:=(yF hD j).1 hj;have:=kM.1 h'.1 j (zU.2 (A5 B));unfold nc at B;split at B
  ·cases B
  ·rw[this]at B;simp at B
 | n+1,0,.take i r,D,ρ,a,w,listed,h,hf,hD,hS,hK=>(by simp only[UA]at h)
 | n+1,m+1,.take i r,D,ρ,a,w,listed,h,hf,hD,hS,hK=>by
  simp only[UA]at h;split at h
  case h_2=>exact h.elim
  rename_i o ho;rw[WJ]at h;obtain⟨Y,h⟩:=h;simp only[zF,nj]at Y;obtain⟨Z,L,s,W⟩:=Y;have H:=A5 Z;have z:i∈Region.ready .any ops listed:=(yF hD i).2 Z;have p:TD S C (i::D) w.heap:=hS.imp id ν;cases hg:tf ops o ρ
  ·rw[hg]at h;simp only[cond_false]at h;rw[WJ]at h;obtain⟨R,h⟩:=h;have hw:=Z9 hf R;cases hp:GK P o.op
   ·rw[hp]at h;simp only[cond_false]at h;rw[WJ]at h;obtain⟨M,h⟩:=h;simp only[zF,nj,kM]at M;obtain⟨v,J,F⟩:=NH h;refine A3 (T:=λw=>S w.heap) ho hsel (Gi hD L) z (λ_ _ _ h=>h) W (.inr ⟨λ_ h=>h,M.2.1⟩) (.inr (S5 hD M.2.2)) (v:=v) (.inl ⟨hw,λw' p=>?_⟩) (hS.ts hD) ?_
    ·obtain⟨u,B,rfl⟩:=G5 hf.ev o (F w'.heap p);exact B
    ·exact Qv hsel hsm n m J (hf.put s v) (hD.cons H) p λρ' a' w' g G E d=>hK ρ' a' w' g G (xJ (ds:=[]) ho E) d
   ·rw[hp]at h;simp only[cond_true]at h;obtain⟨v,J,F⟩:=M0 hp h;refine A3 (T:=λ_=>True) ho hsel (Gi hD L) z (λ_ _ _ h=>h) W (.inl λ_=>trivial) (.inl λ_=>trivial) (v:=v) (.inl ⟨hw,λw' _=>?_⟩) (hS.ts hD) ?_
    ·obtain⟨u,B,rfl⟩:=G5 hf.ev o (F w'.heap);exact B
    ·exact Qv hsel hsm n m J (hf.put s v) (hD.cons H) p λρ' a' w' g G E d=>hK ρ' a' w' g G (xJ (ds:=[]) ho E) d
  ·rw[hg]at h;simp only[cond_true]at h;refine A3 (T:=λ_=>True) ho hsel (Gi hD L) z (λ_ _ _ h=>h) W (.inl λ_=>trivial) (.inl λ_=>trivial) (v:=undef) (.inr ⟨VE hf hg,rfl⟩) (hS.ts hD) ?_;exact Qv hsel hsm n m h (hf.put s undef) (hD.cons H) p λρ' a' w' g G E d=>hK ρ' a' w' g G (xJ (ds:=[]) ho E) d
 | n+1,m,.split c t f,D,ρ,a,w,listed,h,hf,hD,hS,hK=>by
  have h':HM ρ (.tmp c) λb=>If b (UA P N ops sm C S K n m t D (ρ.put c (.bool true)) w.heap) (UA P N ops sm C S K n m f D (ρ.put c (.bool false)) w.heap):=by cases m<;>exact h
  obtain⟨b,hb,aa⟩:=UI h';have A:=λe=>aa.t e;have h2:=λe=>aa.f e;have U:ρ c=some (.bool b):=hb;have kk:∀(b':Bool),b=b'->∀ρ',UQ ops.toList (ρ.put c (.bool b')) ρ'->UQ ops.toList ρ ρ':=by
   intro b' e ρ' k i H u hu;refine k i H u ?_;simp only[Env.put];cases hic:Nat.beq i c
   ·exact hu
   ·have e2:i=c:=lD hic;subst e2;rw[U]at hu;simp only[cond_true];rw[←e];exact hu
  cases b
  ·exact Qv hsel hsm n m (h2 rfl) (hf.lit U rfl) hD hS λρ' a' w' g G E d=>hK ρ' a' w' g G (kk false rfl ρ' E) d
  ·exact Qv hsel hsm n m (A rfl) (hf.lit U rfl) hD hS λρ' a' w' g G E d=>hK ρ' a' w' g G (kk true rfl ρ' E) d
 | n+1,0,.all l,D,ρ,a,w,listed,h,hf,hD,hS,hK=>(by simp only[UA]at h)
 | n+1,m+1,.all l,D,ρ,a,w,listed,h,hf,hD,hS,hK=>by
  simp only[UA]at h;rw[WJ]at h;obtain⟨Y,h⟩:=h;simp only[zF,nj,kM,zU,zX]at Y;obtain⟨⟨hne,hlt⟩,ab⟩:=Y;have hmem:∀j,j∈Region.ready .any ops listed->∃r,(j,r)∈l:=by
   intro j hj;have B:=(yF hD j).1 hj;have:=ab j (A5 B);rw[B]at this;have:=ka.1 this.symm;obtain⟨x,hx,hb⟩:=this;have e:x.1=j:=lD hb;exact⟨x.2,by rw[←e];exact hx⟩
  refine Wkv (rs:=Region.ready .any ops listed) rfl ?_ λj hj=>?_
  ·intro hnil
   match l,hne with
   | x::l',_=>
    have hx:=Nat.blt_eq.mp (hlt x aA);have:=ab x.1 hx;have X:(x::l').any (λy=>Nat.beq y.1 x.1)=true:=ka.2 ⟨x,by simp,by simp⟩;rw[X]at this;have:=(yF hD x.1).2 this;rw[hnil]at this;simp at this
  ·obtain⟨r,B⟩:=hmem j hj;have A:=E0 h (j,r) B;simp only at A;split at A
   case h_2=>exact A.elim
   rename_i o ho;have H:j<ops.size:=(mA.1 ho).1;rw[WJ]at A;obtain⟨s,A⟩:=A;unfold wpOp;simp only[ho];cases hg:tf ops o ρ
   ·rw[hg]at A;simp only[cond_false]at A;rw[WJ]at A;obtain⟨R,A⟩:=A;rw[zB (Z9 hf R)];refine .inl (Vp.upon (F5 hf.ev o A) λv w' G J=>?_);obtain⟨p,J⟩:=JX hsm J;exact⟨p.ts (hD.cons H),Qv hsel hsm n m J (hf.put s v) (hD.cons H) p λρ' a' V g Q E d=>hK ρ' a' V g (G.trans Q) (xJ (ds:=[]) ho E) d⟩
   ·rw[hg]at A;simp only[cond_true]at A;rw[VE hf hg];simp only[zb,zw];obtain⟨p,J⟩:=JX hsm A;exact⟨p.ts (hD.cons H),Qv hsel hsm n m J (hf.put s undef) (hD.cons H) p λρ' a' V g Q E d=>hK ρ' a' V g Q (xJ (ds:=[]) ho E) d⟩
def DB (P:Program)(N:Nat)(sm:Bool)(C:List Nat)(sh:SH)(ops:Array Oper)(ρ:Env)(h:Hp)(K:Env->Hp->Prop):Prop:=
 match sm with
 | true=>dT h λS=>UA P N ops true C S K 400 ops.size sh [] ρ h
 | false=>UA P N ops false C (λ_=>True) K 400 ops.size sh [] ρ h
theorem Uj {P:Program}{N id:Nat}{ops:Array Oper}{sm:Bool}{C:List Nat}{sh:SH}{K:Env->Hp->Prop}{ρ:Env}{a:Act}{w:World}{Q:Exit->Act->World->Prop}
 (hm:P.follows .mixedOrders=true) (hsel:Region.noSelect ops=true) (h:DB P N sm C sh ops ρ w.heap K)
 (hf:Fits N ρ a) (hK:∀ρ' a' w',Fits N ρ' a'->ZP w w'->UQ ops.toList ρ ρ'->K ρ' w'.heap->Q .normal a' w'):(Code.region id ops true).wp P Q a w:=by
 refine wp_mono (Q:=λe a w=>match e with | .normal=>Q .normal a w|_=>False) ?_ (λe a w j=>by cases e<;>first|exact j|exact j.elim)
 have hd:ZP w {w with drawn:=w.drawn+1}:=⟨rfl,rfl,rfl,zD _⟩;cases sm
 ·exact UT (S:=λw=>True) hm (Qv (S:=λ_=>True) (w:={w with drawn:=w.drawn+1}) (Qn:=Q .normal) hsel (λ_ _=>trivial) 400 ops.size h hf (iT.start ops) (.inl trivial) λρ' a' w' b d g i=>hK ρ' a' w' b (hd.trans d) g i)
 ·obtain⟨S,m,h⟩:=h;exact UT hm (Qv (S:=S) (w:={w with drawn:=w.drawn+1}) (Qn:=Q .normal) hsel (λe=>by cases e) 400 ops.size h hf (iT.start ops) (.inl m) λρ' a' w' b d g i=>hK ρ' a' w' b (hd.trans d) g i)
abbrev Js:=List (Nat×SK)
def oT (js:Js):List CK:=iI (js.map (·.2))
def sR (ρ:Env):Js->Option (List Value)
 | []=>some []
 | (i,.one _)::js=>match ρ i,sR ρ js with|some v,some vs=>some (v::vs)|_,_=>none
 | (i,.agg cs)::js=>match ρ i,sR ρ js with
  | some (.agg a),some vs=>bif a.size==cs.length then some (a.toList++vs)else none
  | _,_=>none
def vK (js:Js)(ρ:Env)(J:eV (oT js))(h:Hp):Prop:=match sR ρ js with
 | some vs=>wT (oT js) J vs h
 | none=>False
def iZ:Env->Js->List Value->Env
 | ρ,[],_=>ρ
 | ρ,(i,.one _)::js,v::vs=>iZ (ρ.put i v) js vs
 | ρ,(i,.one _)::js,[]=>iZ ρ js []
 | ρ,(i,.agg cs)::js,vs=>iZ (ρ.put i (.agg (vs.take cs.length).toArray)) js (vs.drop cs.length)
def Jn (ks:List CK)(K:eV ks)(body:eV ks->Prop):Prop:=∃J:eV ks,eV.le ks J K/\body J
theorem eV.le_refl:∀(ks:List CK) (R:eV ks),eV.le ks R R
 | [],_=>λ_ h=>h
 | _::cs,_=>λ_=>eV.le_refl cs _
theorem Jn.intro {ks:List CK}{K:eV ks}{body:eV ks->Prop}(h:body K):Jn ks K body:=⟨K,eV.le_refl ks K,h⟩
def nU (ds:List Nat)(i:Nat):Bool:=ds.contains i
def Vv (ds:List Nat)(ρ ρ':Env):Prop:=∀i,ds.contains i=false->∀v,ρ i=some v->ρ' i=some v
theorem Vv.trans {d1 d2:List Nat}{a b c:Env}(h:Vv d1 a b)(k:Vv d2 b c):Vv (d1++d2) a c:=by
 intro i hi v hv;simp only[rQ,zR,decide_eq_false_iff_not,not_or]at hi;exact k i (by simpa using hi.2) v (h i (by simpa using hi.1) v hv)
theorem Vv.mono {d1 d2:List Nat}{a b:Env}(h:Vv d1 a b)(hs:∀i,i∈d1->i∈d2):Vv d2 a b:=by
 intro i hi v hv;refine h i ?_ v hv;simp only[rQ,decide_eq_false_iff_not]at hi ⊢;exact λd=>hi (hs i d)
theorem Vv.refl (ds:List Nat)(a:Env):Vv ds a a:=λ_ _ _ h=>h
theorem KY (ds:List Nat):∀(js:Js) (ρ:Env) (vs:List Value),(js.all λs=>nU ds s.1)=true->Vv ds ρ (iZ ρ js vs)
 | [],ρ,vs,_=>by simp only[iZ];exact .refl _ _
 | (i,.one c)::js,ρ,[],h=>by
  simp only[vt,zF]at h;simp only[iZ];exact KY ds js ρ [] h.2
 | (i,.one c)::js,ρ,v::vs,h=>by
  simp only[vt,zF]at h;simp only[iZ];intro j hj u hu;refine KY ds js _ vs h.2 j hj u ?_;simp only[Env.put];cases hb:Nat.beq j i
  ·exact hu
  ·have e:j=i:=lD hb;subst e;simp only[nU]at h;rw[hj]at h;cases h.1
 | (i,.agg cs)::js,ρ,vs,h=>by
  simp only[vt,zF]at h;simp only[iZ];intro j hj u hu;refine KY ds js _ _ h.2 j hj u ?_;simp only[Env.put];cases hb:Nat.beq j i
  ·exact hu
  ·have e:j=i:=lD hb;subst e;simp only[nU]at h;rw[hj]at h;cases h.1
theorem VN {N:Nat}:∀(js:Js) {ρ ρ':Env} {a:Act} {vs:List Value},Fits N ρ a->Fits N ρ' a->sR ρ' js=some vs->Fits N (iZ ρ js vs) a
 | [],ρ,ρ',a,vs,h,_,_=>h
 | (i,.one c)::js,ρ,ρ',a,vs,h,h',hv=>by
  simp only[sR]at hv;split at hv
  ·rename_i v vs' h1 h2;cases hv;simp only[iZ];refine VN js ⟨h.defers,h.size,λj u hu=>?_⟩ h' h2;simp only[Env.put]at hu;cases hb:Nat.beq j i
   ·rw[hb]at hu;exact h.at_ j u hu
   ·have e:j=i:=lD hb;subst e;rw[hb]at hu;simp only[cond_true,Option.some.injEq]at hu;subst hu;exact h'.at_ j _ h1
  ·cases hv
 | (i,.agg cs)::js,ρ,ρ',a,vs,h,h',hv=>by
  simp only[sR]at hv;split at hv
  ·rename_i ar vs' h1 h2;cases hs:(ar.size==cs.length)
   ·rw[hs]at hv;cases hv
   ·rw[hs]at hv;simp only[cond_true,Option.some.injEq]at hv;subst hv;have b:ar.toList.length=cs.length:=by simpa using hs
    simp only[iZ];rw[←b,List.take_left,List.drop_left];refine VN js ⟨h.defers,h.size,λj u hu=>?_⟩ h' h2;simp only[Env.put]at hu;cases hb:Nat.beq j i
    ·rw[hb]at hu;exact h.at_ j u hu
    ·have e:j=i:=lD hb;subst e;rw[hb]at hu;simp only[cond_true,Option.some.injEq]at hu;subst hu;simpa using h'.at_ j _ h1
  ·cases hv
theorem yq {js:Js}{ρ:Env}{J:eV (oT js)}{h:Hp}(hj:vK js ρ J h):∃vs,sR ρ js=some vs/\Sat (oT js) J vs h:=by
 unfold vK at hj;split at hj
 ·exact⟨_,by assumption,xV hj⟩
 ·exact hj.elim
theorem Gn {N:Nat}{ds:List Nat}{ρ ρ':Env}{a:Act}(h:Fits N ρ' a)(k:Vv ds ρ ρ'):Fits N (ρ.fA ds) a:=by
 refine h.weaken λi v b=>?_;simp only[Env.fA]at b;cases hc:ds.contains i
 ·rw[hc]at b;exact k i hc v b
 ·rw[hc]at b;cases b
theorem Gk (ds:List Nat)(ρ:Env):Vv ds ρ (ρ.fA ds):=by
 intro i hi v hv;simp only[Env.fA,hi];exact hv
def Aq:Op->Bool
 | .pick .. => true
 | _=>false
def kZ (os:List Oper):Bool:=os.all λo=>s8 o.op||Aq o.op
theorem VV {P:Program}{N:Nat}{ops:Array Oper}{Q:Act->Prop}{w:World}:∀(n:Nat) {hs:List RI} {os:List Oper} {tail:List Oper} {ρ:Env} {a:Act} {K:Env->Hp->Prop},
 fS P N ops n hs os ρ w.heap K->kZ os=true->Fits N ρ a->(∀ρ' a',Fits N ρ' a'->UQ os ρ ρ'->K ρ' w.heap->wpStill P ops w Q tail a')->wpStill P ops w Q (os++tail) a
 | 0,_,_,_,_,_,_,h,_,_,_=>(by simp only[fS]at h)
 | n+1,[],[],tail,ρ,a,K,h,hq,hf,hK=>by
  simp only[fS]at h;exact hK ρ a hf (λ_ _ _ h=>h) h
 | n+1,[],o::os,tail,ρ,a,K,h,hq,hf,hK=>(by simp only[fS]at h)
 | n+1,.op::hs,[],tail,ρ,a,K,h,hq,hf,hK=>(by simp only[fS]at h)
 | n+1,.it ki c::hs,[],tail,ρ,a,K,h,hq,hf,hK=>(by simp only[fS]at h)
 | n+1,.it ki c::hs,o::os,tail,ρ,a,K,h,hq,hf,hK=>by
  simp only[fS]at h;rw[WJ]at h;simp only[kZ,vt,zF,nV]at hq;have h2:=h.2;unfold xR at h2;split at h2
  ·rename_i heq;rw[heq]at hq;simp[s8,Aq]at hq
  ·rename_i heq;rw[heq]at hq;simp[s8,Aq]at hq
  ·exact h2.elim
 | n+1,.op::hs,o::os,tail,ρ,a,K,h,hq,hf,hK=>by
  simp only[fS]at h;rw[WJ]at h;obtain⟨C,h⟩:=h;simp only[zF]at C;have M:=Z9 hf C.1;simp only[kZ,vt,zF,nV]at hq;have ac:s8 o.op=true:=by
   rcases hq.1 with h1|h1
   ·exact h1
   ·unfold Aq at h1;split at h1
    ·rename_i heq;rw[heq];rfl
    ·cases h1
  unfold vV at h;rw[ac]at h;obtain⟨v,Z,B⟩:=G5 hf.ev o h;simp only[lL,wpStill,M,zT,Oper.still,Z,Oper.stillUpon];exact⟨trivial,VV n B (by simpa[kZ]using hq.2) (hf.put C.2 v) λρ' a' g E A=>hK ρ' a' g E.cons A⟩
 | n+1,.dD and m inner::hs,os,tail,ρ,a,K,h,hq,hf,hK=>by
  simp only[fS]at h;split at h
  case h_2=>exact h.elim
  rename_i pk rest hdrop;split at h
  case h_2=>exact h.elim
  rename_i c x y d hop hd;split at h
  case h_2=>exact h.elim
  rename_i b hb;rw[WJ]at h;obtain⟨C,J,hJ,h⟩:=h;simp only[zF]at C;obtain⟨S,L,ad,U,u⟩:=C;have R:os++tail=os.take m++(pk::rest++tail):=by
   rw[←hdrop,←kJ,nu]
  have aa:kZ (os.take m)=true:=by
   rw[kZ,kM]at hq ⊢;exact λo X=>hq o (mc X)
  have V:kZ rest=true:=by
   rw[kZ,kM]at hq ⊢;exact λo X=>hq o (qQ (i:=m) (by rw[hdrop];exact kL _ X))
  rw[R];have j:∀(r b':Bool) (z:Operand) a',b=b'->(bif b' then x else y)=z->Fits N (ρ.fA ((os.take m).filterMap (·.dst))) a'->J r w.heap->Region.wanted pk (yielded ops a'.tmps)=true →
   a'.eval (.tmp c)=.bool b'->a'.eval z=.bool r->wpStill P ops w Q (pk::rest++tail) a':=by
   intro r b' z a' e ez g G M s hez;have H:(execOp a'.eval pk).run P w=.ok (.value (.bool r)) w:=by
    obtain⟨dst,op,ty,pos,aft,Y⟩:=pk;simp only at hop;subst hop;subst ez;cases b'<;>simp at hez<;>simp[execOp,s,asBool,hez]
   simp only[lL,wpStill,M,zT,Oper.still,H,Oper.stillUpon];have W:=g.put (d:=some d) S (.bool r);rw[hd];exact⟨trivial,VV n (hJ _ _ G) V W λρ' ab F E A=>hK ρ' ab F (UQ.dD hd hdrop E) A⟩
  have run:∀(b':Bool) (z:Operand),b=b'->(bif b' then x else y)=z →
   fS P N ops n inner (os.take m) (ρ.put c (.bool b')) w.heap (λρ' h'=>gR (px ops pk ρ'&&sK ρ' c b') (HM ρ' z λr=>J r h'))->wpStill P ops w Q (os.take m++(pk::rest++tail)) a:=by
   intro b' z e ez hseg;refine VV n hseg aa (hf.lit hb e) λρ' a' g E B=>?_;rw[WJ]at B;simp only[zF]at B;obtain⟨⟨hg,ae⟩,B⟩:=B;obtain⟨r,Z,G⟩:=UI B;exact j r b' z a' e ez (g.yT hb e E) G (Z9 g hg) (g.ev _ _ (G0 ae)) (g.ev _ _ Z)
  have p:∀(b':Bool),b=b'->b' = !and->J (!and) w.heap->wpStill P ops w Q (os.take m++(pk::rest++tail)) a:=by
   intro b' e eb G;subst eb;refine Fj u (hf.lit hb e) λa' g=>?_;have D:Fits N (ρ.fA ((os.take m).filterMap (·.dst))) a':=g.yT (ρ':=(ρ.put c (.bool (!and))).fA ((os.take m).filterMap (·.dst))) hb e (λi hi v hv=>by simp only[Env.fA,hi];exact hv);have s:=g.ev (.tmp c) _ (G0 U);refine j (!and) (!and) (bif (!and)then x else y) a' e rfl D G (Z9 D ad) s ?_;refine IF ?_ _ (λv=>rfl);cases and<;>exact L
  cases and
  ·simp only[cond_false]at h;cases b
   ·exact run false y rfl rfl (h.f rfl)
   ·exact p true rfl rfl (h.t rfl)
  ·simp only[cond_true]at h;cases b
   ·exact p false rfl rfl (h.f rfl)
   ·exact run true x rfl rfl (h.t rfl)
inductive RH where
 | seq (hs:List RI)
 | quiet (hs:List RI)
 | tail (n:Nat) (hs1 hs2:List RI)
 | held (sm:Bool) (C:List Nat) (sh:SH)
 | iw (sm:Bool) (C:List Nat) (js:Js) (sh:SH)
def vD (ops:Array Oper):List Nat:=ops.toList.filterMap (·.dst)
def uF (P:Program)(N:Nat)(r:RH)(ops:Array Oper)(draw:Bool)(ρ:Env)(h:Hp)(K:Env->Hp->Prop):Prop:=
 match r,draw with
 | .seq hs,false=>fS P N ops 400 hs ops.toList ρ h K
 | .quiet hs,true=>gR (P.follows .mixedOrders&&(Region.lexB .any ops&&kZ ops.toList)) (fS P N ops 400 hs ops.toList ρ h K)
 | .tail n hs1 hs2,true=>gR (P.follows .mixedOrders&&(Region.lexTailB .any ops n&&kZ (ops.toList.take n)))
  (fS P N ops 400 hs1 (ops.toList.take n) ρ h λρ' h'=>fS P N ops 400 hs2 (ops.toList.drop n) ρ' h' K)
 | .held sm C sh,true=>gR (P.follows .mixedOrders&&Region.noSelect ops) (DB P N sm C sh ops ρ h K)
 | .iw sm C js sh,true=>gR (P.follows .mixedOrders&&(Region.noSelect ops&&js.all λs=>nU (vD ops) s.1))
  (Jn (oT js) (lam (oT js) λvs h'=>K (iZ (ρ.fA (vD ops)) js vs) h') λJ=>DB P N sm C sh ops ρ h λρ' h'=>vK js ρ' J h')
 | _,_=>False
theorem Wgr {P:Program}{N id:Nat}{r:RH}{ops:Array Oper}{draw:Bool}{ρ:Env}{a:Act}{w:World}{K:Env->Hp->Prop}{Q:Exit->Act->World->Prop}
 (h:uF P N r ops draw ρ w.heap K) (hf:Fits N ρ a) (hK:∀ρ' a' w',Fits N ρ' a'->ZP w w'->UQ ops.toList ρ ρ'->K ρ' w'.heap->Q .normal a' w'):(Code.region id ops draw).wp P Q a w:=by
 unfold uF at h;split at h
 ·rename_i B;refine wp_region_list ?_;have:=KZ (Q:=Q) (tail:=[]) 400 h hf λρ' a' w' d m g j=>hK ρ' a' w' d m g j;simpa using this
 ·rename_i B;rw[WJ]at h;simp only[zF]at h;obtain⟨⟨u,x,G⟩,h⟩:=h;refine wp_region_still u x ?_;have:=VV (w:={w with drawn:=w.drawn+1}) (Q:=λa'=>Q .normal a' {w with drawn:=w.drawn+1}) (tail:=[]) 400 h G hf λρ' a' d g j=>hK ρ' a' _ d ⟨rfl,rfl,rfl,zD _⟩ g j;simpa using this
 ·rename_i n hs1 hs2;rw[WJ]at h;simp only[zF]at h;obtain⟨⟨u,x,G⟩,h⟩:=h;obtain⟨l,rfl⟩:∃l:List Oper,ops=l.toArray:=⟨ops.toList,by simp⟩;refine wp_region_still_tail n u x ?_;have:=VV (w:={w with drawn:=w.drawn+1}) (ops:=l.toArray) (Q:=λa'=>wpList P l.toArray Q (l.drop n) a' {w with drawn:=w.drawn+1}) (tail:=[]) 400 h (by simpa using G) hf (λρ' a' d g j=>by
   have:=KZ (Q:=Q) (tail:=[]) (w:={w with drawn:=w.drawn+1}) 400 j d λE D A s m H C=>hK E D A s (ZP.trans (b:={w with drawn:=w.drawn+1}) ⟨rfl,rfl,rfl,zD _⟩ m) (λi e v y=>?_) C
   ·simpa[wpStill]using this
   ·rw[show l.toArray.toList=l.take n++l.drop n by simp,vq]at e;simp only[rQ,zR,decide_eq_false_iff_not,not_or]at e;exact H i (by simpa using e.2) v (g i (by simpa using e.1) v y))
  simpa using this
 ·rename_i sm sh;rw[WJ]at h;simp only[zF]at h;exact Uj h.1.1 h.1.2 h.2 hf hK
 ·rename_i sm js sh;rw[WJ]at h;simp only[zF]at h;obtain⟨⟨u,p,F⟩,J,L,h⟩:=h;refine Uj u p h hf λρ' a' w' d m g j=>?_;obtain⟨vs,y,B⟩:=yq j;have z:=U4 (B.mono L);refine hK _ a' w' (VN js (Gn d g) d y) m ?_ z;exact((Gk (vD ops) ρ).trans (KY (vD ops) js (ρ.fA (vD ops)) vs F)).mono λi e=>by
   simp only[zR]at e;rcases e with h|h<;>exact h
 ·exact h.elim
def gX:Code->List Nat
 | .region _ ops _=>vD ops
 | .seq a b=>gX a++gX b
 | .cond _ a b=>gX a++gX b
 | .block _ b=>gX b
 | .loop b=>gX b
 | .scope b=>gX b
 | _=>[]
def tC:(ks:List CK)->eV ks->pC ks->(Nat->Prop)->eV ks
 | [],I,μ,p=>λh=>I h/\p (μ h)
 | c::cs,I,μ,p=>λx=>tC cs (I x) (μ x) p
def W6 (ks:List CK)(start:eV ks->Prop)(round:eV ks->eV ks):Prop:=
 ∃(I:eV ks) (μ:pC ks),start I/\∀m:Nat,eV.le ks (tC ks I μ (· = m)) (round (tC ks I μ (· < m)))
inductive Hn where
 | leaf
 | cV (r:RH)
 | seq (a b:Hn)
 | jI (js:Js) (a b:Hn)
 | cond (a b:Hn)
 | block (b:Hn)
 | loop (js:Js) (b:Hn)
 | scope (b:Hn)
def RI.ops:Nat->List RI
 | 0=>[]
 | n+1=>.op::RI.ops n
abbrev Hn.l:Hn:=.leaf
abbrev Hn.q (a b:Hn):Hn:=.seq a b
abbrev Hn.c (a b:Hn):Hn:=.cond a b
abbrev Hn.k (a:Hn):Hn:=.block a
def Hn.o (n:Nat):Hn:=.cV (.seq (RI.ops n))
abbrev Hn.o1:Hn:=.o 1
abbrev Hn.o2:Hn:=.o 2
abbrev Hn.aJ:Hn:=.c (.q .o2 .l) .l
abbrev Hn.aK:Hn:=.c (.q .o1 .l) .l
abbrev Hn.aL:Hn:=.q .o2 .l
abbrev Hn.aM:Hn:=.q .o1 .l
abbrev Hn.o3:Hn:=.o 3
abbrev Hn.o4:Hn:=.o 4
abbrev Hn.o5:Hn:=.o 5
abbrev Hn.o6:Hn:=.o 6
abbrev Hn.o7:Hn:=.o 7
abbrev Hn.o8:Hn:=.o 8
abbrev Hn.o9:Hn:=.o 9
abbrev Hn.fV:Hn:=.o 10
def Hn.oq (n:Nat):Hn:=.cV (.quiet (RI.ops n))
def BR (next:Env->Hp->Prop)(Q:Exit->Env->Hp->Prop):Exit->Env->Hp->Prop
 | .normal,ρ,h=>next ρ h
 | e,ρ,h=>Q e ρ h
def Fz (id:Nat)(Q:Exit->Env->Hp->Prop):Exit->Env->Hp->Prop
 | .exit i,ρ,h=>match Nat.beq i id with
  | true=>Q .normal ρ h
  | false=>Q (.exit i) ρ h
 | e,ρ,h=>Q e ρ h
def noG (Q:Exit->Env->Hp->Prop):Exit->Env->Hp->Prop
 | .goto _,_,_=>False
 | e,ρ,h=>Q e ρ h
def lz (P:Program)(N:Nat):Code->Hn->(Exit->Env->Hp->Prop)->Env->Hp->Prop
 | .skip,_,Q,ρ,h=>Q .normal ρ h
 | .ret,_,Q,ρ,h=>Q .ret ρ h
 | .exit id,_,Q,ρ,h=>Q (.exit id) ρ h
 | .region _ ops d,.cV r,Q,ρ,h=>uF P N r ops d ρ h λρ' h'=>Q .normal ρ' h'
 | .seq a b,.seq x y,Q,ρ,h=>lz P N a x (BR (λρ' h'=>lz P N b y Q ρ' h') Q) ρ h
 | .seq a b,.jI js x y,Q,ρ,h=>gR (js.all λs=>nU (gX a) s.1)
  (Jn (oT js) (lam (oT js) λvs h'=>lz P N b y Q (iZ (ρ.fA (gX a)) js vs) h') λJ=>lz P N a x (BR (λρ' h'=>vK js ρ' J h') Q) ρ h)
 | .cond c a b,.cond x y,Q,ρ,h=>HM ρ c λt=>If t (lz P N a x Q ρ h) (lz P N b y Q ρ h)
 | .block id b,.block x,Q,ρ,h=>lz P N b x (Fz id Q) ρ h
 | .scope b,.scope x,Q,ρ,h=>lz P N b x (noG Q) ρ h
 | .label _,_,Q,ρ,h=>Q .normal ρ h
 | .loop b,.loop js x,Q,ρ,h=>gR (js.all λs=>nU (gX b) s.1)
  (W6 (oT js) (λI=>vK js ρ I h) λJ=>lam (oT js) λvs h'=>lz P N b x (BR (λρ' h''=>vK js ρ' J h'') Q) (iZ (ρ.fA (gX b)) js vs) h')
 | _,_,_,_,_=>False
theorem Et:∀{ks:List CK} {I:eV ks} {μ:pC ks} {p:Nat->Prop} {vs:List Value} {h:Hp},Sat ks (tC ks I μ p) vs h->∃n,p n/\Sat ks (tC ks I μ (· = n)) vs h
 | [],I,μ,p,[],h,hs=>⟨μ h,hs.2,hs.1,rfl⟩
 | c::cs,I,μ,p,v::vs,h,⟨x,e,hs⟩=>by
  obtain⟨n,hp,hn⟩:=Et (I:=I x) (μ:=μ x) hs;exact⟨n,hp,x,e,hn⟩
 | [],I,μ,p,_::_,h,hs=>hs.elim
 | _::_,I,μ,p,[],h,hs=>hs.elim
theorem Jm:∀{ks:List CK} {I:eV ks} (μ:pC ks) {vs:List Value} {h:Hp},Sat ks I vs h->∃n,Sat ks (tC ks I μ (· = n)) vs h
 | [],I,μ,[],h,hs=>⟨μ h,hs,rfl⟩
 | c::cs,I,μ,v::vs,h,⟨x,e,hs⟩=>by
  obtain⟨n,hn⟩:=Jm (I:=I x) (μ x) hs;exact⟨n,x,e,hn⟩
 | [],I,μ,_::_,h,hs=>hs.elim
 | _::_,I,μ,[],h,hs=>hs.elim
theorem DR {p:Nat->Prop}(h:∃n,p n):∃n,p n/\∀m,p m->n<=m:=by
 obtain⟨n,d⟩:=h
 induction n using Nat.strongRecOn with
 | _ n ih=>
  by_cases hm:∃m,m<n/\p m
  ·obtain⟨m,a,b⟩:=hm;exact ih m a b
  ·exact⟨n,d,λm b=>Nat.le_of_not_lt λa=>hm ⟨m,a,b⟩⟩
open Classical in
noncomputable def xg (p:Nat->Prop):Nat:=if h:∃n,p n then(DR h).choose else 0
theorem WeI {p:Nat->Prop}(h:∃n,p n):p (xg p):=by
 unfold xg;rw[dif_pos h];exact(DR h).choose_spec.1
theorem Nt {p:Nat->Prop}{n:Nat}(h:p n):xg p<=n:=by
 unfold xg;rw[dif_pos ⟨n,h⟩];exact(DR ⟨n,h⟩).choose_spec.2 n h
theorem Nm {P:Program}{c:Code}{Q:Exit->Act->World->Prop}{a:Act}{w:World}(I:Nat->Act->World->Prop)(h0:∃n,I n a w)
 (round:∀n a w,I n a w->c.wp P (Exit.then (λa' w'=>∃m,m<n/\I m a' w') Q) a w):(Code.loop c).wp P Q a w:=by
 refine wp_loop (λa w=>∃n,I n a w) (λa w=>xg λn=>I n a w) h0 λa w i=>?_;refine wp_mono (round _ a w (WeI i)) λe a' w' d=>?_;cases e<;>try exact d
 obtain⟨m,g,b⟩:=d;exact⟨⟨m,b⟩,Nat.lt_of_le_of_lt (Nt b) g⟩
theorem Q3 {P:Program}{N:Nat}:∀(c:Code) {x:Hn} {Q:Exit->Env->Hp->Prop} {Q':Exit->Act->World->Prop} {ρ:Env} {a:Act} {w:World},
 lz P N c x Q ρ w.heap->Fits N ρ a->(∀e ρ' a' w',Fits N ρ' a'->ZP w w'->Vv (gX c) ρ ρ'->Q e ρ' w'.heap->Q' e a' w')->c.wp P Q' a w
 | .skip,x,Q,Q',ρ,a,w,h,hf,hq=>by
  have h':Q .normal ρ w.heap:=by cases x<;>exact h
  exact wp_skip (hq _ ρ a w hf (.refl _) (.refl _ _) h')
 | .ret,x,Q,Q',ρ,a,w,h,hf,hq=>by
  have h':Q .ret ρ w.heap:=by cases x<;>exact h
  exact wp_ret (hq _ ρ a w hf (.refl _) (.refl _ _) h')
 | .exit id,x,Q,Q',ρ,a,w,h,hf,hq=>by
  have h':Q (.exit id) ρ w.heap:=by cases x<;>exact h
  exact wp_exit (hq _ ρ a w hf (.refl _) (.refl _ _) h')
 | .region id ops d,x,Q,Q',ρ,a,w,h,hf,hq=>by
  cases x<;>simp only[lz]at h
  exact Wgr h hf λρ' a' w' b p r j=>hq _ ρ' a' w' b p r j
 | .seq c1 c2,x,Q,Q',ρ,a,w,h,hf,hq=>by
  cases x<;>simp only[lz]at h
  case seq x y=>
   refine wp_seq (Q3 c1 h hf λe ρ' a' w' b p r j=>?_);cases e
   case normal=>exact Q3 c2 j b λe ρ'' A z g s F C=>hq e ρ'' A z g (p.trans s) (r.trans F) C
   all_goals exact hq _ ρ' a' w' b p (r.mono λi u=>nB _ u) j
  case jI js x y=>
   rw[WJ]at h;obtain⟨E,J,X,h⟩:=h;refine wp_seq (Q3 c1 h hf λe ρ' a' w' b p r j=>?_);cases e
   case normal=>
    obtain⟨vs,S,H⟩:=yq j;have D:=U4 (H.mono X);have R:=VN js (Gn b r) b S;refine Q3 c2 D R λe ρ'' A z g s F C=>hq e ρ'' A z g (p.trans s) ?_ C;have V:=(Gk (gX c1) ρ).trans (KY (gX c1) js (ρ.fA (gX c1)) vs E);exact(V.trans F).mono λi u=>by
     simp only[gX,zR]at u ⊢;rcases u with(h|h)|h
     ·exact Or.inl h
     ·exact Or.inl h
     ·exact Or.inr h
   all_goals exact hq _ ρ' a' w' b p (r.mono λi u=>nB _ u) j
 | .cond c c1 c2,x,Q,Q',ρ,a,w,h,hf,hq=>by
  cases x<;>simp only[lz]at h
  obtain⟨t,W,h⟩:=UI h;refine wp_cond_split (hf.ev _ _ W) (λe=>?_) (λe=>?_)
  ·exact Q3 c1 (h.t e) hf λe ρ' a' w' b p r j=>hq e ρ' a' w' b p (r.mono λi u=>nB _ u) j
  ·exact Q3 c2 (h.f e) hf λe ρ' a' w' b p r j=>hq e ρ' a' w' b p (r.mono λi u=>pV _ u) j
 | .block id c1,x,Q,Q',ρ,a,w,h,hf,hq=>by
  cases x<;>simp only[lz]at h
  refine wp_block (Q3 c1 h hf λe ρ' a' w' b p r j=>?_);cases e
  case exit i=>
   simp only[Fz]at j;simp only[Exit.inBlock];split at j
   ·rename_i e;have U:i=id:=lD e;rw[zB U];exact hq _ ρ' a' w' b p r j
   ·rename_i e;have U:i≠id:=λh=>by subst h;simp at e
    rw[zA U];exact hq _ ρ' a' w' b p r j
  all_goals exact hq _ ρ' a' w' b p r j
 | .loop c1,x,Q,Q',ρ,a,w,h,hf,hq=>by
  cases x<;>simp only[lz]at h
  rename_i js x;rw[WJ]at h;obtain⟨E,I,μ,H,hr⟩:=h;refine Nm (λn a' w'=>∃vs,Fits N (iZ (ρ.fA (gX c1)) js vs) a'/\ZP w w'/\Sat (oT js) (tC (oT js) I μ (· = n)) vs w'.heap) ?_ ?_
  ·obtain⟨vs,S,H⟩:=yq H;obtain⟨n,M⟩:=Jm μ H;exact⟨n,vs,VN js (hf.weaken (AN _ _)) hf S,.refl _,M⟩
  ·rintro n a' w' ⟨vs,b,p,M⟩;have:=U4 (M.mono (hr n));have Z:=(Gk (gX c1) ρ).trans (KY (gX c1) js (ρ.fA (gX c1)) vs E);refine Q3 c1 this b λe ρ'' A z g s r j=>?_;have B:Vv (gX c1) ρ ρ'':=(Z.trans r).mono λi u=>by
    simp only[zR]at u;rcases u with(h|h)|h<;>exact h
   cases e
   case normal=>
    obtain⟨K,L,D⟩:=yq j;obtain⟨m,Y,G⟩:=Et D;exact⟨m,Y,K,VN js (Gn g B) g L,p.trans s,G⟩
   all_goals exact hq _ ρ'' A z g (p.trans s) B j
 | .scope c1,x,Q,Q',ρ,a,w,h,hf,hq=>by
  cases x<;>simp only[lz]at h
  refine wp_scope_straight (Q3 c1 h hf λe ρ' a' w' b p r j=>?_);cases e
  case goto l=>exact j.elim
  all_goals exact hq _ ρ' a' w' b p r j
 | .label l,x,Q,Q',ρ,a,w,h,hf,hq=>by
  have h':Q .normal ρ w.heap:=by cases x<;>exact h
  exact wp_label (hq _ ρ a w hf (.refl _) (.refl _ _) h')
 | .rangeFunc ..,x,Q,Q',ρ,a,w,h,hf,hq=>(by cases x<;>simp only[lz]at h)
 | .goto ..,x,Q,Q',ρ,a,w,h,hf,hq=>(by cases x<;>simp only[lz]at h)
 | .refuse ..,x,Q,Q',ρ,a,w,h,hf,hq=>(by cases x<;>simp only[lz]at h)
def qe (P:Program)(r:ResultVar)(s:SK)(ρ:Env)(h:Hp)(K:List Value->Prop):Prop:=
 match r,s with
 | .tmp t,.one _=>wv (ρ t) λv=>K [v]
 | .tmp t,.agg cs=>wv (ρ t) λv=>match v with
  | .agg a=>gR (a.size==cs.length) (K a.toList)
  | _=>False
 | .cell a t,.one c=>wv (ρ a) λv=>match v,kg P t with
  | .pointer (some ad),some (.one _)=>xU c ad h λx=>K [c.v x]
  | _,_=>False
 | .cell a t,.agg cs=>wv (ρ a) λv=>match v,kg P t with
  | .pointer (some ad),some (.agg _)=>gR (P.cellsOf t==cs.length&&(P.info? t).isSome) (nW cs ad 0 h λvs=>K vs)
  | _,_=>False
def pA (P:Program):List ResultVar->List SK->Env->Hp->(List Value->Prop)->Prop
 | [],[],_,_,K=>K []
 | r::rs,s::ss,ρ,h,K=>qe P r s ρ h λvs=>pA P rs ss ρ h λus=>K (vs++us)
 | _,_,_,_,_=>False
def wU (P:Program)(fn:Func)(rs:List SK)(R:eV (iI rs)):Exit->Env->Hp->Prop
 | .normal,ρ,h=>pA P fn.results.toList rs ρ h λvs=>wT (iI rs) R vs h
 | .ret,ρ,h=>pA P fn.results.toList rs ρ h λvs=>wT (iI rs) R vs h
 | _,_,_=>False
def AI (vs:List Value):Env:=λi=>vs[i]?
def Ej (P:Program)(fn:Func)(x:Hn)(args:List Value)(rs:List SK)(R:eV (iI rs))(h:Hp):Prop:=
 match fn.body with
 | some c=>gR (Nat.ble args.length fn.ntmps) (lz P fn.ntmps c x (wU P fn rs R) (AI args) h)
 | none=>False
def UW:SK->List Value->Value
 | .one _,[v]=>v
 | .one _,_=>undef
 | .agg _,vs=>.agg vs.toArray
def uk (tmps:Array Value):ResultVar->Sem Value
 | .tmp t=>pure (tmps.getD t undef)
 | .cell b t=>do loadVar t (←asAddr (tmps.getD b undef))
theorem NZ (fn:Func)(tmps:Array Value):results fn tmps=(do
 let vs ←fn.results.mapM (uk tmps)
 pure (if h:vs.size=1 then vs[0]else .tuple vs)):=by
 unfold results
 congr 1
theorem Whg {P:Program}{r:ResultVar}{s:SK}{ρ:Env}{K:List Value->Prop}{a:Act}{N:Nat}{w:World}(hf:Fits N ρ a)(h:qe P r s ρ w.heap K) :
 ∃vs,vs.length=s.ks.length/\K vs/\(uk a.tmps r).run P w=.ok (UW s vs) w:=by
 unfold qe at h;split at h
 ·rename_i t c;obtain⟨v,g,e⟩:=Wq h;refine⟨[v],rfl,e,?_⟩;simp[uk,si,hf.at_ _ _ g,UW]
 ·rename_i t cs;obtain⟨v,g,e⟩:=Wq h;split at e
  ·rename_i ar;rw[WJ]at e;refine⟨ar.toList,by simpa[SK.ks]using e.1,e.2,?_⟩;simp[uk,si,hf.at_ _ _ g,UW]
  ·exact e.elim
 ·rename_i b t c;obtain⟨v,g,e⟩:=Wq h;split at e
  ·rename_i ad c' hs;obtain⟨d,hd,i⟩:=FA hs;obtain⟨x,u,e⟩:=D9 e;refine⟨[c.v x],rfl,e,?_⟩;simp only[uk,si,hf.at_ _ _ g,oV,asAddr,Sem.run_bind,Sem.run_pure,Result.andThen_ok,loadVar,KK hd,i,UW];simpa using Bc u
  ·exact e.elim
 ·rename_i b t cs;obtain⟨v,g,e⟩:=Wq h;split at e
  ·rename_i ad cs' hs;rw[WJ]at e;obtain⟨j,e⟩:=e;simp only[zF,zX]at j;obtain⟨d,hd,i⟩:=Ft hs;obtain⟨vs,m,e,p⟩:=BC (P:=P) e;refine⟨vs,m,e,?_⟩;simp only[uk,si,hf.at_ _ _ g,oV,asAddr,Sem.run_bind,Sem.run_pure,Result.andThen_ok,loadVar,KK hd,i,zT,QV j.2,loadCells,j.1,p,UW];simp
  ·exact e.elim
theorem LA {P:Program}{ρ:Env}{a:Act}{N:Nat}{w:World}(hf:Fits N ρ a):∀{rv:List ResultVar} {rs:List SK} {K:List Value->Prop},pA P rv rs ρ w.heap K →
 ∃vs,K vs/\(rv.mapM (uk a.tmps)).run P w=.ok (qg rs vs) w
 | [],[],K,h=>⟨[],h,by simp[qg]⟩
 | r::rv,s::rs,K,h=>by
  obtain⟨v1,hl,hK,hr⟩:=Whg hf h;obtain⟨e,d,b⟩:=LA hf hK;refine⟨v1++e,d,?_⟩;simp only[List.mapM_cons,Sem.run_bind,hr,Result.andThen_ok,b,Sem.run_pure];cases s with
  | one c=>
   match v1,hl with
   | [v],_=>simp[qg,UW]
  | agg cs=>
   simp only[SK.ks]at hl;simp only[qg,UW,←hl,List.take_left,List.drop_left]
 | [],_::_,K,h=>h.elim
 | _::_,[],K,h=>h.elim
theorem Ji {P:Program}{fn:Func}{ρ:Env}{a:Act}{N:Nat}{w:World}{rs:List SK}{K:List Value->Prop}(hf:Fits N ρ a)(h:pA P fn.results.toList rs ρ w.heap K) :
 ∃vs,K vs/\(results fn a.tmps).run P w=.ok (pack rs vs) w:=by
 obtain⟨vs,d,b⟩:=LA hf h;refine⟨vs,d,?_⟩;rw[NZ,Array.mapM_eq_mapM_toList];simp only[Sem.run_bind,Sem.run_map,b,Result.andThen_ok,Sem.run_pure,pack];split
 ·rename_i h1
  match hp:qg rs vs,h1 with
  | [v],_=>simp
 ·rename_i h1
  match hp:qg rs vs,h1 with
  | [],_=>rfl
  | [v],h1=>simp at h1
  | _::_::_,_=>rfl
theorem R0 {a b:Prop}(f:b)(e:a=b:=by kernel_rfl):a:=e.mpr f
theorem Wa {P:Program}{f:Nat}{fn:Func}{x:Hn}{args:List Value}{rs:List SK}{R:eV (iI rs)}{h:Hp}(hfn:P.funcs[f]?=some fn)(hk:Ej P fn x args rs R h):We P f args.toArray rs h R:=by
 intro w hw;subst hw;unfold Ej at hk;split at hk
 case h_2=>exact hk.elim
 rename_i c hb;rw[WJ]at hk;obtain⟨j,hk⟩:=hk;have s:args.length<=fn.ntmps:=Nat.le_of_ble_eq_true j;refine calls_of_wp hfn hb ?_;refine Q3 c hk (ρ:=AI args) ⟨rfl,by simp;omega,λi v g=>?_⟩ λe A y u a r z p=>?_
 ·simp only[AI]at g;have b:i<args.length:=(cQ.1 g).1;rw[DE (by simpa using b)];simpa using g
 ·cases e<;>simp only[wU]at p
  case normal=>
   obtain⟨vs,d,m⟩:=Ji a p;exact⟨a.defers,_,m,r,vs,rfl,xV d⟩
  case ret=>
   obtain⟨vs,d,m⟩:=Ji a p;exact⟨a.defers,_,m,r,vs,rfl,xV d⟩
theorem Ek {start:eV []->Prop}{round:eV []->eV []}(I:aP)(μ:Hp->Nat)(h0:start I)
 (hr:∀h,I h->round (λh'=>I h'/\μ h'<μ h) h):W6 [] start round:=
 ⟨I,μ,h0,λ_ h ⟨b,a⟩=>a▸hr h b⟩
theorem ZU {a:CK}{start:eV [a]->Prop}{round:eV [a]->eV [a]}(I:a.T->Hp->Prop)(μ:a.T->Hp->Nat)(h0:start I)
 (hr:∀x h,I x h->round (λx' h'=>I x' h'/\μ x' h'<μ x h) x h):W6 [a] start round:=
 ⟨I,μ,h0,λ_ x h ⟨d,b⟩=>b▸hr x h d⟩
theorem Kf {a bb:CK}{start:eV [a,bb]->Prop}{round:eV [a,bb]->eV [a,bb]}(I:a.T->bb.T->Hp->Prop)(μ:a.T->bb.T->Hp->Nat)(h0:start I)
 (hr:∀x y h,I x y h->round (λx' y' h'=>I x' y' h'/\μ x' y' h'<μ x y h) x y h):W6 [a,bb] start round:=
 ⟨I,μ,h0,λ_ x y h ⟨d,b⟩=>b▸hr x y h d⟩
theorem A9 {a bb c:CK}{start:eV [a,bb,c]->Prop}{round:eV [a,bb,c]->eV [a,bb,c]}(I:a.T->bb.T->c.T->Hp->Prop)(μ:a.T->bb.T->c.T->Hp->Nat)(h0:start I)
 (hr:∀x y z h,I x y z h->round (λx' y' z' h'=>I x' y' z' h'/\μ x' y' z' h'<μ x y z h) x y z h):W6 [a,bb,c] start round:=
 ⟨I,μ,h0,λ_ x y z h ⟨d,b⟩=>b▸hr x y z h d⟩
theorem FT {a bb c d e:CK}{start:eV [a,bb,c,d,e]->Prop}{round:eV [a,bb,c,d,e]->eV [a,bb,c,d,e]}(I:a.T->bb.T->c.T->d.T->e.T->Hp->Prop)(μ:a.T->bb.T->c.T->d.T->e.T->Hp->Nat)(h0:start I)
 (hr:∀x y z u v h,I x y z u v h->round (λx' y' z' u' v' h'=>I x' y' z' u' v' h'/\μ x' y' z' u' v' h'<μ x y z u v h) x y z u v h):W6 [a,bb,c,d,e] start round:=
 ⟨I,μ,h0,λ_ x y z u v h ⟨g,b⟩=>b▸hr x y z u v h g⟩
theorem aG {a:Addr}{K:Addr->Prop}(h:K a):bS (some a) K:=⟨a,rfl,h⟩
theorem nI {k:IntKind}{a:Addr}{h:Hp}{n:Int}{K:Int->Prop}(hc:cell h a=some (.int k n))(hK:K n):fF k a h K:=⟨n,hc,hK⟩
theorem lO {a:Addr}{h:Hp}{n:Bool}{K:Bool->Prop}(hc:cell h a=some (.bool n))(hK:K n):kF a h K:=⟨n,hc,hK⟩
theorem s7 {a:Addr}{h:Hp}{n:Option Addr}{K:Option Addr->Prop}(hc:cell h a=some (.pointer n))(hK:K n):fZ a h K:=⟨n,hc,hK⟩
theorem I0 {a:Addr}{h:Hp}{n:Option Nat}{K:Option Nat->Prop}(hc:cell h a=some (.map n))(hK:K n):mQ a h K:=⟨n,hc,hK⟩
theorem oA {a:Addr}{h:Hp}{x:Option Addr}{n c:Nat}{K:Sl->Prop}(hc:cell h a=some (.slice x n c))(hK:K ⟨x,n,c⟩):jk a h K:=⟨⟨x,n,c⟩,hc,hK⟩
theorem UM {e:Int}(h1 : -9223372036854775808<=e)(h2:e<=9223372036854775807):IntKind.i64.wrap e=e:=by
 unfold IntKind.wrap;simp[IntKind.bits,IntKind.signed];omega
theorem ar {e:Int}{K:Int->Prop}(h1 : -9223372036854775808<=e)(h2:e<=9223372036854775807)(hK:K e):Ar .i64 e K:=by
 unfold Ar;rw[UM h1 h2];exact hK
theorem Ty (e:Int) : -9223372036854775808<=IntKind.i64.wrap e/\IntKind.i64.wrap e<=9223372036854775807:=by
 unfold IntKind.wrap;simp[IntKind.bits,IntKind.signed];omega
theorem nz {y:Int}{A:Prop}(h:y≠0)(hA:A):Nz y A:=⟨h,hA⟩
theorem nn {y:Int}{A:Prop}(h:0<=y)(hA:A):Nn y A:=⟨h,hA⟩
theorem ix {a:Addr}{n:Nat}{i:Int}{sz:Nat}{K:Addr->Prop}(h0:0<=i)(h1:i<(n:Int))(hK:K (a.add (i.toNat*sz))):Ix (some a) n i sz K:=⟨a,rfl,h0,h1,hK⟩
theorem cU {b:Bool}{A B:Prop}(h1:b=true->A)(h2:b=false->B):If b A B:=If.mk h1 h2
theorem cI {p:Prop}[Decidable p]{A B:Prop}(h1:p->A)(h2:¬p->B):If (decide p) A B:=
 If.mk (λh=>h1 (pS h)) (λh=>h2 (sg h))
theorem cK {b:Bool}{A B:Prop}(hb:b=true)(h:A):If b A B:=by subst hb;exact h
theorem cG {b:Bool}{A B:Prop}(hb:b=false)(h:B):If b A B:=by subst hb;exact h
theorem lV {p:Prop}[Decidable p]{A B:Prop}(hp:p)(h:A):If (decide p) A B:=cK (by simpa using hp) h
theorem fH {p:Prop}[Decidable p]{A B:Prop}(hp:¬p)(h:B):If (decide p) A B:=cG (by simpa using hp) h
theorem IP (a:Int)(n:Nat):a.fdiv (2^n)=a/2^n:=Int.fdiv_eq_ediv_of_nonneg _ (Int.le_of_lt (Int.pow_pos aB))
theorem YN {a b:Int}(h:0<=a):a.tdiv b=a/b:=Int.tdiv_eq_ediv_of_nonneg h
theorem Q8 {a b:Int}(h:0<=a):a.tmod b=a%b:=Int.tmod_eq_emod_of_nonneg h
def bX (h:Hp)(b:Nat)(cs:List Value):Prop:=∃e,h[b]?=some (.cells cs.toArray e (0,0))
theorem bX.lt {h:Hp}{b:Nat}{cs:List Value}(hb:bX h b cs):b<h.size:=by
 obtain⟨e,a⟩:=hb;exact(mA.1 a).1
theorem bX.cell {h:Hp}{b o:Nat}{cs:List Value}(hb:bX h b cs):cell h ⟨b,o,none⟩=cs[o]? := by
 obtain⟨e,a⟩:=hb;simp[Vc.cell,a]
theorem bX.oO {h:Hp}{b o:Nat}{cs:List Value}(hb:bX h b cs):oO h ⟨b,o,none⟩=false:=by
 obtain⟨e,a⟩:=hb;simp[Vc.oO,a]
theorem bX.set {h:Hp}{b o:Nat}{cs:List Value}(hb:bX h b cs)(v:Value):bX (ku h ⟨b,o,none⟩ v) b (cs.set o v):=by
 obtain⟨e,a⟩:=hb;refine⟨e,?_⟩;simp[ku,yh,a]
theorem VP {h:Hp}{a:Addr}{v:Value}{b:Nat}(hne:b≠a.block):(ku h a v)[b]?=h[b]? := by
 simp only[ku,yh];rw[zA (Ne.symm hne)]
theorem add_lit (b o n:Nat):Addr.add ⟨b,o,none⟩ n=⟨b,o+n,none⟩:=Addr.add_lit b o n
def m8 (h:Hp)(b:Nat)(cs:List Value):Prop:=∃e z,h[b]?=some (.cells cs.toArray e z)
theorem bX.q {h:Hp}{b:Nat}{cs:List Value}(hb:bX h b cs):m8 h b cs:=by
 obtain⟨e,a⟩:=hb;exact⟨e,_,a⟩
theorem m8.lt {h:Hp}{b:Nat}{cs:List Value}(hb:m8 h b cs):b<h.size:=by
 obtain⟨e,z,a⟩:=hb;exact(mA.1 a).1
theorem m8.cell {h:Hp}{b o:Nat}{cs:List Value}(hb:m8 h b cs):cell h ⟨b,o,none⟩=cs[o]? := by
 obtain⟨e,z,a⟩:=hb;simp[Vc.cell,a]
def Ext (F:Nat->Prop)(h h':Hp):Prop:=h.size<=h'.size/\∀b,b<h.size->¬F b->h'[b]?=h[b]?
def bO (h h':Hp):Prop:=Ext (λ_=>False) h h'
theorem Ext.refl (F:Nat->Prop)(h:Hp):Ext F h h:=⟨zD _,λ_ _ _=>rfl⟩
theorem Ext.trans {F:Nat->Prop}{a b c:Hp}(h:Ext F a b)(k:Ext F b c):Ext F a c:=
 ⟨zI h.1 k.1,λi e d=>(k.2 i (vn e h.1) d).trans (h.2 i e d)⟩
theorem Ext.mono {F G:Nat->Prop}{a b:Hp}(h:Ext F a b)(hs:∀i,i<a.size->F i->G i):Ext G a b:=
 ⟨h.1,λi d e=>h.2 i d λg=>e (hs i d g)⟩
theorem bO.to {F:Nat->Prop}{a b:Hp}(h:bO a b):Ext F a b:=Ext.mono h λ_ _ h=>h.elim
theorem Ext.lS {F:Nat->Prop}{a b c:Hp}(h:Ext F a b)(k:bO b c):Ext F a c:=h.trans k.to
theorem Ext.size {F:Nat->Prop}{a b:Hp}(h:Ext F a b):a.size<=b.size:=h.1
theorem Ext.push (F:Nat->Prop)(h:Hp)(o:Obj):Ext F h (h.push o):=
 ⟨by simp,λb a _=>by rw[yD,zA (xl a)]⟩
theorem Ext.eP {F:Nat->Prop}{h h':Hp}{r:Nat}(ho:QD h h' r)(hr:F r):Ext F h h':=
 ⟨Nat.le_of_eq ho.1.symm,λb _ a=>ho.2 b λe=>a (e▸hr)⟩
theorem Ext.ku {F:Nat->Prop}{h:Hp}{a:Addr}{v:Value}(hr:F a.block):Ext F h (ku h a v):=
 ⟨Nat.le_of_eq (Vd h a v).symm,λb _ d=>VP λe=>d (e▸hr)⟩
theorem Ext.at_ {F:Nat->Prop}{h h':Hp}(e:Ext F h h'){b:Nat}{o:Obj}(hb:h[b]?=some o)(hf:¬F b):h'[b]?=some o:=by
 rw[e.2 b (mA.1 hb).1 hf];exact hb
theorem Ext.bZ {F:Nat->Prop}{h h':Hp}(e:Ext F h h'){b:Nat}{cs:List Value}(hb:bX h b cs)(hf:¬F b):bX h' b cs:=by
 obtain⟨t,a⟩:=hb;exact⟨t,e.at_ a hf⟩
theorem Ext.gL {F:Nat->Prop}{h h':Hp}(e:Ext F h h'){r:Nat}{k:IntKind}{c:CK}{l:List (Int×c.T)}(hb:dK h r k c l)(hf:¬F r):dK h' r k c l:=by
 obtain⟨d,a,b,rest⟩:=hb;exact⟨d,a,e.at_ b hf,rest⟩
theorem dK.lt {h:Hp}{r:Nat}{k:IntKind}{c:CK}{l:List (Int×c.T)}(hb:dK h r k c l):r<h.size:=by
 obtain⟨d,b,a,_⟩:=hb;exact(mA.1 a).1
theorem dK.nodup {h:Hp}{r:Nat}{k:IntKind}{c:CK}{l:List (Int×c.T)}(hb:dK h r k c l):(l.map (·.1)).Nodup:=by
 obtain⟨e,b,d,_,a,_⟩:=hb;exact a
theorem Ws {h h':Hp}{r b:Nat}{cs:List Value}(ho:QD h h' r)(hb:bX h b cs)(hne:b≠r):bX h' b cs:=by
 obtain⟨t,a⟩:=hb;exact⟨t,by rw[ho.2 b hne];exact a⟩
theorem Hl {h h':Hp}{r b:Nat}{k:IntKind}{c:CK}{l:List (Int×c.T)}(ho:QD h h' r)(hb:dK h b k c l)(hne:b≠r):dK h' b k c l:=by
 obtain⟨e,a,d,rest⟩:=hb;exact⟨e,a,by rw[ho.2 b hne];exact d,rest⟩
end Go.Vc
namespace Go.Bu
open Go Go.Vc
theorem NC {a b:Nat}(ha:a<9223372036854775808)(hb:b<9223372036854775808):bits .xor .i64 (a:Int) (b:Int)=((a ^^^ b:Nat):Int):=by
 have g:a ^^^ b<2^63:=Nat.xor_lt_two_pow O O;have d:(BitVec.ofInt 64 (a:Int)).toNat=a:=by
  rw[BitVec.ofInt_natCast,BitVec.toNat_ofNat];exact uM O
 have e:(BitVec.ofInt 64 (b:Int)).toNat=b:=by
  rw[BitVec.ofInt_natCast,BitVec.toNat_ofNat];exact uM O
 show IntKind.i64.wrap ((BitVec.ofInt 64 (a:Int) ^^^ BitVec.ofInt 64 (b:Int)).toNat:Int)=_;rw[BitVec.toNat_xor,d,e,UM]<;>omega
theorem jo {a b:Nat}(ha:a<9223372036854775808)(hb:b<9223372036854775808):bits .and .i64 (a:Int) (b:Int)=((a &&& b:Nat):Int):=by
 have g:a &&& b<2^63:=Nat.and_lt_two_pow _ O;have d:(BitVec.ofInt 64 (a:Int)).toNat=a:=by
  rw[BitVec.ofInt_natCast,BitVec.toNat_ofNat];exact uM O
 have e:(BitVec.ofInt 64 (b:Int)).toNat=b:=by
  rw[BitVec.ofInt_natCast,BitVec.toNat_ofNat];exact uM O
 show IntKind.i64.wrap ((BitVec.ofInt 64 (a:Int) &&& BitVec.ofInt 64 (b:Int)).toNat:Int)=_;rw[BitVec.toNat_and,d,e,UM]<;>omega
theorem SM (q:Nat):q ^^^ 1=iu q:=by
 apply Nat.eq_of_testBit_eq;intro i;rw[Nat.testBit_xor];unfold iu;cases i with
 | zero=>
  simp only[Nat.testBit_zero];split<;>rename_i h
  ·have:(q+1)%2=1:=by omega
   simp[h,this]
  ·have a:q%2=1:=by omega
   have:(q-1)%2=0:=by omega
   simp[a,this]
 | succ i=>
  simp only[Nat.testBit_succ];have b:(1:Nat)/2=0:=by decide
  rw[b,Nat.zero_testBit,Bool.xor_false]
  congr 1
  split<;>omega
theorem φ (q k:Nat):(q*2^k) ^^^ (2^k)=iu q*2^k:=by
 have h:=Nat.shiftLeft_xor_distrib (a:=q) (b:=1) (i:=k);rw[SM,Nat.shiftLeft_eq,Nat.shiftLeft_eq,Nat.shiftLeft_eq,Nat.one_mul]at h;exact h.symm
theorem JU {k:Nat}(h:k<=62):2^k<=4611686018427387904:=oK (n:=2) aB h
def Keys (S:Nat->Bool)(k:Nat)(B:List (Int×Bool)):Prop:=
 (∀x v,(x,v)∈B->v=true/\∃q:Nat,x=((q*2^k:Nat):Int)/\can S k q=true)/\∀q,can S k q=true->(((q*2^k:Nat):Int),true)∈B
structure BH (σ:Hp) (p n:Nat) (S:Nat->Bool) (sb:Nat) (ms:List Nat):Prop where
 hd:∃cap,bX σ p [.int .i64 n,.slice (some ⟨sb,0,none⟩) ms.length cap]
 row:∃rest,bX σ sb (ms.map (λm=>Value.map (some m))++rest)
 maps:∀k m,ms[k]?=some m->∃B:List (Int×Bool),dK σ m .i64 .b B/\Keys S k B
 nd:(p::sb::ms).Nodup
 n1:1<=n
 n2:n<=1024
 lo:2^ms.length<=2*n
 hi:n<2^ms.length
 jG:Bounded S n
def fp (p sb:Nat)(ms:List Nat)(b:Nat):Prop:=b∈p::sb::ms
variable {σ h':Hp}{p n sb:Nat}{S:Nat->Bool}{ms:List Nat}
theorem BH.len (h:BH σ p n S sb ms):ms.length<=11:=by
 have:=h.lo;have:=h.n2;apply Classical.byContradiction;intro hc;have:2^12<=2^ms.length:=oK aB O;omega
theorem BH.fits (h:BH σ p n S sb ms){k q:Nat}(hf:q*2^k+2^k<=n):k<ms.length:=by
 apply Classical.byContradiction;intro hc;have:2^ms.length<=2^k:=oK aB O;have:=h.hi;omega
theorem BH.TV (h:BH σ p n S sb ms):cell σ ⟨p,0,none⟩=some (.int .i64 n):=by
 obtain⟨cap,a⟩:=h.hd;rw[a.cell];rfl
theorem BH.lO (h:BH σ p n S sb ms):∃cap,cell σ ⟨p,1,none⟩=some (.slice (some ⟨sb,0,none⟩) ms.length cap):=by
 obtain⟨cap,a⟩:=h.hd;exact⟨cap,by rw[a.cell];rfl⟩
theorem BH.M7 (h:BH σ p n S sb ms){k m:Nat}(hm:ms[k]?=some m):cell σ ⟨sb,k,none⟩=some (.map (some m)):=by
 obtain⟨rest,a⟩:=h.row;rw[a.cell,zd (by simpa using(cQ.1 hm).1),ze,hm];rfl
theorem BH.get (h:BH σ p n S sb ms){k:Nat}(hk:k<ms.length):∃m,ms[k]?=some m:=⟨ms[k],by simp[hk]⟩
theorem BH.bU (h:BH σ p n S sb ms){F:Nat->Prop}(e:Ext F σ h')(hF:∀b,fp p sb ms b->¬F b):BH h' p n S sb ms where
 hd:=by obtain⟨cap,a⟩:=h.hd;exact⟨cap,e.bZ a (hF _ (by simp[fp]))⟩
 row:=by obtain⟨rest,a⟩:=h.row;exact⟨rest,e.bZ a (hF _ (by simp[fp]))⟩
 maps:=λk m d=>by
  obtain⟨B,g,i⟩:=h.maps k m d;exact⟨B,e.gL g (hF _ (by simp[fp,zE d])),i⟩
 nd:=h.nd
 n1:=h.n1
 n2:=h.n2
 lo:=h.lo
 hi:=h.hi
 jG:=h.jG
theorem BH.bK (h:BH σ p n S sb ms)(e:bO σ h'):BH h' p n S sb ms:=h.bU e λ_ _=>id
theorem Oi {k:Nat}{B:List (Int×Bool)}(hK:Keys S k B)(hn:(B.map (·.1)).Nodup)(q:Nat):bV B ((q*2^k:Nat):Int)=if can S k q then some true else none:=by
 unfold bV;cases hf:B.find? λx=>x.1==((q*2^k:Nat):Int)with
 | some x=>
  have j:=ue hf;have a:=tQ hf;obtain⟨g,p⟩:=x;obtain⟨m,i,e,b⟩:=hK.1 g p a;have d:g=((q*2^k:Nat):Int):=by simpa using j
  rw[d]at e;have:q*2^k=i*2^k:=by exact_mod_cast e
  have:=vW (lb k) this;subst this;subst m;simp[b]
 | none=>
  rw[oh]at hf;by_cases b:can S k q=true
  ·have:=hf _ (hK.2 q b);simp at this
  ·simp[b]
theorem BH.lk (h:BH σ p n S sb ms){k m q:Nat}(hm:ms[k]?=some m){x:Int}(hx:x=((q*2^k:Nat):Int)){K:Option Bool->Prop}
 (hK:K (if can S k q then some true else none)):Lk .i64 .b (some m) x σ K:=by
 obtain⟨B,a,d⟩:=h.maps k m hm;exact⟨B,a,by rw[hx,Oi d a.nodup];exact hK⟩
theorem Ex {k:Nat}{B:List (Int×Bool)}(hK:Keys S k B)(hn:(B.map (·.1)).Nodup)(hb:Bounded S n):B.length=many n S k:=by
 have j:(B.map (·.1)).Perm (((List.range n).filter (can S k)).map λq=>((q*2^k:Nat):Int)):=by
  rw[xp hn]
  ·intro x;simp only[zC,zH,zU];constructor
   ·rintro⟨⟨x1,x2⟩,hm,rfl⟩;obtain⟨_,q,m,d⟩:=hK.1 x1 x2 hm;refine⟨q,⟨?_,d⟩,m.symm⟩;have:=ZQ hb (ZL.1 d).1;have p:=lb k;have r:q<=q*2^k:=Cy _ p;omega
   ·rintro⟨q,⟨_,d⟩,rfl⟩;exact⟨_,hK.2 q d,rfl⟩
  ·have e:((List.range n).filter (can S k)).Pairwise (· ≠ ·):=List.Pairwise.sublist sq xB;refine List.Pairwise.map _ (λa b (i:a≠b) g=>i ?_) e;have:a*2^k=b*2^k:=by exact_mod_cast g
   exact vW (lb k) this
 have:=j.length_eq;simp only[za]at this;rw[this,many,xP]
theorem BH.kU (h:BH σ p n S sb ms){k m:Nat}(hm:ms[k]?=some m){K:Int->Prop}(hK:K ((many n S k:Nat):Int)):nZ .i64 .b (some m) σ K:=by
 obtain⟨B,a,d⟩:=h.maps k m hm;exact⟨B,a,by rw[Ex d a.nodup h.jG];exact hK⟩
theorem BH.pZ (h:BH σ p n S sb ms){k m:Nat}{T:Nat->Bool}(hm:ms[k]?=some m)(ho:QD σ h' m){B':List (Int×Bool)}(hB':dK h' m .i64 .b B')(hK':Keys T k B')
 (hoth:∀j q,j≠k->can T j q=can S j q) (hT:Bounded T n):BH h' p n T sb ms where
 hd:=by
  obtain⟨cap,r⟩:=h.hd;refine⟨cap,Ws ho r ?_⟩;have:=h.nd;simp only[zp,zQ,not_or]at this;rintro rfl;exact this.1.2 (zE hm)
 row:=by
  obtain⟨rest,r⟩:=h.row;refine⟨rest,Ws ho r ?_⟩;have:=h.nd;simp only[zp,zQ,not_or]at this;rintro rfl;exact this.2.1 (zE hm)
 maps:=λj u a=>by
  by_cases e:j=k
  ·subst e;rw[hm]at a;cases a;exact⟨B',hB',hK'⟩
  ·obtain⟨B,s,g⟩:=h.maps j u a;refine⟨B,Hl ho s ?_,?_⟩
   ·rintro rfl;have d:=h.nd;simp only[zp]at d;exact e ((List.getElem?_inj (cQ.1 a).1 d.2.2).1 (a.trans hm.symm))
   ·refine⟨λx v y=>?_,λq A=>g.2 q (by rw[←hoth j q e];exact A)⟩;obtain⟨w,q,i,z⟩:=g.1 x v y;exact⟨w,q,i,by rw[hoth j q e];exact z⟩
 nd:=h.nd
 n1:=h.n1
 n2:=h.n2
 lo:=h.lo
 hi:=h.hi
 jG:=hT
theorem Ng (hb:Bounded S n)(k q:Nat):Bounded (del S k q) n:=λx a=>hb x (VJ.1 a).1
theorem JO (hb:Bounded S n){k q:Nat}(hf:q*2^k+2^k<=n):Bounded (ins S k q) n:=λx a=>by
 rcases VH.1 a with h|h
 ·exact hb x h
 ·have:=Qe.1 h;omega
theorem Is {a b:Bool}(h:a=true↔b=true):a=b:=by cases a<;>cases b<;>simp_all
theorem BH.se (h:BH σ p n S sb ms){k m q:Nat}(hm:ms[k]?=some m)(hc:can S k q=true){x:Int}(hx:x=((q*2^k:Nat):Int)){K:aP}
 (hK:∀h',Ext (· ∈ ms) σ h'->BH h' p n (del S k q) sb ms->K h'):mK .i64 .b (some m) x σ K:=by
 obtain⟨B,z,w⟩:=h.maps k m hm;refine⟨B,z,λh' u _ i=>hK h' (Ext.eP (u m rfl) (zE hm)) ?_⟩;refine h.pZ hm (u m rfl) i ⟨λy v g=>?_,λr C=>?_⟩ (λj r D=>Is ?_) (Ng h.jG k q)
 ·simp only[cT,zH,nj,m0]at g;obtain⟨A,r,a,s⟩:=w.1 y v g.1;refine⟨A,r,a,(CA hc).2 ⟨s,λe=>g.2 ?_⟩⟩;rw[a,hx,e.2]
 ·have d:=(CA hc).1 C;simp only[cT,zH,nj,m0];refine⟨w.2 r d.1,λe=>d.2 ⟨rfl,?_⟩⟩;rw[hx]at e;have:r*2^k=q*2^k:=by exact_mod_cast e
  exact vW (lb k) this
 ·rw[CA hc];exact⟨λh=>h.1,λh=>⟨h,λe=>D e.1⟩⟩
theorem BH.wF (h:BH σ p n S sb ms){k m q:Nat}(hm:ms[k]?=some m)(hd:∀y,y/2^k=q->S y=false)(hup:¬full (ins S k q) (k+1) (q/2)=true)(hf:q*2^k+2^k<=n)
 {x:Int} (hx:x=((q*2^k:Nat):Int)) {K:aP} (hK:∀h',Ext (· ∈ ms) σ h'->BH h' p n (ins S k q) sb ms->K h'):k6 .i64 .b (some m) x true σ K:=by
 obtain⟨B,C,z⟩:=h.maps k m hm;refine⟨m,B,rfl,C,λh' A w=>hK h' (Ext.eP A (zE hm)) ?_⟩;have s:∀y∈B,(y.1==x)=false:=by
  rintro⟨y,v⟩ d;obtain⟨_,r,a,g⟩:=z.1 y v d;simp only[m0];rintro rfl;rw[hx]at a;have:q*2^k=r*2^k:=by exact_mod_cast a
  have:=vW (lb k) this;subst this;have u:=KT g (KC k q);rw[hd _ (KC k q)]at u;cases u
 have i:dF B x true=B++[(x,true)]:=by
  unfold dF;rw[zA];simp only[qR,m7];intro y d;simp[s y d]
 refine h.pZ hm A w ?_ (λj r E=>Is ?_) (JO h.jG hf)
 ·rw[i];refine⟨λy v d=>?_,λr F=>?_⟩
  ·simp only[zR,zW,Prod.mk.injEq]at d;rcases d with d|⟨rfl,rfl⟩
   ·obtain⟨D,r,a,g⟩:=z.1 y v d;exact⟨D,r,a,(yQ hd hup).2 (.inl g)⟩
   ·exact⟨rfl,q,hx,(yQ hd hup).2 (.inr ⟨rfl,rfl⟩)⟩
  ·rcases(yQ hd hup).1 F with u|⟨_,rfl⟩
   ·exact nB _ (z.2 r u)
   ·rw[hx];exact pV _ aA
 ·rw[yQ hd hup];exact⟨λh=>h.elim id λe=>(E e.1).elim,.inl⟩
end Go.Bu
namespace Go.Vc
open Go
theorem Ub {b o:Nat}:∀{vs:List Value} {h:Hp} {cs:List Value} {i:Nat} {K:aP},bX h b cs->o+i+vs.length<=cs.length →
 (∀h',QD h h' b->bX h' b (cs.take (o+i)++vs++cs.drop (o+i+vs.length))->K h')->ql ⟨b,o,none⟩ h vs i K
 | [],h,cs,i,K,hb,hl,hK=>hK h ⟨rfl,λ_ _=>rfl⟩ (by simpa using hb)
 | v::vs,h,cs,i,K,hb,hl,hK=>by
  simp only[zP]at hl;refine⟨?_,?_,?_⟩
  ·rw[add_lit,hb.cell,cM O];rfl
  ·rw[add_lit];exact hb.oO
  ·rw[add_lit];have hb':=hb.set (o:=o+i) v;refine Ub hb' aE λh' g a=>hK h' ?_ ?_
   ·exact⟨g.1.trans (Vd _ _ _),λc d=>(g.2 c d).trans (VP d)⟩
   ·have e:(cs.set (o+i) v).take (o+(i+1))++vs++(cs.set (o+i) v).drop (o+(i+1)+vs.length)=cs.take (o+i)++v::vs++cs.drop (o+i+(v::vs).length):=by
     rw[List.drop_set_of_lt O,show o+(i+1)=(o+i)+1 by omega,zg,List.take_set_of_le O,zM O];simp only[tB,kJ,List.singleton_append,lL,oZ,zP]
     congr 4
     omega
    rw[e]at a;exact a
def Own (Q:Nat->Prop)(h:Hp)(s:Sl)(sz:Nat)(xs:List Value):Prop:=
 xs.length=s.len*sz/\(s.a=none/\s.len=0/\s.cap=0\/∃b cs,Q b/\s.a=some ⟨b,0,none⟩/\bX h b cs/\s.len<=s.cap/\cs.length=s.cap*sz/\cs.take xs.length=xs)
def Ho (s:Sl)(b:Nat):Prop:=∃o,s.a=some ⟨b,o,none⟩
theorem Own.nil (Q:Nat->Prop)(h:Hp)(sz:Nat):Own Q h ⟨none,0,0⟩ sz []:=⟨by simp,.inl ⟨rfl,rfl,rfl⟩⟩
theorem Own.bU {Q F:Nat->Prop}{h h':Hp}{s:Sl}{sz:Nat}{xs:List Value}(ho:Own Q h s sz xs)(e:Ext F h h')(hF:∀b,Q b->b<h.size->¬F b):Own Q h' s sz xs:=by
 refine⟨ho.1,ho.2.imp id ?_⟩;rintro⟨b,cs,hq,ha,hb,r⟩;exact⟨b,cs,hq,ha,e.bZ hb (hF b hq hb.lt),r⟩
theorem Own.bK {Q:Nat->Prop}{h h':Hp}{s:Sl}{sz:Nat}{xs:List Value}(ho:Own Q h s sz xs)(e:bO h h'):Own Q h' s sz xs:=ho.bU e λ_ _ _ h=>h
theorem Own.mono {Q Q':Nat->Prop}{h:Hp}{s:Sl}{sz:Nat}{xs:List Value}(ho:Own Q h s sz xs)(hq:∀b,b<h.size->Q b->Q' b):Own Q' h s sz xs:=by
 refine⟨ho.1,ho.2.imp id ?_⟩;rintro⟨b,cs,hQ,ha,hb,r⟩;exact⟨b,cs,hq b hb.lt hQ,ha,hb,r⟩
theorem Own.jM {Q:Nat->Prop}{h:Hp}{s:Sl}{sz:Nat}{xs:List Value}(ho:Own Q h s sz xs){b:Nat}(hb:Ho s b):Q b/\b<h.size:=by
 obtain⟨o,a⟩:=hb;rcases ho.2 with⟨ha,_⟩|⟨b',cs,hq,ha,hk,_⟩
 ·rw[ha]at a;cases a
 ·rw[ha]at a;cases a;exact⟨hq,hk.lt⟩
theorem Own.rd {Q:Nat->Prop}{h:Hp}{s:Sl}{sz:Nat}{xs:List Value}(ho:Own Q h s sz xs):Rd h s.a xs:=by
 rcases ho.2 with⟨ha,hl,_⟩|⟨b,cs,_,ha,hb,_,_,ht⟩
 ·rw[ha];have:=ho.1;rw[hl]at this;simp at this;exact this
 ·rw[ha];intro j v hv;rw[add_lit,hb.cell,zG];rw[←ht,zY]at hv;split at hv
  ·exact hv
  ·cases hv
theorem Own.cell {Q:Nat->Prop}{h:Hp}{s:Sl}{sz:Nat}{xs:List Value}(ho:Own Q h s sz xs){j:Nat}{v:Value}(hv:xs[j]?=some v):∃b,s.a=some ⟨b,0,none⟩/\Vc.cell h ⟨b,j,none⟩=some v:=by
 rcases ho.2 with⟨ha,hl,_⟩|⟨b,cs,_,ha,hb,_,_,ht⟩
 ·have:=ho.1;rw[hl]at this;simp at this;subst this;simp at hv
 ·refine⟨b,ha,?_⟩;rw[hb.cell];rw[←ht,zY]at hv;split at hv
  ·exact hv
  ·cases hv
theorem Own.app {Q:Nat->Prop}{h:Hp}{s x:Sl}{sz bytes e:Nat}{zs xs ys:List Value}{K:Sl->Hp->Prop}(ho:Own Q h s sz xs)(hq:∀b,h.size<=b->Q b)(hz:zs.length=sz)
 (hy:ys.length=x.len*sz) (hr:Rd h x.a ys) (h1:∀v∈ys,dN v=true) (hb:(s.len+x.len)*bytes<=2^46) (hc:s.len+x.len<=2^62)
 (hx:0<x.len) (hK:∀s' h',s'.len=s.len+x.len->Ext (Ho s) h h'->Own Q h' s' sz (xs++ys)->s'.a≠none->K s' h'):App s sz bytes e zs x h K:=by
 refine⟨xs,ys,ho.1,hy,ho.rd,hr,h1,hb,hc,λg=>?_,λp c m=>?_⟩
 ·rcases ho.2 with⟨ha,hl,hcap⟩|⟨b,cs,hQ,ha,hk,hle,hcl,ht⟩
  ·omega
  ·rw[ha];simp only;rw[add_lit];have r:(s.len+x.len)*sz<=s.cap*sz:=lB _ g;rw[zk]at r;have d:=ho.1;refine Ub hk O λh' j i=>hK _ h' rfl (Ext.eP j ⟨0,ha⟩) ⟨?_,.inr ⟨b,_,hQ,rfl,i,g,?_,?_⟩⟩ aA
   ·simp[d,hy,zk]
   ·simp;omega
   ·rw[zK,d];rw[zG,zq,←d];rw[ht,pd aA,ng aA]
 ·refine hK _ _ rfl (Ext.push _ _ _) ⟨by simp[ho.1,hy,zk],.inr ⟨h.size,xs++ys++(List.replicate (c-(s.len+x.len)) zs).flatten,hq _ (zD _),rfl,⟨e,by simp⟩,m,?_,?_⟩⟩ aA
  ·simp only[zK,vC,tJ,vf,ho.1,hy,hz,←zk]
   congr 1;omega
  ·rw[pd aA,ng aA]
theorem Pt {h:Hp}{v:Value}{e:Nat}:Rd (h.push (.cells #[v] e (0,0))) (some ⟨h.size,0,none⟩) [v]:=by
 intro j u hu;rw[add_lit];cases j with
 | zero=>simp at hu;subst hu;simp[Vc.cell]
 | succ j=>simp at hu
theorem bX.NL {h:Hp}{b o:Nat}{cs:List Value}(hb:bX h b cs){v:Value}(ho:o<cs.length){K:aP}(hK:∀h',QD h h' b->bX h' b (cs.set o v)->K h'):dL (Addr.add ⟨b,0,none⟩ o) v h K:=by
 rw[add_lit,zG];refine⟨?_,hb.oO,hK _ ⟨Vd _ _ _,λc a=>VP a⟩ (hb.set v)⟩;rw[hb.cell,cM ho];rfl
theorem bX.push (h:Hp)(cs:List Value)(e:Nat):bX (h.push (.cells cs.toArray e (0,0))) h.size cs:=⟨e,by simp⟩
theorem dK.push (h:Hp)(k:IntKind)(c:CK):dK (h.push (.map #[] 0)) h.size k c []:=⟨#[],0,by simp,by simp,by simp,by simp,by simp⟩
theorem Ext.only {F:Nat->Prop}{a b c:Hp}{r:Nat}(e:Ext F a b)(ho:QD b c r)(hr:F r\/a.size<=r):Ext F a c:=
 ⟨by rw[ho.1];exact e.1,λi g d=>by
  rw[ho.2 i ?_];exact e.2 i g d;rintro rfl;rcases hr with h|h
  ·exact d h
  ·omega⟩
theorem Ext.fresh {a b c:Hp}{F:Nat->Prop}(e:bO a b)(k:Ext F b c)(hF:∀i,F i->a.size<=i):bO a c:=
 ⟨zI e.1 k.1,λi d _=>(k.2 i (vn d e.1) λg=>by have:=hF i g;omega).trans (e.2 i d id)⟩
theorem Own.st {Q:Nat->Prop}{h:Hp}{s:Sl}{sz:Nat}{xs:List Value}(ho:Own Q h s sz xs){j:Nat}(hj:j<xs.length){v:Value}{K:aP}{a:Addr}(ha:∀b,s.a=some ⟨b,0,none⟩->a=⟨b,j,none⟩)
 (hK:∀h',Ext (Ho s) h h'->Own Q h' s sz (xs.set j v)->K h'):dL a v h K:=by
 rcases ho.2 with⟨h1,hl,_⟩|⟨b,cs,hq,hsa,hb,hle,hcl,ht⟩
 ·have:=ho.1;rw[hl]at this;simp at this;subst this;simp at hj
 ·rw[ha b hsa];have d:j<cs.length:=by
   have:(cs.take xs.length).length=xs.length:=by rw[ht]
   rw[zO]at this;omega
  refine⟨by rw[hb.cell,cM d];rfl,hb.oO,hK _ (Ext.ku (F:=Ho s) ⟨0,hsa⟩) ⟨by simp[ho.1],.inr ⟨b,_,hq,hsa,hb.set v,hle,by simp[hcl],?_⟩⟩⟩;rw[oR,List.take_set,ht]
end Go.Vc