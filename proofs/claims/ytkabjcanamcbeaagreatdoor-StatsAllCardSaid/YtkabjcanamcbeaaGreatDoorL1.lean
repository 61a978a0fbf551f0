/- Texts joined. -/
import Init
import Derived.WalkKit
import Derived.WalkLawsBesides
import Derived.WalkSpells
import Derived.ChangeKeysEq
import Derived.StillTail
import Derived.OrdersHeld
import Derived.Scope
set_option linter.unusedVariables false
set_option linter.unusedSimpArgs false
abbrev zA:=@if_neg
abbrev zB:=@if_pos
abbrev zC:=@List.mem_map
abbrev zD:=@Nat.le_refl
abbrev zE:=@List.mem_of_getElem?
abbrev zF:=@List.mem_filter
abbrev zG:=@Bool.and_eq_true
abbrev zH:=@List.map_cons
abbrev zI:=@Nat.zero_add
abbrev zJ:=@Nat.le_trans
abbrev zK:=@List.length_append
abbrev zL:=@List.getD_eq_getElem?_getD
abbrev zM:=@List.getElem?_of_mem
abbrev zN:=@List.length_cons
abbrev zO:=@List.getElem?_set_self
abbrev zP:=@List.length_take
abbrev zQ:=@List.mem_range
abbrev zR:=@List.mem_cons
abbrev zS:=@List.sum_cons
abbrev zT:=@decide_eq_true
abbrev zU:=@List.mem_append
abbrev zV:=@decide_eq_true_eq
abbrev zW:=@if_true
abbrev zX:=@List.length_map
abbrev zY:=@beq_iff_eq
abbrev zZ:=@List.mem_singleton
abbrev za:=@List.getElem?_eq_none
abbrev zb:=@List.getElem?_take
abbrev zc:=@Nat.add_mul
abbrev zd:=@Bool.false_eq_true
abbrev ze:=@List.map_congr_left
abbrev zf:=@List.getElem_mem
abbrev zg:=@decide_eq_false
abbrev zh:=@List.getElem?_append_left
abbrev zi:=@List.getElem?_map
abbrev zj:=@Option.map_some
abbrev zk:=@List.map_map
abbrev zl:=@List.take_add_one
abbrev zm:=@List.getElem?_set_ne
abbrev zn:=@Int.eq_ofNat_of_zero_le
abbrev zo:=@List.take_length
abbrev zp:=@List.getElem?_append_right
abbrev zq:=@List.getElem?_drop
abbrev zr:=@List.nodup_cons
abbrev zt:=@Nat.add_zero
abbrev zu:=@List.length_drop
abbrev zw:=@List.any_eq_true
abbrev zy:=@List.map_append
abbrev zz:=@if_false
abbrev lX:=@List.ext_getElem?
abbrev lZ:=@List.append_nil
abbrev mE:=@List.append_assoc
abbrev mD:=@List.range_succ
abbrev mJ:=@List.mem_cons_of_mem
abbrev nD:=@List.all_eq_true
abbrev nB:=@List.pairwise_iff_getElem
abbrev nC:=@Nat.mul_le_mul
abbrev nE:=@List.mem_cons_self
abbrev nM:=@Nat.two_pow_pos
abbrev oE:=@List.foldl_cons
abbrev pf:=@Nat.mul_le_mul_right
abbrev pd:=@Nat.eq_of_beq_eq_true
abbrev oR:=@List.cons_append
abbrev pA:=@Nat.lt_or_ge
abbrev pz:=@List.length_nil
abbrev py:=@List.pairwise_map
abbrev pJ:=@Array.getElem?_eq_some_iff
abbrev pB:=@List.pairwise_cons
abbrev pZ:=@Bool.not_eq_true'
abbrev p8:=@List.any_eq_false
abbrev qb:=@List.flatMap_cons
abbrev pY:=@List.foldl_append
abbrev qd:=@Bool.eq_false_iff
abbrev qy:=@List.getElem?_replicate
abbrev qg:=@Nat.pow_succ
abbrev qt:=@List.mem_of_mem_take
abbrev qx:=@List.take_of_length_le
abbrev qB:=@List.length_filter_le
abbrev qA:=@beq_eq_false_iff_ne
abbrev qs:=@of_decide_eq_true
abbrev qQ:=@List.nodup_append
abbrev qN:=@Bool.eq_iff_iff
abbrev qL:=@List.take_append_drop
abbrev qP:=@List.mem_append_left
abbrev qW:=@Nat.zero_lt_one
abbrev rJ:=@List.findIdx?_eq_some_iff_getElem
abbrev sj:=@List.getElem?_set
abbrev rE:=@Nat.mul_one
abbrev rp:=@List.filter_eq_self
abbrev rO:=@Bool.or_eq_true
abbrev se:=@List.find?_eq_none
abbrev ry:=@List.getElem?_range
abbrev rU:=@List.set_set
abbrev sC:=@Nat.pow_le_pow_right
abbrev sx:=@List.length_set
abbrev sA:=@List.filter_cons
abbrev sH:=@List.length_range
abbrev tf:=@Option.isSome_iff_exists
abbrev tZ:=@List.pairwise_append
abbrev sS:=@Option.getD_some
abbrev sY:=@List.mem_append_right
abbrev sU:=@List.nil_append
abbrev tT:=@List.take_append_of_le_length
abbrev tB:=@Nat.sub_self
abbrev tv:=@List.mem_flatMap
abbrev ui:=@Nat.lt_trichotomy
abbrev ud:=@List.countP_cons
abbrev uB:=@List.map_nil
abbrev uF:=@Nat.min_eq_left
abbrev ur:=@List.drop_eq_getElem_cons
abbrev ug:=@Nat.add_assoc
abbrev uf:=@List.length_pos_iff
abbrev uv:=@List.sum_append
abbrev uE:=@List.nodup_nil
abbrev vE:=@Int.le_refl
abbrev uK:=@Option.map_eq_some_iff
abbrev uV:=@List.mem_of_mem_drop
abbrev uR:=@Bool.not_eq_true
abbrev uN:=@Option.map_eq_none_iff
abbrev uG:=@of_decide_eq_false
abbrev wg:=@Nat.le_of_lt
abbrev vU:=@List.filter_sublist
abbrev wc:=@List.getElem_map
abbrev vW:=@Array.getD_eq_getD_getElem?
abbrev wy:=@List.contains_eq_mem
abbrev vN:=@Bool.and_false
abbrev wk:=@List.find?_some
abbrev wq:=@List.mem_of_find?_eq_some
abbrev vJ:=@List.perm_ext_iff_of_nodup
abbrev vZ:=@List.set_cons_succ
abbrev vK:=@List.take_succ_cons
abbrev xL:=@Nat.div_div_eq_div_mul
abbrev xX:=@List.getElem?_modify
abbrev xm:=@Nat.mul_assoc
abbrev xU:=@List.contains_iff_mem
abbrev xi:=@Bool.and_true
abbrev wV:=@Option.toList_some
abbrev wX:=@List.map_replicate
abbrev xj:=@Bool.false_and
abbrev xS:=@List.countP_le_length
abbrev wP:=@List.count_append
abbrev wQ:=@List.map_set
abbrev xT:=@Bool.true_and
abbrev wH:=@List.filter_cons_of_neg
abbrev wE:=@List.filter_cons_of_pos
abbrev yd:=@List.length_singleton
abbrev yb:=@true_and
abbrev yq:=@Nat.mod_lt
abbrev yl:=@List.countP_append
abbrev yK:=@List.find?_cons
abbrev yh:=@List.all_cons
abbrev y8:=@List.findIdx?_eq_none_iff
abbrev yW:=@List.flatten_cons
abbrev yG:=@Nat.mod_eq_of_lt
abbrev yo:=@Nat.mul_eq_zero
abbrev yL:=@Nat.zero_mul
abbrev yM:=@List.getElem_of_mem
abbrev yE:=@List.filter_congr
abbrev yJ:=@List.filterMap_append
abbrev yR:=@Nat.lt_of_lt_of_le
abbrev yB:=@Nat.eq_of_mul_eq_mul_right
abbrev ye:=@List.length_flatten
abbrev yp:=@List.sum_replicate_nat
abbrev yj:=@Bool.decide_and
abbrev y9:=@List.count_le_length
abbrev yw:=@List.filter_append
abbrev yS:=@List.count_cons
abbrev y6:=@List.range_succ_eq_map
abbrev yn:=@List.count_eq_zero
abbrev Ab:=@Nat.mul_comm
abbrev BA:=@List.countP_map
abbrev Bb:=@List.findIdx?_cons
abbrev AZ:=@List.map_id
abbrev zv:=@Nat.ne_of_lt
abbrev Bx:=@Array.length_toList
abbrev BC:=@List.mem_filterMap
abbrev Ag:=@Nat.one_mul
abbrev Am:=@List.nodup_range
abbrev Bp:=@List.countP_eq_length_filter
abbrev AF:=@Nat.eq_zero_or_pos
abbrev Bj:=@List.replicate_succ
abbrev Ap:=@List.takeWhile_cons
abbrev AE:=@List.mem_or_eq_of_mem_set
abbrev An:=@List.getElem?_cons_zero
abbrev AP:=@List.count_pos_iff
abbrev AB:=@Int.ediv_nonneg
abbrev Cn:=@Nat.div_mul_le_self
abbrev Ck:=@List.countP_congr
abbrev Df:=@List.map_eq_nil_iff
abbrev CE:=@Array.getElem?_toList
abbrev BE:=@Array.getElem?_setIfInBounds_ne
abbrev BD:=@List.mem_map_of_mem
abbrev BJ:=@List.mem_replicate
abbrev Ch:=@Array.getElem?_push
abbrev CU:=@Option.bind_some
abbrev CP:=@Bool.false_or
abbrev Da:=@Bool.not_false
abbrev Db:=@Array.getElem?_modify
abbrev Ci:=@List.set_append_right
abbrev CX:=@List.count_replicate
abbrev BV:=@List.take_take
abbrev C1:=@List.any_cons
abbrev C7:=@List.take_left'
abbrev CD:=@List.drop_succ_cons
abbrev BO:=@List.dropLast_eq_take
abbrev Dq:=@List.find?_isSome
abbrev Cs:=@List.take_zero
abbrev BK:=@List.length_eq_zero_iff
abbrev B9:=@List.findIdx?_eq_some_iff_findIdx_eq
abbrev CR:=@List.nodup_iff_count
abbrev CA:=@List.size_toArray
abbrev Ie:=@Nat.mul_div_cancel
abbrev EX:=@Nat.le_mul_of_pos_right
abbrev Iz:=@Array.mem_of_getElem?
abbrev E4:=@Array.toList_modify
abbrev Is:=@Array.toList_eraseIdxIfInBounds
abbrev DV:=@List.replicate_succ'
abbrev D7:=@List.flatten_append
abbrev Ir:=@List.filter_filter
abbrev DK:=@List.filterMap_cons
abbrev IV:=@Array.getElem?_append_left
abbrev En:=@List.length_dropLast
abbrev Dx:=@List.getElem?_cons_succ
abbrev E7:=@List.eq_nil_of_length_eq_zero
abbrev EV:=@Nat.add_sub_cancel_left
abbrev IB:=@List.flatMap_append
abbrev El:=@List.take_sublist
abbrev FP:=@List.dropWhile_cons
abbrev Ig:=@List.drop_sublist
abbrev Ei:=@List.eq_of_mem_replicate
abbrev FN:=@List.takeWhile_append_dropWhile
abbrev IS:=@List.takeWhile_cons_of_neg
abbrev D4:=@List.drop_eq_nil_of_le
abbrev FD:=@Nat.add_sub_cancel
abbrev F5:=@List.zip_cons_cons
abbrev FQ:=@List.getElem?_zipWith
abbrev Fy:=@List.count_singleton_self
abbrev IN:=@List.sum_eq_zero_iff_forall_eq_nat
theorem cQ {α:Type _}{l:List α}{i:Nat}{a:α}:l[i]?=some a↔∃h:i<l.length,l[i]=a:=List.getElem?_eq_some_iff
theorem cM {α:Type _}{l:List α}{i:Nat}(h:i<l.length):l[i]?=some l[i]:=List.getElem?_eq_getElem h
theorem dE (n:Nat):(n:Int).toNat=n:=Int.toNat_natCast n
theorem O{p:Prop}(h:p:=by omega):p:=h
theorem aA{p:Prop}(h:p:=by simp):p:=h
theorem aB{p:Prop}(h:p:=by decide):p:=h
theorem aC{p:Prop}(h:p:=by simp only;omega):p:=h
theorem aD{p:Prop}(h:p:=by first|omega | (simp only;omega)):p:=h
theorem aE{p:Prop}(h:p:=by simp;omega):p:=h
abbrev aW(b:Nat):Option Go.Addr:=some ⟨b,0,none⟩
namespace Go.Ar
structure bY where
 size:Nat
 aF:Nat
 batch:Nat
 deriving DecidableEq
def bY.n (c:bY):Nat:=c.aF*256/c.size
def bY.tail (c:bY):Nat:=c.aF*256-c.n*c.size
def UC (x y z:Int):Bool:=decide (8<=x)&&(decide (x<=512)&&(decide (x%8=0)&&(decide (1<=y)&&(decide (y<=4)&&(decide (x<=y*256)&&(decide (1<=z)&&decide (z<=32)))))))
def bY.ok (c:bY):Prop:=8<=c.size/\c.size<=512/\c.size%8=0/\1<=c.aF/\c.aF<=4/\c.size<=c.aF*256/\1<=c.batch/\c.batch<=32
theorem Hv (x y z:Int):UC x y z=true↔8<=x/\x<=512/\x%8=0/\1<=y/\y<=4/\x<=y*256/\1<=z/\z<=32:=by simp[UC]
theorem UM (c:bY):UC c.size c.aF c.batch=true↔c.ok:=by
 rw[Hv];unfold bY.ok;omega
def ZX (t:Int×Int×Int):bY:=⟨t.1.toNat,t.2.1.toNat,t.2.2.toNat⟩
theorem Cp {x y z:Int}(h:UC x y z=true):∃c:bY,c.ok/\ZX (x,y,z)=c/\x=c.size/\y=c.aF/\z=c.batch:=by
 rw[Hv]at h;refine⟨ZX (x,y,z),?_,rfl,?_,?_,?_⟩<;>simp only[ZX,bY.ok]<;>omega
def yf:List (Int×Int×Int)->Bool
 | x::y::l=>decide (x.1<y.1)&&yf (y::l)
 | _=>true
def Qo (xs:List (Int×Int×Int)):Bool:=decide (1<=xs.length)&&(decide (xs.length<=40)&&(xs.all (λt=>UC t.1 t.2.1 t.2.2)&&yf xs))
theorem bY.ok.qY {c:bY}(h:c.ok):1<=c.n:=by
 unfold bY.ok at h;exact(Nat.one_le_div_iff O).2 h.2.2.2.2.2.1
theorem bY.ok.lI {c:bY}(h:c.ok):c.n<=128:=by
 unfold bY.ok at h;unfold bY.n;have:c.aF*256/c.size<=1024/8:=Nat.div_le_div O O O;omega
theorem bY.sL (c:bY):c.n*c.size<=c.aF*256:=Cn _ _
structure cH where
 st:Nat
 tk:List Bool
 deriving DecidableEq
def cH.many (s:cH):Nat:=s.tk.count true
def idx (c:bY)(s:cH)(x:Int):Option Nat:=if x<((s.st*256:Nat):Int)\/((s.st*256+s.tk.length*c.size:Nat):Int)<=x then none else some ((x-((s.st*256:Nat):Int)).toNat/c.size)
def at_ (c:bY)(s:cH)(i:Nat):Nat:=s.st*256+i*c.size
def obj (c:bY)(s:cH)(x:Int):Option Nat:=match idx c s x with
 | some i=>if x=((at_ c s i:Nat):Int)then some i else none
 | none=>none
theorem Uf {c:bY}{s:cH}{x:Int}{i:Nat}(hc:0<c.size):idx c s x=some i↔((at_ c s i:Nat):Int)<=x/\x<((at_ c s (i+1):Nat):Int)/\i<s.tk.length:=by
 unfold idx at_;constructor
 ·intro h;split at h
  ·cases h
  ·rename_i hn;cases h;obtain⟨y,rfl⟩:=zn (show 0<=x by omega);have e:((y:Int)-((s.st*256:Nat):Int)).toNat=y-s.st*256:=by omega
   rw[e];have g:(y-s.st*256)/c.size*c.size<=y-s.st*256:=Cn _ _;have b:=Nat.lt_div_mul_add (a:=y-s.st*256) hc;have d:(y-s.st*256)/c.size<s.tk.length:=(Nat.div_lt_iff_lt_mul hc).2 O;rw[zc];omega
 ·rintro⟨g,b,d⟩;obtain⟨y,rfl⟩:=zn (show 0<=x by omega);have j:(i+1)*c.size<=s.tk.length*c.size:=pf _ d;rw[zA O];have e:((y:Int)-((s.st*256:Nat):Int)).toNat=y-s.st*256:=by omega
  rw[e]
  congr 1
  rw[zc]at b;refine Nat.div_eq_of_lt_le ?_ ?_
  ·omega
  ·rw[zc];omega
theorem UX {c:bY}{s:cH}{x:Int}{i:Nat}(hc:0<c.size):obj c s x=some i↔x=((at_ c s i:Nat):Int)/\i<s.tk.length:=by
 unfold obj;constructor
 ·intro h;split at h
  ·rename_i j hj;split at h
   ·cases h;rename_i he;exact⟨he,((Uf hc).1 hj).2.2⟩
   ·cases h
  ·cases h
 ·rintro⟨rfl,hi⟩;have:idx c s ((at_ c s i:Nat):Int)=some i:=(Uf hc).2 ⟨vE _,by unfold at_;rw[zc];omega,hi⟩;rw[this];simp
def low (s:cH):Option Nat:=s.tk.findIdx? (· == false)
def cH.put (s:cH)(i:Nat)(v:Bool):cH:={s with tk:=s.tk.set i v}
def nZ (c:bY)(ss:List cH)(x:Int):Option Nat:=ss.findIdx? λs=>(idx c s x).isSome
def eI (c:bY)(ss:List cH)(x:Int):Option Bool:=match nZ c ss x with
 | some k=>match ss[k]? with
  | some s=>(obj c s x).map λi=>s.tk.getD i false
  | none=>none
 | none=>none
def AT (x y:cH):Bool:=decide (x.many>y.many)||(x.many==y.many&&decide (x.st<y.st))
def Zw (ss:List cH):Nat->Option Nat
 | 0=>none
 | k+1=>match ss[k]? with
  | some x=>if x.many<x.tk.length then(match Zw ss k with
   | some j=>match ss[j]? with
    | some y=>if AT x y then some k else some j
    | none=>some k
   | none=>some k)else Zw ss k
  | none=>Zw ss k
def qG (ss:List cH):Option Nat:=Zw ss ss.length
def kE (c:bY)(ss:List cH):Option (Nat×List cH):=match qG ss with
 | some k=>match ss[k]? with
  | some s=>match low s with
   | some i=>some (at_ c s i,ss.set k (s.put i true))
   | none=>none
  | none=>none
 | none=>none
def Ki (c:bY):Nat->List cH->List Nat×List cH
 | 0,ss=>([],ss)
 | m+1,ss=>match kE c ss with
  | some (x,ss')=>let r:=Ki c m ss';(x::r.1,r.2)
  | none=>([],ss)
def jM (c:bY)(ss:List cH)(xs:List Int):Int:=
 if xs.any (λx=>(eI c ss x).isNone)then 8 else if xs.any (λx=>eI c ss x==some false) || !decide xs.Nodup then 9 else 0
def fQ (c:bY)(ss:List cH)(x:Int):List cH:=match nZ c ss x with
 | some k=>match ss[k]? with
  | some s=>match obj c s x with
   | some i=>ss.set k (s.put i false)
   | none=>ss
  | none=>ss
 | none=>ss
def cK (ss:List cH):List cH:=ss.filter λs=>s.many != 0
def Z8 (ss:List cH):List Nat:=(ss.filter λs=>s.many==0).map (·.st)
def uZ (c:bY)(ss:List cH)(x:Int):Option Nat:=match nZ c ss x with
 | some k=>match ss[k]? with
  | some s=>(idx c s x).map (at_ c s)
  | none=>none
 | none=>none
def iQ (c:bY)(ss:List cH)(st:Nat):List cH:=ss.takeWhile (λs=>s.st<st)++⟨st,List.replicate c.n false⟩::ss.dropWhile (λs=>s.st<st)
def G5 (c:bY)(ss:List cH)(x:Nat):Int:=if ss.any (λs=>max s.st x-min s.st x<c.aF)then 9 else 0
def Q6 (ss:List cH):Nat:=(ss.map λs=>s.tk.length-s.many).sum
structure fT where
 low:Nat
 bs:List (List Int)
 deriving DecidableEq
def fX {α:Type}(l:List α)(a b:Nat)(v:α):List α:=l.mapIdx λi x=>if a<=i/\i<b then v else x
theorem Qp {α:Type}(l:List α)(a b:Nat)(v:α):(fX l a b v).length=l.length:=by simp[fX]
theorem HJ {α:Type}(l:List α)(a b:Nat)(v:α)(i:Nat):(fX l a b v)[i]?=(l[i]?).map λx=>if a<=i/\i<b then v else x:=by
 simp[fX,List.getElem?_mapIdx]
theorem Pv {α:Type}{l:List α}{a b:Nat}{v:α}(h1:a<=b)(h2:b<=l.length):fX l a b v=l.take a++List.replicate (b-a) v++l.drop b:=by
 apply lX;intro i;rw[HJ];rcases pA i a with h|h
 ·rw[mE,zh aE,zb,zB h];have:l[i]?=some l[i]:=cM O;rw[this];simp;omega
 rcases pA i b with h'|h'
 ·rw[mE,zp aE,zh aE];have:l[i]?=some l[i]:=cM O;rw[this];simp[qy,h,h'];omega
 ·rw[zp aE];have e:i-(l.take a++List.replicate (b-a) v).length=i-b:=by simp;omega
  rw[e,zq,show b+(i-b)=i by omega];cases l[i]?<;>simp;omega
def gD (l:List Nat)(a b v:Nat):Nat:=((l.drop a).take (b-a)).count v
end Go.Ar
namespace Go.Bu
def full (S:Nat->Bool)(k q:Nat):Bool:=(List.range (2^k)).all λi=>S (q*2^k+i)
def can (S:Nat->Bool)(k q:Nat):Bool:=full S k q && !full S (k+1) (q/2)
theorem Hy {k q i:Nat}(hi:i<2^k):(q*2^k+i)/2^k=q:=by
 rw[Nat.add_comm,Nat.add_mul_div_right _ _ (nM k),Nat.div_eq_of_lt hi,zI]
theorem GW {k q p:Nat}(h:p/2^k=q):p=q*2^k+p%2^k:=by
 rw[←h,Ab];exact(Nat.div_add_mod p (2^k)).symm
theorem Qc {k q p:Nat}:p/2^k=q↔q*2^k<=p/\p<q*2^k+2^k:=by
 have a:=nM k;constructor
 ·intro h;have:=GW h;have b:=yq p a;omega
 ·rintro⟨h1,h2⟩;have:p=q*2^k+(p-q*2^k):=by omega
  rw[this];exact Hy O
theorem YQ {S:Nat->Bool}{k q:Nat}:full S k q=true↔∀p,p/2^k=q->S p=true:=by
 simp only[full,nD,zQ];constructor
 ·intro h p hp;have:=h (p%2^k) (yq _ (nM k))
  rwa [←GW hp]at this
 ·intro h i hi;exact h _ (Hy hi)
theorem ZM {S:Nat->Bool}{k q:Nat}:can S k q=true↔full S k q=true/\¬full S (k+1) (q/2)=true:=by
 simp[can]
theorem wF {p k j:Nat}(h:k<=j):p/2^j=p/2^k/2^(j-k):=by
 rw[xL,←Nat.pow_add]
 congr 2;omega
theorem Mh {S:Nat->Bool}{k j q:Nat}(h:k<=j)(hf:full S j (q/2^(j-k))=true):full S k q=true:=by
 rw[YQ]at hf ⊢;intro p hp;exact hf p (by rw[wF h,hp])
theorem OG {q k j:Nat}(h:k<j):q/2/2^(j-(k+1))=q/2^(j-k):=by
 rw[xL]
 congr 1
 rw[←Nat.pow_succ']
 congr 1;omega
theorem QY {S:Nat->Bool}{k j q r p:Nat}(hk:can S k q=true)(hj:full S j r=true)(hp:p/2^k=q)(hr:p/2^j=r)(h:k<j):False:=by
 rw[ZM]at hk;refine hk.2 (Mh (j:=j) O ?_);rw[OG h,←hp,←wF (wg h),hr];exact hj
theorem Gq {S:Nat->Bool}{k j q r p:Nat}(hk:can S k q=true)(hj:can S j r=true)(hp:p/2^k=q)(hr:p/2^j=r):k=j/\q=r:=by
 rcases ui k j with h|h|h
 ·exact(QY hk (ZM.1 hj).1 hp hr h).elim
 ·subst h;exact⟨rfl,hp.symm.trans hr⟩
 ·exact(QY hj (ZM.1 hk).1 hr hp h).elim
def Bounded (S:Nat->Bool)(n:Nat):Prop:=∀p,S p=true->p<n
theorem ZS {S:Nat->Bool}{n k q:Nat}(hb:Bounded S n)(h:full S k q=true):q*2^k+2^k<=n:=by
 rw[YQ]at h;have a:=nM k;have:=hb _ (h (q*2^k+(2^k-1)) (Hy O));omega
theorem φ {S:Nat->Bool}{p:Nat}:full S 0 p=S p:=by simp[full]
theorem VY {S:Nat->Bool}{n p:Nat}(hb:Bounded S n)(hp:S p=true):∃k,can S k (p/2^k)=true:=by
 apply Classical.byContradiction;intro hno;have all:∀k,full S k (p/2^k)=true:=by
  intro k
  induction k with
  | zero=>simpa[φ]using hp
  | succ k ih=>
   apply Classical.byContradiction;intro hn;refine hno ⟨k,ZM.2 ⟨ih,?_⟩⟩;rw[xL,←qg];exact hn
 have:=ZS hb (all n);have:=@Nat.lt_two_pow_self n;omega
theorem Vh {S:Nat->Bool}{k q p:Nat}(h:can S k q=true)(hp:p/2^k=q):S p=true:=YQ.1 (ZM.1 h).1 p hp
def del (S:Nat->Bool)(k q:Nat):Nat->Bool:=λp=>S p && !(p/2^k==q)
def ins (S:Nat->Bool)(k q:Nat):Nat->Bool:=λp=>S p||p/2^k==q
theorem VT {S:Nat->Bool}{k q p:Nat}:del S k q p=true↔S p=true/\p/2^k≠q:=by simp[del]
theorem VU {S:Nat->Bool}{k q p:Nat}:ins S k q p=true↔S p=true\/p/2^k=q:=by simp[ins]
theorem KV (k q:Nat):(q*2^k)/2^k=q:=Ie _ (nM k)
theorem Iy {S:Nat->Bool}{k q j r:Nat}(hc:can S k q=true):can (del S k q) j r=true↔can S j r=true/\¬(j=k/\r=q):=by
 constructor
 ·intro h;obtain⟨i,u⟩:=ZM.1 h;rw[YQ]at i;have s:full S j r=true:=YQ.2 λp b=>(VT.1 (i p b)).1;refine⟨ZM.2 ⟨s,λg=>u (YQ.2 λp b=>?_)⟩,?_⟩
  ·refine VT.2 ⟨YQ.1 g p b,λd=>?_⟩;rcases pA k (j+1)with m|m
   ·exact QY hc g d b m
   ·-- the greater Zx lies in the block
    have a:=KV j r;have x:=(VT.1 (i _ a)).2;apply x;rw[wF (show j+1<=k by omega)];have e:r*2^j/2^(j+1)=r/2:=by
     rw[qg,←xL,a]
    rw[e,←b,←wF (show j+1<=k by omega),d]
  ·rintro⟨rfl,rfl⟩;exact(VT.1 (i _ (KV _ _))).2 (KV _ _)
 ·rintro⟨h,hne⟩;obtain⟨i,u⟩:=ZM.1 h;refine ZM.2 ⟨YQ.2 λp b=>VT.2 ⟨YQ.1 i p b,λd=>hne ?_⟩,λg=>u (YQ.2 λp b=>(VT.1 (YQ.1 g p b)).1)⟩;obtain⟨m,w⟩:=Gq h hc b d;exact⟨m,w⟩
theorem Dc {S:Nat->Bool}{k q j r:Nat}(hd:∀p,p/2^k=q->S p=false)(hup:¬full (ins S k q) (k+1) (q/2)=true) :
 can (ins S k q) j r=true↔can S j r=true\/(j=k/\r=q):=by
 have g:can (ins S k q) k q=true:=ZM.2 ⟨YQ.2 λp d=>VU.2 (.inr d),hup⟩;constructor
 ·intro h;by_cases he:j=k/\r=q
  ·exact .inr he
  left;obtain⟨i,m⟩:=ZM.1 h;refine ZM.2 ⟨YQ.2 λp d=>?_,λb=>m (YQ.2 λp d=>VU.2 (.inl (YQ.1 b p d)))⟩;rcases VU.1 (YQ.1 i p d)with h1|h1
  ·exact h1
  ·exact(he (Gq h g d h1)).elim
 ·rintro(h|⟨rfl,rfl⟩)
  ·obtain⟨i,m⟩:=ZM.1 h;refine ZM.2 ⟨YQ.2 λp d=>VU.2 (.inl (YQ.1 i p d)),λb=>m (YQ.2 λp d=>?_)⟩;rcases VU.1 (YQ.1 b p d)with h1|h1
   ·exact h1
   ·rcases pA k (j+1)with h2|h2
    ·refine(hup (Mh (j:=j+1) O ?_)).elim;have e:q/2^(j+1-k)=r/2:=by rw[←h1,←wF (show k<=j+1 by omega),d]
     rw[OG h2,e];exact b
    ·have a:=KV j r;have s:=YQ.1 i _ a;have e:r*2^j/2^(j+1)=r/2:=by
      rw[qg,←xL,a]
     have:r*2^j/2^k=q:=by
      rw[wF h2,e,←d,←wF h2,h1]
     rw[hd _ this]at s;cases s
  ·exact g
def iJ (q:Nat):Nat:=if q%2=0 then q+1 else q-1
theorem JP (q:Nat):iJ q/2=q/2:=by unfold iJ;split<;>omega
theorem Rj (q:Nat):iJ q≠q:=by unfold iJ;split<;>omega
theorem Wlw {q r:Nat}(h:r/2=q/2):r=q\/r=iJ q:=by unfold iJ;split<;>omega
theorem Hz {k q p:Nat}:p/2^(k+1)=q/2↔p/2^k=q\/p/2^k=iJ q:=by
 rw[qg,←xL];constructor
 ·intro h;exact Wlw h
 ·rintro(h|h)<;>rw[h]
  exact JP q
theorem κ {T:Nat->Bool}{k q:Nat}(hd:∀p,p/2^k=q->T p=false)(hm:¬can T k (iJ q)=true):¬full (ins T k q) (k+1) (q/2)=true:=by
 intro hup;have a:full T k (iJ q)=true:=YQ.2 λp d=>by
  rcases VU.1 (YQ.1 hup p (Hz.2 (.inr d)))with h|h
  ·exact h
  ·exact(Rj q (d.symm.trans h)).elim
 have:full T (k+1) (iJ q/2)=true:=Classical.byContradiction λh=>hm (ZM.2 ⟨a,h⟩);rw[JP]at this;have b:=YQ.1 this (q*2^k) (Hz.2 (.inl (KV k q)));rw[hd _ (KV k q)]at b;cases b
def dK (S:Nat->Bool)(a b:Nat):Nat->Bool:=λp=>S p||(decide (a<=p)&&decide (p<b))
def take (S:Nat->Bool)(a b:Nat):Nat->Bool:=λp=>S p && !(decide (a<=p)&&decide (p<b))
theorem Kw {S:Nat->Bool}{a b p:Nat}:dK S a b p=true↔S p=true\/(a<=p/\p<b):=by simp[dK]
theorem Ku {S:Nat->Bool}{a b p:Nat}:take S a b p=true↔S p=true/\¬(a<=p/\p<b):=by
 simp[take];intro _;omega
theorem xh {S T:Nat->Bool}(h:∀p,S p=true↔T p=true):S=T:=by
 funext p
 have:=h p;cases hs:S p<;>cases ht:T p<;>simp_all
theorem TK (S:Nat->Bool)(k q:Nat):ins S k q=dK S (q*2^k) (q*2^k+2^k):=
 xh λp=>by rw[VU,Kw,Qc]
theorem WhQ {S:Nat->Bool}{a b c:Nat}(h1:a<=b)(h2:b<=c):dK (dK S a b) b c=dK S a c:=
 xh λp=>by simp only[Kw];cases S p<;>simp<;>omega
theorem Wlg (S:Nat->Bool)(a:Nat):dK S a a=S:=xh λp=>by simp only[Kw];cases S p<;>simp<;>omega
theorem TJ (S:Nat->Bool)(a:Nat):take S a a=S:=xh λp=>by simp only[Ku];cases S p<;>simp<;>omega
def jH (n:Nat)(S:Nat->Bool):Nat:=(List.range n).countP S
theorem WnE (k m:Nat)(f:Nat->Bool):(List.range (m*2^k)).countP (λp=>f (p/2^k))=2^k*(List.range m).countP f:=by
 induction m with
 | zero=>simp
 | succ m ih=>
  rw[Nat.succ_mul,List.range_add,yl,ih,BA,mD,yl];have:((List.range (2^k)).countP ((λp=>f (p/2^k))∘λx=>m*2^k+x))=2^k*(if f m then 1 else 0):=by
   have e:∀x∈List.range (2^k),((λp=>f (p/2^k))∘λx=>m*2^k+x) x=f m:=by
    intro x a;simp only[Function.comp];rw[Hy (zQ.1 a)]
   rw[Ck (q:=λ_=>f m) (λx a=>by rw[e x a])];cases f m<;>simp
  rw[this,Nat.mul_add];simp only[ud,List.countP_nil,zI]
theorem WnY {n m:Nat}{S:Nat->Bool}(h:n<=m)(hb:∀p,S p=true->p<n):(List.range m).countP S=(List.range n).countP S:=by
 obtain⟨d,rfl⟩:=Nat.exists_eq_add_of_le h;rw[List.range_add,yl,BA];have:(List.range d).countP (S∘λx=>n+x)=0:=by
  rw[List.countP_eq_zero];intro x _ hx;have:n+x<n:=hb _ hx;omega
 omega
def many (n:Nat)(S:Nat->Bool)(k:Nat):Nat:=(List.range n).countP (can S k)
def nJ (n:Nat)(S:Nat->Bool):Nat->Nat
 | 0=>0
 | k+1=>nJ n S k+many n S k*2^k
theorem iM {α:Type}(l:List α)(f g h:α->Bool)(e:∀x∈l,(f x).toNat+(g x).toNat=(h x).toNat):l.countP f+l.countP g=l.countP h:=by
 induction l with
 | nil=>rfl
 | cons x l ih=>
  have b:=e x aA;have:=ih λy a=>e y (by simp[a]);simp only[ud];cases hf:f x<;>cases hg:g x<;>cases hh:h x<;>simp[hf,hg,hh]at b ⊢ <;> omega
def wx (S:Nat->Bool)(K p:Nat):Bool:=(List.range K).any λk=>can S k (p/2^k)
theorem GI {n:Nat}{S:Nat->Bool}(hb:Bounded S n):∀K,nJ n S K=(List.range n).countP (wx S K)
 | 0=>by
  simp only[nJ]
  symm
  rw[List.countP_eq_zero];simp[wx]
 | K+1=>by
  rw[nJ,GI hb K];have hm:many n S K*2^K=(List.range n).countP (λp=>can S K (p/2^K)):=by
   have a:=WnE K n (can S K);have b:n<=n*2^K:=EX _ (nM K);rw[WnY b (λp g=>hb p (Vh g rfl))]at a;rw[a,Ab];rfl
  rw[hm];apply iM;intro p _;have e:wx S (K+1) p=(wx S K p||can S K (p/2^K)):=by
   simp[wx,mD,List.any_append]
  rw[e];cases a:wx S K p<;>cases b:can S K (p/2^K)<;>simp
  simp only[wx,zw,zQ]at a;obtain⟨k,i,d⟩:=a;have:=Gq d b rfl rfl;omega
theorem OH {n K:Nat}{S:Nat->Bool}(hb:Bounded S n)(hK:n<2^K):nJ n S K=jH n S:=by
 rw[GI hb];apply Ck;intro p _;simp only[wx,zw,zQ];constructor
 ·rintro⟨k,_,a⟩;exact Vh a rfl
 ·intro hp;obtain⟨k,a⟩:=VY hb hp;refine⟨k,?_,a⟩;have:=ZS hb (ZM.1 a).1;apply Classical.byContradiction;intro hk;have:2^K<=2^k:=sC O O;omega
end Go.Bu
namespace Go.Vc
open Go
abbrev Hp:=Array Obj
abbrev _root_.aN:=Int->Hp->Prop
abbrev _root_.aO:=Bool->Hp->Prop
abbrev _root_.aP:=Hp->Prop
structure Sl where
 a:Option Addr
 len:Nat
 cap:Nat
structure Fv where
 f:Nat
 first:Array Value
 captured:Array Value
inductive CK where
 | i (k:IntKind)|b|p|s|m|str|fn|raw|ag (n:Nat)|ad
 deriving DecidableEq
abbrev _root_.bN:CK:=.i .i64
@[reducible] def lE:Nat->Type
 | 0=>Unit
 | 1=>Int
 | n+2=>Int×lE (n+1)
def lE.vs:(n:Nat)->lE n->List Value
 | 0,_=>[]
 | 1,x=>[.int .i64 x]
 | n+2,x=>.int .i64 x.1::lE.vs (n+1) x.2
@[reducible] def CK.T:CK->Type
 | .i _=>Int
 | .b=>Bool
 | .p=>Option Addr
 | .s=>Sl
 | .m=>Option Nat
 | .str=>ByteArray
 | .fn=>Fv
 | .raw=>Value
 | .ag n=>lE n
 | .ad=>Addr
def CK.v:(c:CK)->c.T->Value
 | .i k,y=>.int k y
 | .b,x=>.bool x
 | .p,y=>.pointer y
 | .s,y=>.slice y.a y.len y.cap
 | .m,y=>.map y
 | .str,x=>.string x
 | .fn,x=>.func (.func x.f) x.first x.captured
 | .raw,y=>y
 | .ag n,y=>.agg (lE.vs n y).toArray
 | .ad,y=>.pointer (some y)
inductive SK where
 | one (c:CK)
 | agg (cs:List CK)
def SK.ks:SK->List CK
 | .one c=>[c]
 | .agg cs=>cs
def jD:List SK->List CK
 | []=>[]
 | s::ss=>s.ks++jD ss
@[reducible] def eT:List CK->Type
 | []=>Hp->Prop
 | c::cs=>c.T->eT cs
@[reducible] def sQ:List CK->Type
 | []=>Hp->Nat
 | c::cs=>c.T->sQ cs
def Sat:(ks:List CK)->eT ks->List Value->Hp->Prop
 | [],R,[],h=>R h
 | c::cs,R,v::vs,h=>∃x:c.T,v=c.v x/\Sat cs (R x) vs h
 | _,_,_,_=>False
def eT.le:(ks:List CK)->eT ks->eT ks->Prop
 | [],R,R'=>∀h,R h->R' h
 | c::cs,R,R'=>∀x:c.T,eT.le cs (R x) (R' x)
def lam:(ks:List CK)->(List Value->Hp->Prop)->eT ks
 | [],K=>K []
 | c::cs,K=>λx=>lam cs λvs=>K (c.v x::vs)
def Bq:(n:Nat)->List Value->(lE n->Prop)->Prop
 | 0,[],K=>K ()
 | 1,[.int .i64 x],K=>K x
 | n+2,.int .i64 x::vs,K=>Bq (n+1) vs λy=>K (x,y)
 | _,_,_=>False
theorem Jl:∀{n:Nat} {vs:List Value} {K:lE n->Prop},Bq n vs K->∃x,vs=lE.vs n x/\K x:=by
 intro n vs K h;unfold Bq at h;split at h
 ·exact⟨(),rfl,h⟩
 ·exact⟨_,rfl,h⟩
 ·obtain⟨y,rfl,a⟩:=Jl h;exact⟨_,rfl,a⟩
 ·exact h.elim
def tN:(c:CK)->Value->(c.T->Prop)->Prop
 | .i k,.int k' n,K=>if k=k' then K n else False
 | .b,.bool x,K=>K x
 | .p,.pointer a,K=>K a
 | .s,.slice a l c,K=>K ⟨a,l,c⟩
 | .m,.map r,K=>K r
 | .str,.string s,K=>K s
 | .fn,.func (.func f) x y,K=>K ⟨f,x,y⟩
 | .raw,v,K=>K v
 | .ag n,.agg cs,K=>Bq n cs.toList K
 | .ad,.pointer (some a),K=>K a
 | _,_,_=>False
def A5:(ks:List CK)->eT ks->List Value->Hp->Prop
 | [],R,[],h=>R h
 | c::cs,R,v::vs,h=>tN c v λx=>A5 cs (R x) vs h
 | _,_,_,_=>False
theorem UI {c:CK}{v:Value}{K:c.T->Prop}(h:tN c v K):∃x,v=c.v x/\K x:=by
 cases c<;>cases v<;>simp only[tN]at h<;>try exact h.elim
 case i.int k k' n=>split at h<;>first|exact h.elim | (rename_i e;subst e;exact⟨n,rfl,h⟩)
 case fn.func f x y=>cases f<;>simp only[tN]at h<;>first|exact h.elim|exact⟨⟨_,x,y⟩,rfl,h⟩
 case b.bool x=>exact⟨x,rfl,h⟩
 case p.pointer a=>exact⟨a,rfl,h⟩
 case s.slice a l c=>exact⟨⟨a,l,c⟩,rfl,h⟩
 case m.map r=>exact⟨r,rfl,h⟩
 case str.string s=>exact⟨s,rfl,h⟩
 case ad.pointer p=>cases p<;>simp only[tN]at h<;>first|exact h.elim|exact⟨_,rfl,h⟩
 case ag.agg n cs=>obtain⟨x,e,d⟩:=Jl h;exact⟨x,by simp only[CK.v,←e],d⟩
 all_goals exact⟨_,rfl,h⟩
theorem Ng:∀(n:Nat) (x:lE n) (K:lE n->Prop),Bq n (lE.vs n x) K=K x
 | 0,_,_=>rfl
 | 1,_,_=>rfl
 | n+2,x,K=>Ng (n+1) x.2 _
theorem WpQ (c:CK)(x:c.T)(K:c.T->Prop):tN c (c.v x) K=K x:=by
 cases c<;>simp[tN,CK.v]
 exact iff_of_eq (Ng _ _ _)
theorem CF:∀{ks:List CK} {R:eT ks} {vs:List Value} {h:Hp},A5 ks R vs h->Sat ks R vs h
 | [],_,[],_,h=>h
 | _::_,_,_::_,_,h=>by
  obtain⟨x,e,hx⟩:=UI h;exact⟨x,e,CF hx⟩
 | [],_,_::_,_,h=>h.elim
 | _::_,_,[],_,h=>h.elim
theorem Sat.mono:∀{ks:List CK} {R R':eT ks},eT.le ks R R'->∀{vs:List Value} {h:Hp},Sat ks R vs h->Sat ks R' vs h
 | [],_,_,hl,[],_,h=>hl _ h
 | _::_,_,_,hl,_::_,_,⟨x,e,h⟩=>⟨x,e,Sat.mono (hl x) h⟩
 | [],_,_,_,_::_,_,h=>h.elim
 | _::_,_,_,_,[],_,h=>h.elim
theorem Hq:∀{ks:List CK} {K:List Value->Hp->Prop} {vs:List Value} {h:Hp},Sat ks (lam ks K) vs h->K vs h
 | [],_,[],_,h=>h
 | _::_,K,v::vs,h,hs=>by
  obtain⟨x,rfl,h'⟩:=hs;exact Hq (K:=λvs=>K (CK.v _ x::vs)) h'
 | [],_,_::_,_,h=>h.elim
 | _::_,_,[],_,h=>h.elim
abbrev Env:=Nat->Option Value
def Env.put (ρ:Env)(d:Nat)(v:Value):Env:=λi=>bif Nat.beq i d then some v else ρ i
def Env.jJ (ρ:Env):Option Nat->Value->Env
 | some d,v=>ρ.put d v
 | none,_=>ρ
def Env.fB (ρ:Env)(ds:List Nat):Env:=λi=>bif ds.contains i then none else ρ i
def ev (ρ:Env):Operand->Option Value
 | .tmp t=>ρ t
 | .const v=>some v
 | .global g=>some (.pointer (some ⟨g,0,none⟩))
 | .func f=>some (.func (.func f) #[] #[])
def wv (o:Option Value)(K:Value->Prop):Prop:=match o with|some v=>K v|none=>False
def vu (ρ:Env):List Operand->Option (List Value)
 | []=>some []
 | o::os=>match ev ρ o,vu ρ os with|some v,some vs=>some (v::vs)|_,_=>none
def cell (h:Hp)(a:Addr):Option Value:=
 match h[a.block]? with
 | some (.cells c _ _)=>if a.spot.isSome then none else c[a.off]?
 | _=>none
def sG (h:Hp)(a:Addr):Bool:=
 match h[a.block]? with
 | some (.cells _ _ (lo,hi))=>lo<=a.off&&a.off<hi
 | _=>false
def nA (h:Hp)(a:Addr)(v:Value):Hp:=
 h.modify a.block fun
  | .cells c elem frozen=>.cells (if a.spot.isSome then c else c.setIfInBounds a.off v) elem frozen
  | o=>o
def fL (k:IntKind)(a:Addr)(h:Hp)(K:Int->Prop):Prop:=∃n,cell h a=some (.int k n)/\K n
def mM (a:Addr)(h:Hp)(K:Bool->Prop):Prop:=∃n,cell h a=some (.bool n)/\K n
def fY (a:Addr)(h:Hp)(K:Option Addr->Prop):Prop:=∃n,cell h a=some (.pointer n)/\K n
def kG (a:Addr)(h:Hp)(K:Sl->Prop):Prop:=∃n:Sl,cell h a=some (.slice n.a n.len n.cap)/\K n
def qc (a:Addr)(h:Hp)(K:Option Nat->Prop):Prop:=∃n,cell h a=some (.map n)/\K n
def Bh (a:Addr)(h:Hp)(K:ByteArray->Prop):Prop:=∃n,cell h a=some (.string n)/\K n
def Ep (a:Addr)(h:Hp)(K:Fv->Prop):Prop:=∃n:Fv,cell h a=some (.func (.func n.f) n.first n.captured)/\K n
def Al (a:Addr)(h:Hp)(K:Value->Prop):Prop:=∃n,cell h a=some n/\K n
def Ps (n:Nat)(a:Addr)(h:Hp)(K:lE n->Prop):Prop:=∃x,cell h a=some (CK.v (.ag n) x)/\K x
def DH (a:Addr)(h:Hp)(K:Addr->Prop):Prop:=∃x,cell h a=some (.pointer (some x))/\K x
def Cu:(c:CK)->Addr->Hp->(c.T->Prop)->Prop
 | .i k,a,h,K=>fL k a h K
 | .b,a,h,K=>mM a h K
 | .p,a,h,K=>fY a h K
 | .s,a,h,K=>kG a h K
 | .m,a,h,K=>qc a h K
 | .str,a,h,K=>Bh a h K
 | .fn,a,h,K=>Ep a h K
 | .raw,a,h,K=>Al a h K
 | .ag n,a,h,K=>Ps n a h K
 | .ad,a,h,K=>DH a h K
def rq:List CK->Addr->Nat->Hp->(List Value->Prop)->Prop
 | [],_,_,_,K=>K []
 | c::cs,a,i,h,K=>Cu c (a.add i) h λx=>rq cs a (i+1) h λvs=>K (c.v x::vs)
def nI (v:Value)(t:TypeId)(vs zs:List Value)(b:Bool):Prop:=match b with
 | true=>v=.iface t (.agg vs.toArray)
 | false=>vs=zs/\(v=.nilIface\/∃t' u,v=.iface t' u/\t'≠t)
def AO (v:Value)(t:TypeId)(zs:List Value):List CK->List Value->(List Value->Bool->Prop)->Prop
 | [],acc,K=>∃b:Bool,nI v t acc zs b/\K acc b
 | c::cs,acc,K=>∃x:c.T,AO v t zs cs (acc++[c.v x]) K
theorem AO.out {v:Value}{t:TypeId}{zs:List Value}:∀{cs:List CK} {acc:List Value} {K:List Value->Bool->Prop},AO v t zs cs acc K->∃vs b,nI v t vs zs b/\K vs b
 | [],acc,K,⟨b,h1,h2⟩=>⟨acc,b,h1,h2⟩
 | c::cs,acc,K,⟨x,h⟩=>AO.out h
def lH (v:Value):Prop:=v=.nilIface\/∃t u,v=.iface t u
def oU:Value->Bool
 | .nilIface=>true
 | _=>false
def O1 (v:Value)(A:Prop):Prop:=match v with
 | .agg _=>False
 | .tuple _=>False
 | _=>A
def CY:List Value->Prop->Prop
 | [],A=>A
 | v::vs,A=>O1 v (CY vs A)
def bQ (p:Option Addr)(K:Addr->Prop):Prop:=∃a,p=some a/\K a
def Ar (k:IntKind)(e:Int)(K:Int->Prop):Prop:=K (k.wrap e)
def Nz (y:Int)(A:Prop):Prop:=y≠0/\A
def Nn (y:Int)(A:Prop):Prop:=0<=y/\A
def Ix (base:Option Addr)(len:Nat)(i:Int)(sz:Nat)(K:Addr->Prop):Prop:=∃a,base=some a/\0<=i/\i<(len:Int)/\K (a.add (i.toNat*sz))
def sF (a:Addr)(len:Nat)(i:Int)(sz:Nat)(K:Addr->Prop):Prop:=0<=i/\i<(len:Int)/\K (a.add (i.toNat*sz))
def MA (s:ByteArray)(i:Int)(K:Int->Prop):Prop:=∃b,0<=i/\s[i.toNat]?=some b/\K (b.toNat:Int)
def If (b:Bool)(A B:Prop):Prop:=match b with
 | true=>A
 | false=>B
theorem If.t {b:Bool}{A B:Prop}(h:If b A B)(e:b=true):A:=by subst e;exact h
theorem If.f {b:Bool}{A B:Prop}(h:If b A B)(e:b=false):B:=by subst e;exact h
theorem If.mk {b:Bool}{A B:Prop}(h1:b=true->A)(h2:b=false->B):If b A B:=by cases b;exact h2 rfl;exact h1 rfl
def Nw (o:Obj)(h:Hp)(K:Addr->Hp->Prop):Prop:=K ⟨h.size,0,none⟩ (h.push o)
def cY (a:Addr)(v:Value)(h:Hp)(K:aP):Prop:=(cell h a).isSome=true/\sG h a=false/\K (nA h a v)
def uu (a:Addr)(h:Hp):List Value->Nat->(Hp->Prop)->Prop
 | [],_,K=>K h
 | v::vs,i,K=>cY (a.add i) v h λh'=>uu a h' vs (i+1) K
def eX (s:Sl)(sz:Nat)(lo hi mx:Int)(K:Sl->Prop):Prop:=
 0<=lo/\lo<=hi/\hi<=mx/\mx<=(s.cap:Int)/\K ⟨if mx.toNat=lo.toNat then s.a else s.a.map (·.add (lo.toNat*sz)),hi.toNat-lo.toNat,mx.toNat-lo.toNat⟩
def dN (h:Hp)(r:Nat)(k:IntKind)(c:CK)(l:List (Int×c.T)):Prop:=
 ∃es clk,h[r]?=some (.map es clk)/\es.toList.map (λe=>(e.key,e.val))=l.map (λx=>(Value.int k x.1,c.v x.2)) ∧
  (l.map (·.1)).Nodup/\(es.toList.map (·.born)).Pairwise (· < ·)/\∀e∈es.toList,e.born<clk
def lA (h:Hp)(m:Option Nat)(k:IntKind)(c:CK)(l:List (Int×c.T)):Prop:=
 match m with
 | none=>l=[]
 | some r=>dN h r k c l
def bW {α:Type}(l:List (Int×α))(n:Int):Option α:=(l.find? λx=>x.1==n).map (·.2)
def dG {α:Type}(l:List (Int×α))(n:Int)(v:α):List (Int×α):=
 if l.any (λx=>x.1==n)then l.map (λx=>if x.1==n then(n,v)else x)else l++[(n,v)]
def cR {α:Type}(l:List (Int×α))(n:Int):List (Int×α):=l.filter λx=>!(x.1==n)
def QJ (h h':Hp)(r:Nat):Prop:=h'.size=h.size/\∀b,b≠r->h'[b]?=h[b]?
def Lk (k:IntKind)(c:CK)(m:Option Nat)(n:Int)(h:Hp)(K:Option c.T->Prop):Prop:=∃l,lA h m k c l/\K (bW l n)
def rF (k:IntKind)(c:CK)(m:Option Nat)(h:Hp)(K:Int->Prop):Prop:=∃l,lA h m k c l/\K (l.length:Int)
def nO (k:IntKind)(c:CK)(m:Option Nat)(n:Int)(x:c.T)(h:Hp)(K:aP):Prop:=
 ∃r l,m=some r/\dN h r k c l/\∀h',QJ h h' r->dN h' r k c (dG l n x)->K h'
def pD (k:IntKind)(c:CK)(m:Option Nat)(n:Int)(h:Hp)(K:aP):Prop:=
 ∃l,lA h m k c l/\∀h',(∀r,m=some r->QJ h h' r)->(m=none->h'=h)->lA h' m k c (cR l n)->K h'
def It (h:Hp)(r:Nat)(k:IntKind)(c:CK)(m:Option Nat)(l todo:List (Int×c.T))(cur:Option (Int×c.T)):Prop:=
 match m with
 | none=>l=[]/\todo=[]/\cur=none/\∃s q y,h[r]?=some (.mapIter none s q y)
 | some b=>∃es clk seen,h[r]?=some (.mapIter (some b) clk seen clk)/\h[b]?=some (.map es clk)/\es.toList.map (λe=>(e.key,e.val))=l.map (λx=>(Value.int k x.1,c.v x.2)) ∧
  (l.map (·.1)).Nodup/\(es.toList.map (·.born)).Pairwise (· < ·)/\(∀e∈es.toList,e.born<clk) ∧
  (es.toList.filter λe=>!seen.contains e.born).map (λe=>(e.key,e.val))=todo.map (λx=>(Value.int k x.1,c.v x.2)) ∧
  (∀x,cur=some x->∃e∈es.toList,seen.back?=some e.born/\e.key=.int k x.1/\e.val=c.v x.2)
def wu (k:IntKind)(c:CK)(m:Option Nat)(h:Hp)(K:Addr->Hp->Prop):Prop:=
 ∃l,lA h m k c l/\∀h',h'.size=h.size+1->(∀b,b<h.size->h'[b]?=h[b]?)->It h' h.size k c m l l none->K ⟨h.size,0,none⟩ h'
def wB (k:IntKind)(c:CK)(a:Addr)(h:Hp)(A:Prop)(B:Int->c.T->Hp->Prop):Prop:=
 a.off=0/\∃m l todo cur,It h a.block k c m l todo cur/\(todo=[]->A) ∧
  ∀n x,(n,x)∈todo->∀h',QJ h h' a.block->It h' a.block k c m l (todo.filter λy=>!(y.1==n)) (some (n,x))->B n x h'
def wo (k:IntKind)(c:CK)(a:Addr)(h:Hp)(K:Int->c.T->Prop):Prop:=
 a.off=0/\∃m l todo n x,It h a.block k c m l todo (some (n,x))/\K n x
def dP:Value->Bool
 | .agg _=>false
 | .tuple _=>false
 | _=>true
def Rd (h:Hp)(a:Option Addr)(xs:List Value):Prop:=
 match a with
 | none=>xs=[]
 | some a=>∀j v,xs[j]?=some v->cell h (a.add j)=some v
def IX (s:Sl)(h:Hp)(K:ByteArray->Prop):Prop:=∃bs:List Int,bs.length=s.len/\Rd h s.a (bs.map (.int .u8))/\K ⟨(bs.map λn=>UInt8.ofNat n.toNat).toArray⟩
def App (s:Sl)(sz bytes:Nat)(e:Nat)(zs:List Value)(x:Sl)(h:Hp)(K:Sl->Hp->Prop):Prop:=
 ∃xs ys,xs.length=s.len*sz/\ys.length=x.len*sz/\Rd h s.a xs/\Rd h x.a ys/\(∀v∈ys,dP v=true)/\(s.len+x.len)*bytes<=2^46/\s.len+x.len<=2^62 ∧
  (s.len+x.len<=s.cap->match s.a with
   | some a=>uu (a.add (s.len*sz)) h ys 0 λh'=>K ⟨s.a,s.len+x.len,s.cap⟩ h'
   | none=>K ⟨none,s.len+x.len,s.cap⟩ h) ∧
  (¬s.len+x.len<=s.cap->∀c,s.len+x.len<=c->Nw (.cells (xs++ys++(List.replicate (c-(s.len+x.len)) zs).flatten).toArray e) h λa h'=>K ⟨some a,s.len+x.len,c⟩ h')
def vB (s:Sl)(sz bytes:Nat)(e:Nat)(zs:List Value)(n:Int)(h:Hp)(K:Sl->Hp->Prop):Prop:=
 0<=n/\∃xs,xs.length=s.len*sz/\Rd h s.a xs/\(∀v∈zs,dP v=true)/\(s.len+n.toNat)*bytes<=2^46/\s.len+n.toNat<=2^62/\(n.toNat:Int)*bytes<=2^46 ∧
  (s.len+n.toNat<=s.cap->match s.a with
   | some a=>uu (a.add (s.len*sz)) h (List.replicate n.toNat zs).flatten 0 λh'=>K ⟨s.a,s.len+n.toNat,s.cap⟩ h'
   | none=>K ⟨none,s.len+n.toNat,s.cap⟩ h) ∧
  (¬s.len+n.toNat<=s.cap->∀c,s.len+n.toNat<=c->Nw (.cells (xs++(List.replicate n.toNat zs).flatten++(List.replicate (c-(s.len+n.toNat)) zs).flatten).toArray e) h λa h'=>K ⟨some a,s.len+n.toNat,c⟩ h')
def wS (d:Sl)(sz:Nat)(s:Sl)(h:Hp)(K:aN):Prop:=
 ∃xs,xs.length=min s.len d.len*sz/\Rd h s.a xs/\(∀v∈xs,dP v=true)/\match d.a with
  | some a=>uu a h xs 0 λh'=>K ((min s.len d.len:Nat):Int) h'
  | none=>K ((min s.len d.len:Nat):Int) h
def DD (s:Sl)(zs:List Value)(h:Hp)(K:aP):Prop:=
 (∀v∈zs,dP v=true)/\match s.a with
  | some a=>uu a h (List.replicate s.len zs).flatten 0 K
  | none=>K h
def Mk (n c:Int)(bytes:Nat)(e:Nat)(zs:List Value)(h:Hp)(K:Sl->Hp->Prop):Prop:=
 0<=n/\n<=c/\(bytes:Int)*c<=2^46/\c<2^62/\Nw (.cells (List.replicate c.toNat zs).flatten.toArray e) h λa h'=>K ⟨some a,n.toNat,c.toNat⟩ h'
def ZQ (w w':World):Prop:=w'.os=w.os/\w'.tape=w.tape/\w'.output=w.output/\w.heap.size<=w'.heap.size
def ue:List SK->List Value->List Value
 | [],_=>[]
 | .one _::ss,v::vs=>v::ue ss vs
 | .one _::ss,[]=>undef::ue ss []
 | .agg cs::ss,vs=>.agg (vs.take cs.length).toArray::ue ss (vs.drop cs.length)
def pack (rs:List SK)(vs:List Value):Value:=
 match ue rs vs with
 | [v]=>v
 | l=>.tuple l.toArray
def We (P:Program)(f:Nat)(args:Array Value)(rs:List SK)(h:Hp)(R:eT (jD rs)):Prop:=
 ∀w:World,w.heap=h->Calls P f args w λe w'=>ZQ w w'/\∃vs,e=.returned (pack rs vs)/\Sat (jD rs) R vs w'.heap
def IT (P:Program)(v:Value)(name:String)(args:List Value)(rs:List SK)(h:Hp)(R:eT (jD rs)):Prop:=
 ∃t u f,v=.iface t u/\(∀w,(method (P.types.size+Made.depth) t u name).run P w=.ok (f,u) w)/\(∀xs w,(callFunc f xs).run P w=.ok (.enter f xs) w)/\We P f (u::args).toArray rs h R
def La (P:Program)(fv:Fv)(args:List Value)(rs:List SK)(h:Hp)(R:eT (jD rs)):Prop:=
 We P fv.f (fv.first++args.toArray++fv.captured) rs h R
abbrev SK.I:SK:=.one bN
abbrev _root_.Go.Value.I (x:Int):Value:=.int .i64 x
def NM:TypeDesc->Option CK
 | .bool=>some .b
 | .int k=>some (.i k)
 | .string=>some .str
 | .pointer _=>some .p
 | .slice _=>some .s
 | .map _ _=>some .m
 | .func _ _ _=>some .fn
 | .interface _=>some .raw
 | _=>none
mutual
def EZ (P:Program):Nat->TypeId->Option (List CK)
 | 0,_=>none
 | n+1,t=>
  match P.underlying t with
  | some (.struct fs)=>MN P n fs.toList
  | some (.array m e)=>(EZ P n e).map λl=>(List.replicate m l).flatten
  | some d=>(NM d).map λc=>[c]
  | none=>none
def MN (P:Program):Nat->List Field->Option (List CK)
 | 0,_=>none
 | _+1,[]=>some []
 | n+1,f::fs=>match EZ P n f.type,MN P n fs with
  | some a,some b=>some (a++b)
  | _,_=>none
end
def PT:SK->SK
 | .agg cs=>bif cs.all (· == .i .i64)then .one (.ag cs.length)else .agg cs
 | s=>s
def UL:TypeDesc->Bool
 | .struct _ | .array _ _=>true
 | _=>false
def mY (P:Program)(t:TypeId):Option SK:=
 match P.underlying t with
 | some d=>bif UL d then(EZ P 24 t).map .agg else(NM d).map .one
 | none=>none
def s8 (P:Program)(t:TypeId):Option SK:=(mY P t).map PT
def gU (b:Bool)(A:Prop):Prop:=match b with|true=>A|false=>False
theorem WK {b:Bool}{A:Prop}:gU b A↔b=true/\A:=by cases b<;>simp[gU]
def uA (op:BinOp)(k:IntKind)(x y:Int)(K:Value->Prop):Prop:=
 match op with
 | .add=>Ar k (x+y) λz=>K (.int k z)
 | .sub=>Ar k (x-y) λz=>K (.int k z)
 | .mul=>Ar k (x*y) λz=>K (.int k z)
 | .quo=>Nz y (Ar k (x.tdiv y) λz=>K (.int k z))
 | .rem=>Nz y (K (.int k (x.tmod y)))
 | .and=>K (.int k (bits .and k x y))
 | .or=>K (.int k (bits .or k x y))
 | .xor=>K (.int k (bits .xor k x y))
 | .andNot=>K (.int k (bits .andNot k x y))
 | .shl=>Nn y (Ar k (x*2^(min y.toNat k.bits)) λz=>K (.int k z))
 | .shr=>Nn y (K (.int k (x.fdiv (2^(min y.toNat k.bits)))))
 | .eql=>K (.bool (x==y))
 | .neq=>K (.bool (x != y))
 | .lss=>K (.bool (decide (x<y)))
 | .leq=>K (.bool (decide (x<=y)))
 | .gtr=>K (.bool (decide (x>y)))
 | .geq=>K (.bool (decide (x≥y)))
def qT (op:BinOp)(b:Bool)(K:Value->Prop):Prop:=
 match op with
 | .eql=>K (.bool b)
 | .neq=>K (.bool (!b))
 | _=>False
def pX (P:Program)(op:BinOp)(t:TypeId)(x y:Value)(K:Value->Prop):Prop:=
 match P.underlying t,x,y with
 | some (.pointer _),.pointer p,.pointer none=>qT op p.isNone K
 | some (.slice _),.slice p _ _,.slice none 0 0=>qT op p.isNone K
 | some (.map _ _),.map p,.map none=>qT op p.isNone K
 | some (.interface _),x,.nilIface=>lH x/\qT op (oU x) K
 | _,_,_=>False
def pW (P:Program)(op:BinOp)(t:TypeId)(x y:Value)(K:Value->Prop):Prop:=
 match x,y with
 | .int k a,.int k' b=>if k=k' then uA op k a b K else(match op with | .shl=>uA .shl k a b K | .shr=>uA .shr k a b K|_=>False)
 | .bool a,.bool b=>match P.underlying t with
  | some .bool=>qT op (a==b) K
  | _=>False
 | .string a,.string b=>match op with
  | .eql=>K (.bool (a.toList==b.toList))
  | .neq=>K (.bool (!(a.toList==b.toList)))
  | _=>False
 | _,_=>False
def tz (P:Program)(xs ys:List Value):List Field->Option Bool
 | []=>some true
 | f::fs=>bif f.name == "_" then none else
  match P.underlying f.type,xs[f.offset]?,ys[f.offset]?,tz P xs ys fs with
  | some (.int _),some (.int k a),some (.int k' b),some r=>if k=k' then some ((a==b)&&r)else none
  | some .bool,some (.bool a),some (.bool b),some r=>some ((a==b)&&r)
  | _,_,_,_=>none
def tO (P:Program)(e:TypeId)(xs ys:List Value):List Nat->Option Bool
 | []=>some true
 | i::is=>match P.underlying e,xs[i]?,ys[i]?,tO P e xs ys is with
  | some (.int _),some (.int k a),some (.int k' b),some r=>if k=k' then some ((a==b)&&r)else none
  | some (.pointer _),some (.pointer p),some (.pointer none),some r=>some (p.isNone&&r)
  | _,_,_,_=>none
def rY (P:Program)(op:BinOp)(t:TypeId)(xs ys:List Value)(K:Value->Prop):Prop:=
 match P.underlying t with
 | some (.struct fs)=>gU (!P.stoodInHeld t && !P.eqGuardType P.depth t) (match tz P xs ys fs.toList with
  | some b=>qT op b K
  | none=>False)
 | some (.array n e)=>gU (!P.eqGuardType P.depth t&&((P.info? e).isSome&&P.cellsOf e==1)) (match tO P e xs ys (List.range n)with
  | some b=>qT op b K
  | none=>False)
 | _=>False
def Ad:Operand->Bool
 | .const (.pointer none)=>true
 | .const (.slice none 0 0)=>true
 | .const (.map none)=>true
 | .const .nilIface=>true
 | _=>false
def Ac (P:Program)(op:BinOp)(t:TypeId)(y:Operand)(vx vy:Value)(K:Value->Prop):Prop:=
 bif Ad y then pX P op t vx vy K else match vx,vy with
 | .agg xs,.agg ys=>rY P op t xs.toList ys.toList K
 | vx,vy=>pW P op t vx vy K
def rW (P:Program)(s f:Nat)(K:Field->Prop):Prop:=
 match P.underlying s with
 | some (.struct fs)=>match fs[f]? with
  | some fd=>K fd
  | none=>False
 | _=>False
def pT (P:Program)(t:TypeId)(x:Value)(h:Hp)(K:Value->Prop):Prop:=
 match P.underlying t,x with
 | some (.slice _),.slice _ n _=>K (.int .i64 (n:Int))
 | some .string,.string s=>K (.int .i64 (s.size:Int))
 | some (.array n _),_=>K (.int .i64 (n:Int))
 | some (.map kt et),.map m=>match P.underlying kt,s8 P et with
  | some (.int k),some (.one c)=>rF k c m h λz=>K (.int .i64 z)
  | _,_=>False
 | _,_=>False
def Cz (P:Program)(t:TypeId)(x i:Value)(ok:Bool)(h:Hp)(K:Value->Prop):Prop:=
 match P.underlying t,x,i with
 | some (.map kt et),.map m,.int k n=>match P.underlying kt,s8 P et,P.info? et with
  | some (.int k'),some (.one c),some ti=>match ti.zero with
   | some z=>if k=k' then tN c z λz=>Lk k c m n h λo=>K (bif ok then .tuple #[c.v (o.getD z),.bool o.isSome]else c.v (o.getD z))else False
   | none=>False
  | _,_,_=>False
 | _,_,_=>False
def sJ (isMax:Bool):Value->List Value->(Value->Prop)->Prop
 | v,[],K=>K v
 | .int k x,.int _ y::vs,K=>sJ isMax (.int k (bif isMax then(if y>x then y else x)else(if y<x then y else x))) vs K
 | _,_,_=>False
def wz (Zx:Nat->Option (Nat×Nat))(cells:List Value):List (Nat×Value)->Option (List Value)
 | []=>some cells
 | (i,v)::rest=>
  match Zx i with
  | none=>none
  | some (off,size)=>
   if v.cells.size≠size\/off+v.cells.size>cells.length then none
   else wz Zx (cells.take off++v.cells.toList++cells.drop (off+size)) rest
def H7 (ρ:Env):List (Nat×Operand)->Option (List (Nat×Value))
 | []=>some []
 | (i,o)::os=>match ev ρ o,H7 ρ os with|some v,some vs=>some ((i,v)::vs)|_,_=>none
def Fb (P:Program)(fs:Array Field)(i:Nat):Option (Nat×Nat):=match fs[i]? with
 | some f=>match P.info? f.type with
  | some ti=>some (f.offset,ti.size)
  | none=>none
 | none=>none
def By (P:Program)(t:TypeId):Bool:=match P.underlying t with
 | some (.interface _)=>true
 | _=>false
def AW (P:Program)(fs:Array Field)(i:Nat):Bool:=match fs[i]? with
 | some f=>By P f.type
 | none=>false
def Ah (raw:Nat->Bool):List (Nat×Value)->List (Nat×Value)
 | []=>[]
 | (i,v)::ps=>(i,bif raw i then .agg #[v]else v)::Ah raw ps
def pO (raw:Nat->Bool):List (Nat×Value)->Prop->Prop
 | [],A=>A
 | (i,v)::ps,A=>bif raw i then lH v/\pO raw ps A else pO raw ps A
def rG (P:Program)(t:TypeId)(ps:List (Nat×Value))(K:Value->Prop):Prop:=
 match P.info? t,P.underlying t with
 | some ti,some (.struct fs)=>match ti.zero with
  | some z=>pO (AW P fs) ps (match wz (Fb P fs) z.cells.toList (Ah (AW P fs) ps)with
   | some cs=>gU (fs.toList.all λf=>(P.info? f.type).isSome) (K (.agg cs.toArray))
   | none=>False)
  | none=>False
 | some ti,some (.array _ e)=>match ti.zero,P.info? e with
  | some z,some te=>match wz (λi=>some (i*te.size,te.size)) z.cells.toList ps with
   | some cs=>K (.agg cs.toArray)
   | none=>False
  | _,_=>False
 | _,_=>False
def y7 (P:Program)(t:TypeId)(cs:List Value)(off:Nat)(K:Value->Prop):Prop:=
 match P.underlying t,P.info? t with
 | some d,some ti=>bif UL d then K (.agg ((cs.drop off).take ti.size).toArray)else wv (cs[off]?) K
 | _,_=>False
def ri (P:Program)(t:TypeId)(x:Value)(lo hi mx:Option Value)(K:Value->Prop):Prop:=
 match P.underlying t,x with
 | some (.slice e),.slice a n c=>match P.info? e with
  | some ti=>
   let loV:Option Int:=match lo with|none=>some 0|some (.int .i64 z)=>some z|_=>none
   let hiV:Option Int:=match hi with|none=>some n|some (.int .i64 z)=>some z|_=>none
   let mxV:Option Int:=match mx,hi with|none,_=>some c|some (.int .i64 z),some _=>some z|_,_=>none
   match loV,hiV,mxV with
   | some l,some h,some m=>eX ⟨a,n,c⟩ ti.size l h m λs=>K (.slice s.a s.len s.cap)
   | _,_,_=>False
  | none=>False
 | _,_=>False
def yP (ρ:Env):Option Operand->Option (Option Value)
 | none=>some none
 | some o=>(ev ρ o).map some
def qK (P:Program)(o:Op)(ρ:Env)(h:Hp)(K:Value->Prop):Prop:=
 match o with
 | .move x=>wv (ev ρ x) K
 | .assign x=>wv (ev ρ x) K
 | .pick c x y=>wv (ev ρ c) λv=>match v with
  | .bool true=>wv (ev ρ x) K
  | .bool false=>wv (ev ρ y) K
  | _=>False
 | .load t a=>wv (ev ρ a) λv=>match v,mY P t with
  | .pointer (some a),some (.one c)=>gU (P.info? t).isSome (Cu c a h λx=>K (c.v x))
  | .pointer (some a),some (.agg cs)=>gU (P.cellsOf t==cs.length) (gU (P.info? t).isSome (rq cs a 0 h λvs=>K (.agg vs.toArray)))
  | _,_=>False
 | .nilCheck x=>wv (ev ρ x) λv=>match v with
  | .pointer p=>bQ p λa=>K (.pointer (some a))
  | .func (.func f) a b=>K (.func (.func f) a b)
  | _=>False
 | .binOp op t x y _=>wv (ev ρ x) λvx=>wv (ev ρ y) λvy=>Ac P op t y vx vy K
 | .unOp op _ x=>wv (ev ρ x) λv=>match op,v with
  | .not,.bool b=>K (.bool (!b))
  | .neg,.int k n=>Ar k (0-n) λz=>K (.int k z)
  | _,_=>False
 | .convert s d x=>wv (ev ρ x) λv=>match P.underlying s,P.underlying d,v with
  | some _,some (.int k),.int _ n=>Ar k n λz=>K (.int k z)
  | some _,some .string,.string x=>K (.string x)
  | some (.slice e),some .string,.slice a n c=>(match P.underlying e with|some (.int .u8)=>IX ⟨a,n,c⟩ h λs=>K (.string s)|_=>False)
  | _,_,_=>False
 | .fieldAddr s x f=>wv (ev ρ x) λv=>rW P s f λfd=>match v with
  | .pointer (some a)=>gU (P.cellsOf fd.type != 0) (K (.pointer (some (a.add fd.offset))))
  | _=>False
 | .field s x f=>wv (ev ρ x) λv=>rW P s f λfd=>match v with
  | .agg cs=>y7 P fd.type cs.toList fd.offset K
  | _=>False
 | .indexAddr t x i=>wv (ev ρ x) λvx=>wv (ev ρ i) λvi=>match P.underlying t,vx,vi with
  | some (.slice e),.slice b n _,.int _ i=>gU (P.info? e).isSome (Ix b n i (P.cellsOf e) λa=>K (.pointer (some a)))
  | some (.array n e),.pointer (some a),.int _ i=>gU (P.info? e).isSome (sF a n i (P.cellsOf e) λa=>K (.pointer (some a)))
  | _,_,_=>False
 | .index t x i=>wv (ev ρ x) λvx=>wv (ev ρ i) λvi=>match P.underlying t,vx,vi with
  | some .string,.string s,.int _ i=>MA s i λz=>K (.int .u8 z)
  | _,_,_=>False
 | .lookup t x i ok=>wv (ev ρ x) λvx=>wv (ev ρ i) λvi=>Cz P t vx vi ok h K
 | .extract t i=>wv (ev ρ t) λv=>match v with
  | .tuple vs=>wv (vs.toList[i]?) K
  | _=>False
 | .makeFunc fn a b=>match vu ρ a.toList,vu ρ b.toList with
  | some va,some vb=>K (.func fn va.toArray vb.toArray)
  | _,_=>False
 | .build t ps=>match H7 ρ ps.toList with
  | some vs=>rG P t vs K
  | none=>False
 | .slice t x lo hi mx=>wv (ev ρ x) λv=>match yP ρ lo,yP ρ hi,yP ρ mx with
  | some lo,some hi,some mx=>ri P t v lo hi mx K
  | _,_,_=>False
 | .makeInterface t x=>wv (ev ρ x) λv=>gU (P.concrete t) (K (.iface t v))
 | .typeAssert x _ t true=>wv (ev ρ x) λv=>match P.underlying t,P.info? t,mY P t with
  | some (.struct _),some ti,some (.agg cs)=>match ti.zero with
   | some (.agg zs)=>AO v t zs.toList cs [] λvs b=>K (.tuple #[.agg vs.toArray,.bool b])
   | _=>False
  | _,_,_=>False
 | .call c=>match c.callee,vu ρ c.args.toList,c.argTypes.toList with
  | .builtin .len,some [x],[t]=>pT P t x h K
  | .builtin .cap,some [.slice _ _ n],[t]=>(match P.underlying t with|some (.slice _)=>K (.int .i64 (n:Int))|_=>False)
  | .builtin .max,some (x::xs),_=>sJ true x xs K
  | .builtin .min,some (x::xs),_=>sJ false x xs K
  | _,_,_=>False
 | _=>False
def wK:Op->Bool
 | .move _ | .assign _ | .pick .. | .load _ _ | .nilCheck _ | .binOp .. | .unOp .. | .convert .. | .fieldAddr .. | .field .. | .indexAddr .. | .index .. | .lookup .. | .extract .. | .makeFunc .. | .build .. | .slice .. | .makeInterface .. => true
 | .typeAssert _ _ _ ok=>ok
 | .call c=>match c.callee with | .builtin .len | .builtin .cap | .builtin .max | .builtin .min=>true|_=>false
 | _=>false
theorem V9 {P:Program}{t:Nat}{i:TypeInfo}(hi:P.info? t=some i)(w:World):(typeInfo t).run P w=.ok i w:=by
 simp[typeInfo,hi]
theorem Q3 {P:Program}{t:Nat}(h:(P.info? t).isSome=true)(w:World):(sizeOf t).run P w=.ok (P.cellsOf t) w:=by
 obtain⟨i,a⟩:=tf.1 h;simp[sizeOf,typeInfo,a,Program.cellsOf]
theorem VP {P:Program}{t:Nat}{i:TypeInfo}{z:Value}(hi:P.info? t=some i)(hz:i.zero=some z)(w:World):(zeroValue t).run P w=.ok z w:=by
 simp[zeroValue,typeInfo,hi,hz]
theorem T4 {P:Program}{op:BinOp}{t:Nat}{k:IntKind}{x y:Int}{K:Value->Prop}(h:uA op k x y K)(w:World) :
 ∃v,(binOp op t (.int k x) (.int k y)).run P w=.ok v w/\K v:=by
 cases op<;>simp only[uA,Ar,Nz,Nn]at h
 all_goals first
  | (refine⟨_,?_,h⟩;simp[binOp,Op.intArith,Op.intCmp,Op.intBits,bits];done)
  | (obtain⟨b,a⟩:=h;refine⟨_,?_,a⟩;simp[binOp,Op.intDiv,b];done)
  | (obtain⟨b,a⟩:=h;refine⟨_,?_,a⟩;simp[binOp,Op.shift,Int.not_lt.2 b];done)
theorem UJ {P:Program}{op:BinOp}{t:Nat}{x y:Value}{b:Bool}{K:Value->Prop}(h:qT op b K)(w:World)
 (hb:∀op,(op=.eql\/op=.neq)->binOp op t x y=if op=.eql then(do pure (.bool (←Op.equal t x y)))else(do pure (.bool (!(←Op.equal t x y)))))
 (he:(Op.equal t x y).run P w=.ok b w):∃v,(binOp op t x y).run P w=.ok v w/\K v:=by
 cases op<;>simp only[qT]at h
 case eql=>exact⟨_,by rw[hb .eql (.inl rfl)];simp[he],h⟩
 case neq=>exact⟨_,by rw[hb .neq (.inr rfl)];simp[he],h⟩
theorem MO {P:Program}{t e:Nat}(hu:P.underlying t=some (.pointer e))(p:Option Addr)(d:Nat)(w:World):(Op.equalIn (d+1) t (.pointer p) (.pointer none)).run P w=.ok p.isNone w:=by
 cases p<;>simp[Op.equalIn,run_underlying hu]
theorem S7 {P:Program}{t e:Nat}(hu:P.underlying t=some (.slice e))(p:Option Addr)(n c d:Nat)(w:World):(Op.equalIn (d+1) t (.slice p n c) (.slice none 0 0)).run P w=.ok p.isNone w:=by
 cases p<;>simp[Op.equalIn,run_underlying hu]
theorem Wmd {P:Program}{t k e:Nat}(hu:P.underlying t=some (.map k e))(p:Option Nat)(d:Nat)(w:World):(Op.equalIn (d+1) t (.map p) (.map none)).run P w=.ok p.isNone w:=by
 cases p<;>simp[Op.equalIn,run_underlying hu]
theorem WiV {P:Program}{t:Nat}(hu:P.underlying t=some .bool)(a b:Bool)(d:Nat)(w:World):(Op.equalIn (d+1) t (.bool a) (.bool b)).run P w=.ok (a==b) w:=by
 simp[Op.equalIn,run_underlying hu]
theorem Wn5 {P:Program}{w:World}{s:Sl}{K:ByteArray->Prop}(h:IX s w.heap K):∃b,(Conv.bytesToString (.slice s.a s.len s.cap)).run P w=.ok (.string b) w/\K b:=by
 obtain⟨g,p,d,i⟩:=h;refine⟨_,?_,i⟩;cases hs:s.a with
 | none=>
  rw[hs]at d;simp only[Rd,Df]at d;subst d;simp[Conv.bytesToString];rfl
 | some a=>
  rw[hs]at d;have e:(loadCells a s.len).run P w=.ok (g.map (Value.int .u8)).toArray w:=by
   rw[←p];simpa using run_loadCells_list (P:=P) (w:=w) a (g.map (Value.int .u8)) (λj v m=>d j v m)
  have key:∀(l:List Int) (acc:ByteArray),List.foldl (λb a=>b.push (UInt8.ofNat a.toNat)) acc l=⟨acc.data++(l.map λn=>UInt8.ofNat n.toNat).toArray⟩:=by
   intro l
   induction l with
   | nil=>intro acc;simp
   | cons n l ih=>intro acc;rw[oE,ih];congr 1;apply Array.ext';simp[ByteArray.push]
  simp only[Conv.bytesToString,Sem.run_bind,e,Result.andThen_ok];simp[key]
theorem WgR {P:Program}{t:Nat}{ms:Array (String×TypeId)}(hu:P.underlying t=some (.interface ms)){v:Value}(hv:lH v)(d:Nat)(w:World):(Op.equalIn (d+1) t v .nilIface).run P w=.ok (oU v) w:=by
 rcases hv with rfl|⟨t',u,rfl⟩
 ·simp[Op.equalIn,run_underlying hu,oU]
 ·simp[Op.equalIn,run_underlying hu,oU]
theorem WmM {P:Program}{xt t:TypeId}{ti:TypeInfo}{fs:Array Field}{v:Value}{vs zs:List Value}{b:Bool}(hu:P.underlying t=some (.struct fs))(hi:P.info? t=some ti)(hz:ti.zero=some (.agg zs.toArray))
 (h:nI v t vs zs b) (w:World) :
 (Instr.typeAssert v xt t true).run P w=.ok (.tuple #[.agg vs.toArray,.bool b]) w:=by
 have a:=VP hi hz w;cases b with
 | true=>
  simp only[nI]at h;subst h;simp[Instr.typeAssert,run_underlying hu]
 | false=>
  simp only[nI]at h;obtain⟨rfl,h⟩:=h;rcases h with rfl|⟨t',u,rfl,hne⟩
  ·simp[Instr.typeAssert,run_underlying hu,a]
  ·simp[Instr.typeAssert,run_underlying hu,hne,a]
theorem Whn {P:Program}{op:BinOp}{t:Nat}{x y:Value}{K:Value->Prop}(h:pX P op t x y K)(w:World) :
 ∃v,(binOp op t x y).run P w=.ok v w/\K v:=by
 unfold pX at h;split at h
 case h_1 e p hu=>
  refine UJ h w ?_ ?_
  ·rintro op (rfl|rfl)<;>simp[binOp]
  ·exact MO hu p 9999 w
 case h_2 e p _ _ hu=>
  refine UJ h w ?_ ?_
  ·rintro op (rfl|rfl)<;>simp[binOp]
  ·exact S7 hu p _ _ 9999 w
 case h_3 e e' p hu=>
  refine UJ h w ?_ ?_
  ·rintro op (rfl|rfl)<;>simp[binOp]
  ·exact Wmd hu p 9999 w
 case h_4 ms hu=>
  obtain⟨a,h⟩:=h;refine UJ h w ?_ ?_
  ·rcases a with rfl|⟨t',u,rfl⟩<;>rintro op (rfl|rfl)<;>simp[binOp]
  ·exact WgR hu a 9999 w
 ·exact h.elim
theorem TZ {P:Program}{op:BinOp}{t:Nat}{x y:Value}{K:Value->Prop}(h:pW P op t x y K)(w:World) :
 ∃v,(binOp op t x y).run P w=.ok v w/\K v:=by
 unfold pW at h;split at h
 case h_1 k a k' b=>
  split at h
  ·rename_i e;subst e;exact T4 h w
  ·cases op<;>simp only at h
   case shl=>simp only[uA,Ar,Nn]at h;obtain⟨g,d⟩:=h;exact⟨_,by simp[binOp,Op.shift,Int.not_lt.2 g],d⟩
   case shr=>simp only[uA,Ar,Nn]at h;obtain⟨g,d⟩:=h;exact⟨_,by simp[binOp,Op.shift,Int.not_lt.2 g],d⟩
 case h_2 a b=>
  split at h
  ·rename_i hu;refine UJ h w ?_ ?_
   ·rintro op (rfl|rfl)<;>simp[binOp]
   ·exact WiV hu a b 9999 w
  ·exact h.elim
 case h_3 a b=>
  cases op<;>simp only at h
  ·exact⟨_,rfl,h⟩
  ·exact⟨_,rfl,h⟩
 ·exact h.elim
theorem EA {c:CK}{a:Addr}{h:Hp}{K:c.T->Prop}(hl:Cu c a h K):∃x,cell h a=some (c.v x)/\K x:=by
 cases c<;>exact hl
theorem IJ {P:Program}{w:World}{a:Addr}{v:Value}(h:cell w.heap a=some v):(load a).run P w=.ok v w:=by
 have:w.cell? a=some v:=h;simp[this]
theorem Ip {P:Program}{w:World}:∀{cs:List CK} {a:Addr} {i:Nat} {K:List Value->Prop},rq cs a i w.heap K →
 ∃vs,vs.length=cs.length/\K vs/\∀acc,(loadCellsFrom a i cs.length acc).run P w=.ok (acc++vs.toArray) w
 | [],a,i,K,h=>⟨[],rfl,h,λacc=>by simp[loadCellsFrom]⟩
 | c::cs,a,i,K,h=>by
  obtain⟨x,hx,hK⟩:=EA h;obtain⟨vs,e,b,d⟩:=Ip (P:=P) hK;refine⟨c.v x::vs,by simp[e],b,λacc=>?_⟩;simp only[zN,loadCellsFrom,Sem.run_bind,IJ hx,Result.andThen_ok,d]
  congr 1
  apply Array.ext';simp
theorem KX {P:Program}{t:Nat}{d:TypeDesc}(h:P.underlying t=some d)(w:World):(isAgg t).run P w=.ok (UL d) w:=by
 simp only[isAgg,Sem.run_bind,run_underlying h,Result.andThen_ok];cases d<;>rfl
theorem Mg {P:Program}{t:Nat}{c:CK}(h:mY P t=some (.one c)):∃d,P.underlying t=some d/\UL d=false:=by
 unfold mY at h;split at h
 ·rename_i d hd;refine⟨d,hd,?_⟩;cases e:UL d
  ·rfl
  ·rw[e]at h;simp at h
 ·cases h
theorem N6 {P:Program}{t:Nat}{c:List CK}(h:mY P t=some (.agg c)):∃d,P.underlying t=some d/\UL d=true:=by
 unfold mY at h;split at h
 ·rename_i d hd;refine⟨d,hd,?_⟩;cases e:UL d
  ·rw[e]at h;simp at h
  ·rfl
 ·cases h
theorem Wg4 {P:Program}{t ty:Nat}{x:Value}{K:Value->Prop}{w:World}(h:pT P t x w.heap K) :
 ∃v,(Builtin.len_ #[t] ty #[x]).run P w=.ok v w/\K v:=by
 unfold pT at h;split at h
 case h_1 e a n c hu=>exact⟨_,by simp[Builtin.len_,run_underlying hu,goInt],h⟩
 case h_2 s hu=>exact⟨_,by simp[Builtin.len_,run_underlying hu,goInt],h⟩
 case h_3 n e y hu=>exact⟨_,by simp[Builtin.len_,run_underlying hu,goInt],h⟩
 case h_4 kt et m hu=>
  split at h
  case h_1 k c hk hs=>
   obtain⟨l,d,g⟩:=h;cases m with
   | none=>simp only[lA]at d;subst d;exact⟨_,by simp[Builtin.len_,run_underlying hu,goInt],g⟩
   | some r=>
    obtain⟨j,u,i,p,_⟩:=d;have b:j.size=l.length:=by simpa using congrArg List.length p
    refine⟨_,?_,g⟩;simp[Builtin.len_,run_underlying hu,goInt,getObj,Sem.run,i,b]
  ·exact h.elim
 ·exact h.elim
theorem Fh {P:Program}{w:World}:∀{vs:List Value} {v:Value} {b:Bool} {K:Value->Prop},sJ b v vs K →
 ∃z,(vs.foldlM (if b then Builtin.max2 else Builtin.min2) v).run P w=.ok z w/\K z
 | [],v,b,K,h=>⟨v,by simp,by simpa[sJ]using h⟩
 | u::vs,v,b,K,h=>by
  cases v<;>cases u<;>simp only[sJ]at h<;>try exact h.elim
  case int.int k x k' y=>
   obtain⟨z,hz,hK⟩:=Fh h;refine⟨z,?_,hK⟩;cases b
   ·simpa[Builtin.min2]using hz
   ·simpa[Builtin.max2]using hz
theorem Z4 {ρ:Env}{a:Act}(hf:∀x v,ev ρ x=some v->a.eval x=v):∀{os:List Operand} {vs:List Value},vu ρ os=some vs->os.map a.eval=vs
 | [],vs,h=>by simp[vu]at h;simp[h]
 | o::os,vs,h=>by
  simp only[vu]at h;split at h
  ·rename_i v vs' h1 h2;cases h;simp[hf _ _ h1,Z4 hf h2]
  ·cases h
theorem Un {ρ:Env}{a:Act}(hf:∀x v,ev ρ x=some v->a.eval x=v):∀{os:List (Nat×Operand)} {vs:List (Nat×Value)},H7 ρ os=some vs->os.map (λ(i,x)=>(i,a.eval x))=vs
 | [],vs,h=>by simp[H7]at h;simp[h]
 | (i,o)::os,vs,h=>by
  simp only[H7]at h;split at h
  ·rename_i v vs' h1 h2;cases h;simp[hf _ _ h1,Un hf h2]
  ·cases h
theorem GR {k:IntKind}{n:Int}{c:CK}:∀(es:List MapEntry) (l:List (Int×c.T)) (i:Nat),
 es.map (λe=>(e.key,e.val))=l.map (λx=>(Value.int k x.1,c.v x.2)) →
 Instr.findNow (.int k) (.int k n) es i=some (match l.findIdx? (λx=>x.1==n)with|some j=>some (i+j,match l[j]? with|some x=>c.v x.2|none=>undef)|none=>none)
 | [],l,i,h=>by
  cases l with
  | nil=>simp[Instr.findNow]
  | cons x l=>simp at h
 | e::es,[],i,h=>by simp at h
 | e::es,x::l,i,h=>by
  simp only[zH,List.cons.injEq,Prod.mk.injEq]at h;obtain⟨⟨h1,h2⟩,h3⟩:=h;have d:=GR (n:=n) es l (i+1) h3;simp only[Instr.findNow,h1,Instr.sameNow,zW];by_cases hx:n=x.1
  ·have b:(n==x.1)=true:=by simpa using hx
   have a:(x.1==n)=true:=by simpa using hx.symm
   simp[Bb,b,a,h2]
  ·have b:(n==x.1)=false:=by simpa using hx
   have a:(x.1==n)=false:=by simpa using λh=>hx h.symm
   simp only[b,d,Bb,a];cases List.findIdx? (λx=>x.1==n) l with
   | none=>simp
   | some j=>simp;omega
theorem KG {P:Program}{kt:Nat}{k:IntKind}(hk:P.underlying kt=some (.int k)){n:Int}{c:CK}{es:List MapEntry}{l:List (Int×c.T)}
 (he:es.map (λe=>(e.key,e.val))=l.map (λx=>(Value.int k x.1,c.v x.2))) (w:World) :
 (Instr.findKey kt (.int k n) es).run P w=.ok (match l.findIdx? (λx=>x.1==n)with|some j=>some (j,match l[j]? with|some x=>c.v x.2|none=>undef)|none=>none) w:=by
 simp[Instr.findKey,run_underlying hk,GR es l 0 he]
theorem WcJ {P:Program}{kt:Nat}{k:IntKind}(hk:P.underlying kt=some (.int k))(b:Bool)(n:Int)(d:Nat)(w:World) :
 (Instr.checkKey b (d+1) kt (.int k n)).run P w=.ok () w:=by
 simp[Instr.checkKey,run_underlying hk]
theorem QU {P:Program}{kt:Nat}{k:IntKind}(hk:P.underlying kt=some (.int k))(b:Bool)(n:Int)(w:World) :
 (Instr.checkKey b 10000 kt (.int k n)).run P w=.ok () w:=WcJ hk b n 9999 w
theorem Β {α:Type}(l:List (Int×α))(n:Int):bW l n=(l.findIdx? (λx=>x.1==n)).bind λj=>(l[j]?).map (·.2):=by
 induction l with
 | nil=>rfl
 | cons x l ih=>
  simp only[bW,yK,Bb]at *;cases h:x.1==n
  ·simp only[ih];cases List.findIdx? (λx=>x.1==n) l<;>simp
  ·simp
theorem UH {α:Type}{l:List (Int×α)}{n:Int}{j:Nat}(h:l.findIdx? (λx=>x.1==n)=some j):∃x,l[j]?=some x/\x.1=n:=by
 rw[rJ]at h;obtain⟨a,b,_⟩:=h;exact⟨l[j],by simp[a],by simpa using b⟩
theorem θ {P:Program}{t:Nat}{x i:Value}{ok:Bool}{K:Value->Prop}{w:World}(h:Cz P t x i ok w.heap K) :
 ∃v,(Instr.lookup t x i ok).run P w=.ok v w/\K v:=by
 unfold Cz at h;split at h
 case h_2=>exact h.elim
 rename_i kt et m k n hu;split at h
 case h_2=>exact h.elim
 rename_i k' c ti hk hs hi;split at h
 case h_2=>exact h.elim
 rename_i z hz;split at h
 case isFalse=>exact h.elim
 rename_i e;subst e;obtain⟨B,a,l,b,g⟩:=UI h;refine⟨_,?_,g⟩;cases m with
 | none=>
  simp only[lA]at b;subst b;simp only[Instr.lookup,Sem.run_bind,run_underlying hu,Result.andThen_ok,Sem.run_pure,QU hk,KG (c:=c) (l:=[]) hk (rfl:List.map _ (#[]:Array MapEntry).toList=_),List.findIdx?_nil,VP hi hz];cases ok<;>simp[bW,a]
 | some r=>
  obtain⟨A,s,d,p,_⟩:=b;simp only[Instr.lookup,Sem.run_bind,run_underlying hu,Result.andThen_ok,Sem.run_pure,QU hk,getObj,Sem.run,d,KG hk p,Β];cases hf:l.findIdx? (λx=>x.1==n)with
  | none=>cases ok<;>simp[VP hi hz,a]
  | some j=>
   obtain⟨y,u,_⟩:=UH hf;cases ok<;>simp[u]
theorem MH (off:Nat):∀(vs:List Value) (k:Nat) (cs:Array Value),off+k+vs.length<=cs.size →
 ((vs.zipIdx k).foldl (λcs (c,j)=>cs.setIfInBounds (off+j) c) cs).toList=cs.toList.take (off+k)++vs++cs.toList.drop (off+k+vs.length)
 | [],k,cs,h=>by simp
 | v::vs,k,cs,h=>by
  simp only[List.zipIdx_cons,oE];rw[MH off vs (k+1) _ (by simp only[Array.size_setIfInBounds,zN]at *;omega)];simp only[zN]at h;have hlt:off+k<cs.toList.length:=by simp;omega
  simp only[Array.toList_setIfInBounds,zN];apply lX;intro m;simp only[List.getElem?_append,zP,sx,zK,zb,sj,zq,List.getElem?_cons,zN]
  grind
theorem UR (Zx:Nat->Option (Nat×Nat)):∀(ps:List (Nat×Value)) (cells:List Value) (cs:List Value),wz Zx cells ps=some cs->Instr.fill Zx cells.toArray ps=some cs.toArray
 | [],cells,cs,h=>by simp[wz]at h;simp[Instr.fill,h]
 | (i,v)::rest,cells,cs,h=>by
  simp only[wz]at h;simp only[Instr.fill];cases hp:Zx i with
  | none=>rw[hp]at h;cases h
  | some os=>
   obtain⟨off,size⟩:=os;rw[hp]at h;simp only at h ⊢;split at h
   ·cases h
   ·rename_i hc;simp only[not_or,Decidable.not_not,Nat.not_lt]at hc;obtain⟨a,b⟩:=hc;rw[zA (by simp[a];omega)];have:=MH off v.cells.toList 0 cells.toArray aE;have e:(v.cells.zipIdx.foldl (λcs (c,j)=>cs.setIfInBounds (off+j) c) cells.toArray)=(cells.take off++v.cells.toList++cells.drop (off+size)).toArray:=by
     apply Array.ext';rw[←Array.foldl_toList,Array.toList_zipIdx,this];simp[a]
    rw[e];exact UR Zx rest _ _ h
theorem NW {P:Program}{w:World}:∀(fs:List Field),(fs.all λf=>(P.info? f.type).isSome)=true →
 (fs.mapM λf=>(do pure (f.offset,←sizeOf f.type):Sem (Nat×Nat))).run P w=.ok (fs.map λf=>(f.offset,P.cellsOf f.type)) w
 | [],_=>by simp
 | f::fs,h=>by
  simp only[yh,zG]at h;have ih:=NW (P:=P) (w:=w) fs h.2;simp only[List.mapM_cons,Sem.run_bind,Q3 h.1,Result.andThen_ok,Sem.run_pure,ih,zH]
theorem FT {raw:Nat->Bool}:∀{ps:List (Nat×Value)} {A:Prop},pO raw ps A->A/\∀Zx cells,Instr.fill Zx cells (Ah raw ps)=Instr.fill Zx cells ps
 | [],A,h=>⟨h,λ_ _=>rfl⟩
 | (i,v)::ps,A,h=>by
  simp only[pO]at h;cases hr:raw i
  ·rw[hr]at h;obtain⟨hA,ih⟩:=FT h;exact⟨hA,λZx cells=>by simp only[Ah,Instr.fill,ih,hr,cond_false]⟩
  ·rw[hr]at h;simp only[cond_true]at h;obtain⟨hA,ih⟩:=FT h.2;have e:(Value.agg #[v]).cells=v.cells:=by
    rcases h.1 with rfl|⟨t,u,rfl⟩<;>rfl
   exact⟨hA,λZx cells=>by simp only[Ah,Instr.fill,ih,hr,cond_true,e]⟩
theorem PB {P:Program}{t:Nat}{ps:Array (Nat×Value)}{K:Value->Prop}{w:World}(h:rG P t ps.toList K) :
 ∃v,(Instr.build t ps).run P w=.ok v w/\K v:=by
 unfold rG at h;split at h
 case h_1 p fs hi hu=>
  split at h
  case h_2=>exact h.elim
  rename_i z hz;obtain⟨h,g⟩:=FT h;split at h
  case h_2=>exact h.elim
  rename_i cs hf;rw[WK]at h;obtain⟨a,r⟩:=h;refine⟨_,?_,r⟩;have x:=NW (P:=P) (w:=w) fs.toList a;have j:(fs.mapM λf=>(do pure (f.offset,←sizeOf f.type):Sem (Nat×Nat))).run P w=.ok (fs.map λf=>(f.offset,P.cellsOf f.type)) w:=by
   rw[Array.mapM_eq_mapM_toList];simp only[Sem.run_map,x,Result.andThen_ok]
   congr 1
   apply Array.ext';simp
  have d:(λi=>(fs.map λf=>(f.offset,P.cellsOf f.type))[i]?)=Fb P fs:=by
   funext i
   simp only[Fb,Array.getElem?_map];cases hfi:fs[i]? with
   | none=>simp
   | some f=>
    have b:f∈fs.toList:=by
     have:=Iz hfi;simpa using this
    have:=nD.1 a f b;obtain⟨p,m⟩:=tf.1 this;simp[m,Program.cellsOf]
  have:=UR _ _ _ _ hf;rw[g]at this;simp only[Instr.build,Sem.run_bind,VP hi hz,Result.andThen_ok,run_underlying hu,j,d];have e:z.cells.toList.toArray=z.cells:=by simp
  rw[e]at this;simp[this]
 case h_2 p n e hi hu=>
  split at h
  case h_2=>exact h.elim
  rename_i z te hz hte;split at h
  case h_2=>exact h.elim
  rename_i cs hf;refine⟨_,?_,h⟩;have:=UR _ _ _ _ hf;have s:z.cells.toList.toArray=z.cells:=by simp
  rw[s]at this;have u:(sizeOf e).run P w=.ok te.size w:=by simp[sizeOf,V9 hte]
  simp only[Instr.build,Sem.run_bind,VP hi hz,Result.andThen_ok,run_underlying hu,u];simp[this]
 ·exact h.elim
theorem Wq {o:Option Value}{K:Value->Prop}(h:wv o K):∃v,o=some v/\K v:=by
 cases o with
 | none=>exact h.elim
 | some v=>exact⟨v,rfl,h⟩
theorem Sc {P:Program}{t off:Nat}{cs:Array Value}{K:Value->Prop}{w:World}(h:y7 P t cs.toList off K) :
 ∃v,(part t cs off).run P w=.ok v w/\K v:=by
 unfold y7 at h;split at h
 case h_2=>exact h.elim
 rename_i d ti hu hi;cases hd:UL d
 ·rw[hd]at h;obtain⟨v,a,b⟩:=Wq h;refine⟨v,?_,b⟩;have:cs[off]?=some v:=by simpa using a
  simp[part,KX hu,hd,this]
 ·rw[hd]at h;refine⟨_,?_,h⟩;simp only[part,Sem.run_bind,KX hu,hd,Result.andThen_ok,sizeOf,V9 hi,zW,Sem.run_pure]
  congr 2
  apply Array.ext';simp
theorem Kr {P:Program}{w:World}{z:Int}{y:Nat}{code:BoundsCode}(h0:0<=z)(h1:z<=y):(Instr.sliceBound (.int .i64 z) y code).run P w=.ok z.toNat w:=by
 simp[Instr.sliceBound,asIntOf,h0,h1]
theorem LN {o:Option Value}{d l:Int}(h:(match o with|none=>some d|some (.int .i64 z)=>some z|_=>none)=some l):(o=none/\l=d)\/o=some (.int .i64 l):=by
 split at h
 ·simp at h;exact .inl ⟨rfl,h.symm⟩
 ·simp at h;subst h;exact .inr rfl
 ·cases h
theorem Sn {P:Program}{t:Nat}{x:Value}{lo hi mx:Option Value}{K:Value->Prop}{w:World}(h:ri P t x lo hi mx K) :
 ∃v,(Instr.sliceAt t x lo hi mx).run P w=.ok v w/\K v:=by
 unfold ri at h;split at h
 case h_2=>exact h.elim
 rename_i e a n c hu;split at h
 case h_2=>exact h.elim
 rename_i ti hi';simp only at h;split at h
 case h_2=>exact h.elim
 rename_i l hh m hlo hhi hmx;obtain⟨p,A,u,j,g⟩:=h;refine⟨_,?_,g⟩;simp only at j;have b:(sizeOf e).run P w=.ok ti.size w:=by simp[sizeOf,V9 hi']
 have i:(Instr.sliceBounds true n c lo hi mx).run P w=.ok (l.toNat,hh.toNat,m.toNat) w:=by
  have r:(mx=none/\m=c)\/(mx=some (.int .i64 m)/\hi≠none):=by
   split at hmx
   ·simp at hmx;exact .inl ⟨rfl,hmx.symm⟩
   ·simp at hmx;subst hmx;exact .inr ⟨rfl,by simp⟩
   ·cases hmx
  have s:=LN hlo;have d:=LN hhi;clear hlo hhi hmx;rcases r with⟨rfl,rfl⟩|⟨rfl,hne⟩<;>rcases d with⟨rfl,rfl⟩|rfl
  case inr.inl=>exact absurd rfl hne
  all_goals rcases s with⟨rfl,rfl⟩|rfl
  ·simp[Instr.sliceBounds]
  ·have:=Kr (P:=P) (w:=w) (z:=l) (y:=n) (code:=.sliceB) p O;simp[Instr.sliceBounds,this]
  ·have:=Kr (P:=P) (w:=w) (z:=hh) (y:=c) (code:=.sliceAcap) O O;simp[Instr.sliceBounds,this]
  ·have:=Kr (P:=P) (w:=w) (z:=hh) (y:=c) (code:=.sliceAcap) O O;have:=Kr (P:=P) (w:=w) (z:=l) (y:=hh.toNat) (code:=.sliceB) O O;simp[Instr.sliceBounds, *]
  ·have:=Kr (P:=P) (w:=w) (z:=m) (y:=c) (code:=.slice3Acap) O O;have:=Kr (P:=P) (w:=w) (z:=hh) (y:=m.toNat) (code:=.slice3B) O O;simp[Instr.sliceBounds, *]
  ·have:=Kr (P:=P) (w:=w) (z:=m) (y:=c) (code:=.slice3Acap) O O;have:=Kr (P:=P) (w:=w) (z:=hh) (y:=m.toNat) (code:=.slice3B) O O;have:=Kr (P:=P) (w:=w) (z:=l) (y:=hh.toNat) (code:=.slice3C) O O;simp[Instr.sliceBounds, *]
 simp only[Instr.sliceAt,Instr.slice,Sem.run_bind,run_underlying hu,Result.andThen_ok,i,b,Sem.run_pure]
theorem WeF {P:Program}{op:BinOp}{t:Nat}{x y:Operand}{a b:Value}(w:World)(h:(∀cs,a≠.agg cs)/\a≠.nilIface):(eqGuard op t x y a b).run P w=.ok () w:=by
 unfold eqGuard;cases op<;>simp
 all_goals (cases a<;>first|rfl | (simp at h))
theorem RV {P:Program}{op:BinOp}{t:Nat}{x y:Value}{K:Value->Prop}(h:pW P op t x y K):(∀cs,x≠.agg cs)/\x≠.nilIface:=by
 unfold pW at h;split at h<;>first|exact absurd h id | (constructor<;>simp)
theorem RD {P:Program}{op:BinOp}{t:Nat}{x y:Value}{K:Value->Prop}(h:pX P op t x y K):∀cs,x≠.agg cs:=by
 unfold pX at h;split at h
 case h_4=>rcases h.1 with rfl|⟨t',u,rfl⟩<;>simp
 all_goals first|exact absurd h id|simp
theorem RB {P:Program}{op:BinOp}{t:Nat}{x:Operand}{c:Value}{a b:Value}(w:World)(h:∀cs,a≠.agg cs):(eqGuard op t x (.const c) a b).run P w=.ok () w:=by
 unfold eqGuard;cases op<;>simp
 all_goals (cases a<;>first|rfl|exact absurd rfl (h _) | (cases b<;>simp))
theorem TM {y:Operand}(h:Ad y=true):∃c,y=.const c:=by
 unfold Ad at h;split at h<;>first|exact⟨_,rfl⟩|cases h
theorem Dd {P:Program}{s f:Nat}{K:Field->Prop}(h:rW P s f K):∃fs fd,P.underlying s=some (.struct fs)/\fs[f]?=some fd/\K fd:=by
 unfold rW at h;split at h
 ·split at h
  ·exact⟨_,_,by assumption,by assumption,h⟩
  ·exact h.elim
 ·exact h.elim
theorem Wdp {P:Program}{t:Nat}(h:P.cellsOf t≠0):(P.info? t).isSome=true:=by
 unfold Program.cellsOf at h;cases hi:P.info? t with
 | none=>rw[hi]at h;simp at h
 | some i=>rfl
theorem ES {ρ:Env}{a:Act}(hf:∀x v,ev ρ x=some v->a.eval x=v){o:Option Operand}{v:Option Value}(h:yP ρ o=some v):o.map a.eval=v:=by
 cases o with
 | none=>simp[yP]at h;simp[h]
 | some o=>
  simp only[yP,uK]at h;obtain⟨u,b,rfl⟩:=h;simp[hf _ _ b]
theorem VN {P:Program}{t:Nat}{d:TypeDesc}{cs:Array Value}{off:Nat}{v:Value}{w:World}(hd:P.underlying t=some d)(hag:UL d=false)(h:cs.toList[off]?=some v):(part t cs off).run P w=.ok v w:=by
 have a:cs[off]?=some v:=by simpa using h
 simp[part,KX hd,hag,a]
theorem Fa {P:Program}{xs ys:Array Value}(d:Nat):∀(fs:List Field) (b:Bool),tz P xs.toList ys.toList fs=some b->∀w,(Op.eqFields (d+1) xs ys fs).run P w=.ok b w
 | [],b,h,w=>by simp[tz]at h;subst h;simp[Op.eqFields]
 | f::fs,b,h,w=>by
  simp only[tz]at h;cases hn:f.name == "_"
  ·rw[hn]at h;simp only[cond_false]at h;have hne:f.name ≠ "_" := by simpa using hn
   split at h
   ·rename_i k0 k a k' b' r hu hx hy hr;split at h
    case isFalse=>cases h
    rename_i e;subst e;simp only[Option.some.injEq]at h;subst h;have ih:=Fa (d:=d) fs r hr w;simp only[Op.eqFields,hne,ne_eq,not_false_eq_true,zW,Sem.run_bind,VN hu rfl hx,VN hu rfl hy,Result.andThen_ok,run_equalIn_int w d f.type k k0 a b' hu];cases hab:a==b'<;>simp[ih]
   ·rename_i a b' r hu hx hy hr;simp only[Option.some.injEq]at h;subst h;have ih:=Fa (d:=d) fs r hr w;simp only[Op.eqFields,hne,ne_eq,not_false_eq_true,zW,Sem.run_bind,VN hu rfl hx,VN hu rfl hy,Result.andThen_ok,run_equalIn_bool' w d f.type a b' hu];cases hab:a==b'<;>simp[ih]
   ·cases h
  ·rw[hn]at h;cases h
theorem EN {P:Program}{e:TypeId}(hC:P.cellsOf e=1){xs ys:Array Value}(d:Nat):∀(is:List Nat) (b:Bool),tO P e xs.toList ys.toList is=some b->∀w,(Op.eqItems (d+1) e (P.cellsOf e) xs ys is).run P w=.ok b w
 | [],b,h,w=>by simp[tO]at h;subst h;simp[Op.eqItems]
 | i::is,b,h,w=>by
  simp only[tO]at h;split at h
  ·rename_i k0 k a k' b' r hu hx hy hr;split at h
   case isFalse=>cases h
   rename_i e';subst e';simp only[Option.some.injEq]at h;subst h;have ih:=EN hC d is r hr w;simp only[Op.eqItems,hC,rE,Sem.run_bind,VN hu rfl hx,VN hu rfl hy,Result.andThen_ok,run_equalIn_int w d e k k0 a b' hu];rw[hC]at ih;cases hab:a==b'<;>simp[ih]
  ·rename_i t0 p r hu hx hy hr;simp only[Option.some.injEq]at h;subst h;have ih:=EN hC d is r hr w;simp only[Op.eqItems,hC,rE,Sem.run_bind,VN hu rfl hx,VN hu rfl hy,Result.andThen_ok,MO hu p d w];rw[hC]at ih;cases hab:p.isNone<;>simp[ih]
  ·cases h
theorem Whr {P:Program}{op:BinOp}{t:Nat}{xs ys:Array Value}{K:Value->Prop}(h:rY P op t xs.toList ys.toList K)(x y:Operand)(w:World) :
 ∃v,(do eqGuard op t x y (.agg xs) (.agg ys);binOp op t (.agg xs) (.agg ys):Sem Value).run P w=.ok v w/\K v:=by
 have fin:∀b:Bool,(Op.equalIn 10000 t (.agg xs) (.agg ys)).run P w=.ok b w->P.eqGuardType P.depth t=false->qT op b K →
  ∃v,(do eqGuard op t x y (.agg xs) (.agg ys);binOp op t (.agg xs) (.agg ys):Sem Value).run P w=.ok v w/\K v:=by
  intro b a hgt h;have j:=run_eqGuard_agg (P:=P) w op t x y xs ys hgt;cases op<;>simp only[qT]at h
  ·exact⟨_,by simp only[Sem.run_bind,j,Result.andThen_ok,run_eql_struct,a],h⟩
  ·exact⟨_,by simp only[Sem.run_bind,j,Result.andThen_ok,run_neq_struct,a],h⟩
 unfold rY at h;split at h
 case h_1 fs hu=>
  rw[WK]at h;obtain⟨d,h⟩:=h;simp only[zG,pZ]at d;split at h
  case h_2=>exact h.elim
  rename_i b hb;have g:P.fieldsOf t=fs:=by simp[Program.fieldsOf,hu]
  have a:(Op.equalIn 10000 t (.agg xs) (.agg ys)).run P w=.ok b w:=by
   have:=run_equalIn_struct (P:=P) w 9999 t xs ys (by rw[g];exact hu) d.1;rw[g]at this;exact this.trans (Fa 9998 fs.toList b hb w)
  exact fin b a d.2 h
 case h_2 n e hu=>
  rw[WK]at h;obtain⟨d,h⟩:=h;simp only[zG,pZ,zY]at d;split at h
  case h_2=>exact h.elim
  rename_i b hb;obtain⟨i,m⟩:=tf.1 d.2.1;exact fin b ((run_equalIn_array (P:=P) w 9999 xs ys hu m).trans (EN d.2.2 9998 _ b hb w)) d.1 h
 case h_3=>exact h.elim
theorem CO {P:Program}{ρ:Env}{K:Value->Prop}{a:Act}{w:World}(hf:∀x v,ev ρ x=some v->a.eval x=v)(o:Oper)(hk:qK P o.op ρ w.heap K) :
 ∃v,(execOp a.eval o).run P w=.ok (.value v) w/\K v:=by
 obtain⟨dst,op,ty,pos,X,aa⟩:=o;simp only at hk;have g:∀{s:Sem Value},(∃v,s.run P w=.ok v w/\K v)->∃v,(do pure (Next.value (←s)):Sem Next).run P w=.ok (.value v) w/\K v:=by
  rintro s ⟨v,j,e⟩;exact⟨v,by simp[j],e⟩
 unfold qK at hk;split at hk
 case h_1 x=>
  obtain⟨v,j,e⟩:=Wq hk;exact⟨v,by simp[execOp,hf _ _ j],e⟩
 case h_2 x=>
  obtain⟨v,j,e⟩:=Wq hk;exact⟨v,by simp[execOp,hf _ _ j],e⟩
 case h_3 c x y=>
  obtain⟨v,j,e⟩:=Wq hk;split at e
  ·obtain⟨u,B,e⟩:=Wq e;exact⟨u,by simp[execOp,hf _ _ j,asBool,hf _ _ B],e⟩
  ·obtain⟨u,B,e⟩:=Wq e;exact⟨u,by simp[execOp,hf _ _ j,asBool,hf _ _ B],e⟩
  ·exact e.elim
 case h_4 t x=>
  obtain⟨v,j,e⟩:=Wq hk;simp only[execOp,hf _ _ j];apply g;split at e
  case h_1 M c G=>
   rw[WK]at e;obtain⟨d,hd,L⟩:=Mg G;obtain⟨x,p,e⟩:=EA e.2;exact⟨_,by simp only[Instr.loadAt,Instr.sureAddr,loadVar,Sem.run_bind,Sem.run_pure,Result.andThen_ok,KX hd,L];simpa using IJ p,e⟩
  case h_2 M cs G=>
   rw[WK,WK]at e;obtain⟨r,z,e⟩:=e;obtain⟨d,hd,L⟩:=N6 G;obtain⟨vs,hl,e,Y⟩:=Ip (P:=P) e;have Z:P.cellsOf t=cs.length:=by simpa using r
   refine⟨_,?_,e⟩;simp only[Instr.loadAt,Instr.sureAddr,loadVar,Sem.run_bind,Sem.run_pure,Result.andThen_ok,KX hd,L,zW,Q3 z,loadCells,Z,Y];simp
  ·exact e.elim
 case h_5 x=>
  obtain⟨v,j,e⟩:=Wq hk;simp only[execOp,hf _ _ j];split at e
  ·obtain⟨M,rfl,e⟩:=e;exact⟨_,by simp,e⟩
  ·exact⟨_,by simp,e⟩
  ·exact e.elim
 case h_6 op t x y yt=>
  obtain⟨D,p,hk⟩:=Wq hk;obtain⟨vy,hy,hk⟩:=Wq hk;simp only[execOp,hf _ _ p,hf _ _ hy];apply g;unfold Ac at hk;cases hn:Ad y
  ·rw[hn]at hk;simp only[cond_false]at hk;split at hk
   ·exact Whr hk x y w
   obtain⟨v,j,e⟩:=TZ hk w;exact⟨v,by simp[WeF w (RV hk),j],e⟩
  ·rw[hn]at hk;simp only[cond_true]at hk;obtain⟨v,j,e⟩:=Whn hk w;obtain⟨c,hc⟩:=TM hn;have hg:=RB (P:=P) (op:=op) (t:=t) (x:=x) (c:=c) (b:=vy) w (RD hk);exact⟨v,by rw[hc];simp[hg,j],e⟩
 case h_7 op ty' x=>
  obtain⟨D,p,hk⟩:=Wq hk;simp only[execOp,hf _ _ p];apply g;split at hk
  ·exact⟨_,by simp[Op.unary],hk⟩
  ·exact⟨_,by simp[Op.unary,Op.intArith],hk⟩
  ·exact hk.elim
 case h_8 s d x=>
  obtain⟨D,p,hk⟩:=Wq hk;simp only[execOp,hf _ _ p];apply g;split at hk
  ·rename_i r z;exact⟨_,by simp[convert,run_underlying r,run_underlying z,Conv.intToInt],hk⟩
  ·rename_i r z;exact⟨_,by simp[convert,run_underlying r,run_underlying z],hk⟩
  ·rename_i r z;split at hk
   ·rename_i B;obtain⟨b,Y,e⟩:=Wn5 (P:=P) hk;exact⟨_,by simpa[convert,run_underlying r,run_underlying z,run_underlying B]using Y,e⟩
   ·exact hk.elim
  ·exact hk.elim
 case h_9 s x f=>
  obtain⟨D,p,hk⟩:=Wq hk;obtain⟨fs,fd,G,H,hk⟩:=Dd hk;simp only[execOp,hf _ _ p];apply g;split at hk
  ·rename_i M;rw[WK]at hk;have N:P.cellsOf fd.type≠0:=by simpa using hk.1
   refine⟨_,?_,hk.2⟩;simp only[Instr.fieldAt,Sem.run_bind,run_underlying G,Result.andThen_ok,H,Instr.sureAddr,Sem.run_pure,fieldPlace,Q3 (Wdp N),N,zz]
  ·exact hk.elim
 case h_10 s x f=>
  obtain⟨D,p,hk⟩:=Wq hk;obtain⟨fs,fd,G,H,hk⟩:=Dd hk;simp only[execOp,hf _ _ p];apply g;split at hk
  ·rename_i cs;obtain⟨v,j,e⟩:=Sc (w:=w) hk;refine⟨v,?_,e⟩;simp only[Instr.field,Sem.run_bind,run_underlying G,Result.andThen_ok,H,asAgg,Sem.run_pure,j]
  ·exact hk.elim
 case h_11 t x i=>
  obtain⟨D,p,hk⟩:=Wq hk;obtain⟨vi,F,hk⟩:=Wq hk;simp only[execOp,hf _ _ p,hf _ _ F];apply g;split at hk
  ·have B:=(by assumption:P.underlying t=some _);rw[WK]at hk;obtain⟨r,M,rfl,z,R,e⟩:=hk;refine⟨_,?_,e⟩;simp[Instr.indexAt,asIntOf,run_underlying B,Q3 r,z,R]
  ·have B:=(by assumption:P.underlying t=some _);rw[WK]at hk;obtain⟨r,z,R,e⟩:=hk;refine⟨_,?_,e⟩;simp[Instr.indexAt,asIntOf,run_underlying B,Q3 r,z,R,Instr.sureAddr]
  ·exact hk.elim
 case h_12 t x i=>
  obtain⟨D,p,hk⟩:=Wq hk;obtain⟨vi,F,hk⟩:=Wq hk;simp only[execOp,hf _ _ p,hf _ _ F];apply g;split at hk
  ·have B:=(by assumption:P.underlying t=some _);obtain⟨b,r,z,e⟩:=hk;refine⟨_,?_,e⟩;simp[Instr.index,asIntOf,run_underlying B,r,z]
  ·exact hk.elim
 case h_13 t x i ok=>
  obtain⟨D,p,hk⟩:=Wq hk;obtain⟨vi,F,hk⟩:=Wq hk;simp only[execOp,hf _ _ p,hf _ _ F];exact g (θ hk)
 case h_14 t i=>
  obtain⟨D,p,hk⟩:=Wq hk;simp only[execOp,hf _ _ p];apply g;split at hk
  ·obtain⟨v,j,e⟩:=Wq hk;have S:=j;rw[CE]at S;exact⟨v,by simp[Instr.extract,S],e⟩
  ·exact hk.elim
 case h_15 fn x y=>
  split at hk
  ·rename_i va vb r z;have E:=Z4 hf r;have Q:=Z4 hf z;refine⟨_,?_,hk⟩;have J:x.map a.eval=va.toArray:=by apply Array.ext';simpa using E
   have W:y.map a.eval=vb.toArray:=by apply Array.ext';simpa using Q
   simp[execOp,Instr.makeFunc,J,W]
  ·exact hk.elim
 case h_16 t ps=>
  split at hk
  ·rename_i vs r;have E:=Un hf r;have J:ps.map (λ(i,x)=>(i,a.eval x))=vs.toArray:=by apply Array.ext';simpa using E
   simp only[execOp];apply g;rw[J];exact PB (by simpa using hk)
  ·exact hk.elim
 case h_17 t x lo F mx=>
  obtain⟨D,p,hk⟩:=Wq hk;simp only[execOp,hf _ _ p];apply g;split at hk
  ·rename_i l h m r z R;rw[ES hf r,ES hf z,ES hf R];exact Sn hk
  ·exact hk.elim
 case h_18 t x=>
  obtain⟨D,p,hk⟩:=Wq hk;rw[WK]at hk;simp only[execOp,hf _ _ p];exact⟨_,by simp[run_makeInterface w t D hk.1],hk.2⟩
 case h_19 x xt t=>
  obtain⟨D,p,hk⟩:=Wq hk;simp only[execOp,hf _ _ p];apply g;split at hk
  case h_2=>exact hk.elim
  rename_i fs ti cs B F G;split at hk
  case h_2=>exact hk.elim
  rename_i zs hz;obtain⟨vs,b,j,e⟩:=hk.out;exact⟨_,WmM B F (by simpa using hz) j w,e⟩
 case h_20 c=>
  obtain⟨V,C,U⟩:=c;simp only at hk;split at hk
  ·rename_i x t ha ht;have A:=Z4 hf ha;have E:C.map a.eval = #[x]:=by apply Array.ext';simpa using A
   have Q:U = #[t]:=by apply Array.ext';simpa using ht
   subst Q;obtain⟨v,j,e⟩:=Wg4 (ty:=ty) hk;refine⟨v,?_,e⟩;simp[execOp,resolve,E,invoke,builtin,j]
  ·rename_i M l n t ha ht;have A:=Z4 hf ha;have E:C.map a.eval = #[.slice M l n]:=by apply Array.ext';simpa using A
   have Q:U = #[t]:=by apply Array.ext';simpa using ht
   subst Q;split at hk
   ·rename_i B;refine⟨_,?_,hk⟩;simp[execOp,resolve,E,invoke,builtin,Builtin.cap_,run_underlying B,goInt]
   ·exact hk.elim
  ·rename_i x xs ha;have A:=Z4 hf ha;have E:C.map a.eval=(x::xs).toArray:=by apply Array.ext';simpa using A
   obtain⟨v,j,e⟩:=Fh (P:=P) (w:=w) hk;refine⟨v,?_,e⟩;simp only[zW]at j;simp[execOp,resolve,E,invoke,builtin,Builtin.max_,j]
  ·rename_i x xs ha;have A:=Z4 hf ha;have E:C.map a.eval=(x::xs).toArray:=by apply Array.ext';simpa using A
   obtain⟨v,j,e⟩:=Fh (P:=P) (w:=w) hk;refine⟨v,?_,e⟩;simp only[zd,zz]at j;simp[execOp,resolve,E,invoke,builtin,Builtin.min_,j]
  ·exact hk.elim
 ·exact hk.elim
def si (P:Program):List TypeId->Option (List SK)
 | []=>some []
 | t::ts=>match mY P t,si P ts with|some s,some ss=>some (s::ss)|_,_=>none
def HP (P:Program)(f:Nat):Bool:=
 match P.funcs[f]? with
 | some fn=>!(fn.name == "runtime.NumGoroutine") && fn.body.isSome
 | none=>false
def xK (P:Program)(f:Nat)(args:List Value)(h:Hp)(K:aO):Prop:=
 ∀w:World,w.heap=h->∃b w',(callFunc f args.toArray).run P w=.ok (.value (.bool b)) w'/\ZQ w w'/\K b w'.heap
def FL (P:Program)(f:Nat)(args:List Value)(h:Hp)(K:Value->Hp->Prop):Prop:=
 match P.funcs[f]? with
 | some fn=>match si P fn.resultTypes.toList with
  | some rs=>match HP P f with
   | true=>We P f args.toArray rs h (lam (jD rs) λvs h'=>K (pack rs vs) h')
   | false=>match rs with
    | [.one .b]=>xK P f args h λb h'=>K (.bool b) h'
    | _=>False
  | none=>False
 | none=>False
def E6 (P:Program)(v:Value)(name:String)(args:List Value)(ty:TypeId)(h:Hp)(K:Value->Hp->Prop):Prop:=
 match (match P.underlying ty with|some (.tuple ts)=>si P ts.toList|_=>si P [ty])with
 | some rs=>IT P v name args rs h (lam (jD rs) λvs h'=>K (pack rs vs) h')
 | none=>False
def Ej (P:Program)(fv:Fv):Prop:=HP P fv.f=true
def V2 (P:Program)(fv:Fv)(args:List Value)(rs:List SK)(h:Hp)(R:eT (jD rs)):Prop:=
 Ej P fv/\La P fv args rs h R
def Ft (P:Program)(fv:Fv)(args:List Value)(ty:TypeId)(h:Hp)(K:Value->Hp->Prop):Prop:=
 match (match P.underlying ty with|some (.tuple ts)=>si P ts.toList|_=>si P [ty])with
 | some rs=>V2 P fv args rs h (lam (jD rs) λvs h'=>K (pack rs vs) h')
 | none=>False
def DC (a:Addr)(vs:List Value)(h:Hp)(K:aP):Prop:=
 match vs with
 | [v]=>cY a v h K
 | vs=>uu a h vs 0 K
def vO (P:Program)(t:TypeId)(K:IntKind->CK->Prop):Prop:=
 match P.underlying t with
 | some (.map kt et)=>match P.underlying kt,s8 P et with
  | some (.int k),some (.one c)=>K k c
  | _,_=>False
 | _=>False
def DL (P:Program)(t:TypeId)(len:Nat)(ps:List (Nat×Value))(K:TypeId->List Value->Prop):Prop:=
 match P.underlying t with
 | some (.slice e)=>match P.info? e with
  | some te=>match te.zero with
   | some z=>match len,ps with
    | 0,[]=>K e []
    | 0,_::_=>False
    | len+1,ps=>gU (Nat.ble ((len+1)*te.size) 16777216&&Nat.blt 0 ((len+1)*te.size)&&z.cells.size==te.size)
     (match wz (λi=>some (i*te.size,te.size)) (List.replicate (len+1) z.cells.toList).flatten ps with
     | some cs=>K e cs
     | none=>False)
   | none=>False
  | none=>False
 | _=>False
def eK (P:Program)(o:Op)(ty:TypeId)(ρ:Env)(h:Hp)(K:Value->Hp->Prop):Prop:=
 match o with
 | .store t a x=>wv (ev ρ a) λva=>wv (ev ρ x) λvx=>match va with
  | .pointer (some a)=>bif By P t then gU ((P.info? t).isSome&&P.cellsOf t==1) (lH vx/\cY a vx h λh'=>K undef h')
   else gU ((P.info? t).isSome&&vx.cells.size==P.cellsOf t) (CY vx.cells.toList (DC a vx.cells.toList h λh'=>K undef h'))
  | _=>False
 | .alloc e=>match P.info? e with
  | some te=>match te.zero with
   | some z=>Nw (.cells z.cells e (0,0)) h λa h'=>K (.pointer (some a)) h'
   | none=>False
  | none=>False
 | .box e x=>wv (ev ρ x) λv=>bif By P e then lH v/\Nw (.cells #[v] e (0,0)) h λa h'=>K (.pointer (some a)) h' else Nw (.cells v.cells e (0,0)) h λa h'=>K (.pointer (some a)) h'
 | .buildSlice t len ps=>match H7 ρ ps.toList with
  | some vs=>DL P t len vs λe cs=>Nw (.cells cs.toArray e (0,0)) h λa h'=>K (.slice (some a) len len) h'
  | none=>False
 | .makeMap t r=>match r with
  | none=>Nw (.map #[] 0) h λa h'=>K (.map (some a.block)) h'
  | some _=>False
 | .makeSlice t l c=>wv (ev ρ l) λvl=>wv (ev ρ c) λvc=>match P.underlying t,vl,vc with
  | some (.slice e),.int .i64 n,.int .i64 m=>match P.info? e with
   | some te=>match te.zero with
    | some z=>gU (z.cells.size==te.size&&Nat.blt 0 te.size) (Mk n m te.bytes e z.cells.toList h λs h'=>K (.slice s.a s.len s.cap) h')
    | none=>False
   | none=>False
  | _,_,_=>False
 | .range t x=>wv (ev ρ x) λv=>vO P t λki c=>match v with
  | .map m=>wu ki c m h λa h'=>K (.pointer (some a)) h'
  | _=>False
 | .mapUpdate t m k x=>wv (ev ρ m) λvm=>wv (ev ρ k) λvk=>wv (ev ρ x) λvx=>vO P t λki c=>match vm,vk with
  | .map m,.int k' n=>if ki=k' then tN c vx λx=>nO ki c m n x h λh'=>K undef h' else False
  | _,_=>False
 | .call c=>match c.callee,vu ρ c.args.toList,c.argTypes.toList with
  | .value (.func f),some args,_=>FL P f args h K
  | .value g,some args,_=>wv (ev ρ g) λvg=>tN .fn vg λfv=>Ft P fv args ty h K
  | .invoke r name,some args,_=>wv (ev ρ r) λvr=>E6 P vr name args ty h K
  | .builtin .append,some [.slice sa sn sc,.slice xa xn xc],[t,t']=>match P.underlying t with
   | some (.slice e)=>match P.info? e with
    | some te=>match te.zero with
     | some z=>gU (Nat.beq t t'&&z.cells.size==te.size&&Nat.blt 0 te.size) (App ⟨sa,sn,sc⟩ te.size te.bytes e z.cells.toList ⟨xa,xn,xc⟩ h λs h'=>K (.slice s.a s.len s.cap) h')
     | none=>False
    | none=>False
   | _=>False
  | .builtin .delete,some [.map m,.int k' n],t::_=>vO P t λki c=>if ki=k' then pD ki c m n h λh'=>K (.tuple #[]) h' else False
  | .builtin .append,some [.slice sa sn sc,.int .i64 n],[t,t']=>match P.underlying t,P.underlying t' with
   | some (.slice e),some (.int _)=>match P.info? e with
    | some te=>match te.zero with
     | some z=>gU (z.cells.size==te.size&&Nat.blt 0 te.size) (vB ⟨sa,sn,sc⟩ te.size te.bytes e z.cells.toList n h λs h'=>K (.slice s.a s.len s.cap) h')
     | none=>False
    | none=>False
   | _,_=>False
  | .builtin .copy,some [.slice da dn dc,.slice xa xn xc],t::_=>match P.underlying t with
   | some (.slice e)=>match P.info? e with
    | some te=>wS ⟨da,dn,dc⟩ te.size ⟨xa,xn,xc⟩ h λz h'=>K (.int .i64 z) h'
    | none=>False
   | _=>False
  | .builtin .clear,some [.slice sa sn sc],[t]=>match P.underlying t with
   | some (.slice e)=>match P.info? e with
    | some te=>match te.zero with
     | some z=>gU (z.cells.size==te.size&&Nat.blt 0 te.size) (DD ⟨sa,sn,sc⟩ z.cells.toList h λh'=>K (.tuple #[]) h')
     | none=>False
    | none=>False
   | _=>False
  | _,_,_=>False
 | _=>False
def AI (P:Program)(o:Op)(ty:TypeId)(ρ:Env)(h:Hp)(K:Value->Hp->Prop):Prop:=
 bif wK o then qK P o ρ h (λv=>K v h)else eK P o ty ρ h K
theorem Jy:∀{vs:List Value} {A:Prop},CY vs A->A/\∀v∈vs,dP v=true
 | [],A,h=>⟨h,by simp⟩
 | v::vs,A,h=>by
  have h1:dP v=true/\CY vs A:=by cases v<;>first|exact h.elim|exact⟨rfl,h⟩
  obtain⟨b,d⟩:=Jy h1.2;exact⟨b,λu a=>by
   rcases zR.1 a with rfl|a
   ·exact h1.1
   ·exact d u a⟩
theorem ZQ.refl (w:World):ZQ w w:=⟨rfl,rfl,rfl,zD _⟩
theorem ZQ.trans {a b c:World}(h:ZQ a b)(k:ZQ b c):ZQ a c:=⟨k.1.trans h.1,k.2.1.trans h.2.1,k.2.2.1.trans h.2.2.1,zJ h.2.2.2 k.2.2.2⟩
theorem Vz (h:Hp)(a:Addr)(v:Value):(nA h a v).size=h.size:=by simp[nA]
theorem Nu {P:Program}{w:World}{a:Addr}{v:Value}(ho:dP v=true)(h1:(cell w.heap a).isSome=true)(h2:sG w.heap a=false):(store a v).run P w=.ok () (w.setCell a v):=by
 obtain⟨u,d⟩:=tf.1 h1;have b:w.cell? a=some u:=d;have e:w.frozen? a=false:=h2;cases v<;>simp[dP]at ho<;>simp[store,Sem.run,b,e]
theorem GG {P:Program}:∀{vs:List Value} {w:World} {a:Addr} {i:Nat} {K:aP},(∀v∈vs,dP v=true)->uu a w.heap vs i K →
 ∃w',(storeCells a vs i).run P w=.ok () w'/\ZQ w w'/\K w'.heap
 | [],w,a,i,K,_,h=>⟨w,by simp[storeCells],.refl _,h⟩
 | v::vs,w,a,i,K,ho,h=>by
  obtain⟨h1,h2,h3⟩:=h;have e:=Nu (P:=P) (ho v aA) h1 h2;obtain⟨w',d,g,m⟩:=GG (P:=P) (w:=w.setCell (a.add i) v) (λu j=>ho u (by simp[j])) h3;refine⟨w',?_,ZQ.trans (b:=w.setCell (a.add i) v) ⟨rfl,rfl,rfl,Nat.le_of_eq (Vz w.heap (a.add i) v).symm⟩ g,m⟩;simp only[storeCells,Sem.run_bind,e,Result.andThen_ok,d]
theorem Ε {P:Program}{vs:List Value}{w:World}{a:Addr}{K:aP}(ho:∀v∈vs,dP v=true)(h:DC a vs w.heap K) :
 ∃w',(storeCells a vs).run P w=.ok () w'/\ZQ w w'/\K w'.heap:=by
 refine GG ho ?_;unfold DC at h;split at h
 ·simpa[uu,Addr.add_zero']using h
 ·exact h
def Vt (P:Program)(s:Sem Next)(w:World)(K:Value->Hp->Prop):Prop:=
 (∃v w',s.run P w=.ok (.value v) w'/\ZQ w w'/\K v w'.heap) ∨
 (∃w',s.run P w=.ok .skip w'/\ZQ w w'/\K undef w'.heap) ∨
 (∃f args rs R,s.run P w=.ok (.enter f args) w/\We P f args rs w.heap R/\∀vs h',Sat (jD rs) R vs h'->K (pack rs vs) h')
theorem Vt.upon {P:Program}{o:Oper}{a:Act}{w:World}{K:Value->Hp->Prop}{next:Act->World->Prop}{Q:Exit->Act->World->Prop}
 (h:Vt P (execOp a.eval o) w K) (hn:∀v w',ZQ w w'->K v w'.heap->next (a.put o.dst v) w'):o.wp P a w next Q:=by
 unfold Oper.wp;rcases h with⟨v,w',hr,b,hK⟩|⟨w',hr,b,hK⟩|⟨f,args,rs,R,hr,hc,hK⟩
 ·rw[hr];exact hn _ _ b hK
 ·rw[hr];exact hn _ _ b hK
 ·rw[hr];refine(hc w rfl).mono λe w' ⟨b,vs,d,g⟩=>?_;subst d;exact hn _ _ b (hK _ _ g)
theorem G4 {P:Program}{f:Nat}(h:HP P f=true)(args:Array Value)(w:World):(callFunc f args).run P w=.ok (.enter f args) w:=by
 unfold HP at h;split at h
 ·rename_i fn hf;simp only[zG,pZ,qA]at h;obtain⟨d,b⟩:=h;obtain⟨c,a⟩:=tf.1 b;simp[callFunc,hf,d,a]
 ·cases h
theorem T6 {P:Program}{f:Nat}{args:List Value}{w:World}{K:Value->Hp->Prop}(h:FL P f args w.heap K):Vt P (callFunc f args.toArray) w K:=by
 unfold FL at h;split at h
 ·split at h
  ·rename_i rs hrs;split at h
   ·rename_i hc;exact .inr (.inr ⟨f,_,rs,_,G4 hc _ _,h,λvs j g=>Hq g⟩)
   ·split at h
    ·obtain⟨b,e,a,i,d⟩:=h w rfl;exact .inl ⟨_,e,a,i,d⟩
    ·exact h.elim
  ·exact h.elim
 ·exact h.elim
theorem Ru {P:Program}{fv:Fv}{args:List Value}{ty:Nat}{w:World}{K:Value->Hp->Prop}(h:Ft P fv args ty w.heap K) :
 Vt P (callFunc fv.f (fv.first++args.toArray++fv.captured)) w K:=by
 unfold Ft at h;split at h
 ·rename_i rs _;exact .inr (.inr ⟨_,_,rs,_,G4 h.1 _ _,h.2,λvs b a=>Hq a⟩)
 ·exact h.elim
theorem TR {P:Program}{v:Value}{name:String}{args:List Value}{ty:Nat}{w:World}{K:Value->Hp->Prop}(h:E6 P v name args ty w.heap K) :
 Vt P (callMethod v name args.toArray) w K:=by
 unfold E6 at h;split at h
 ·rename_i rs _;obtain⟨t,u,f,rfl,b,a,h⟩:=h;refine .inr (.inr ⟨f,_,rs,_,?_,h,λvs e d=>Hq d⟩);simp only[callMethod,Sem.run_bind,run_program,Result.andThen_ok,b,a];simp
 ·exact h.elim
theorem Fl {P:Program}{t:Nat}{K:IntKind->CK->Prop}(h:vO P t K):∃kt et k c,P.underlying t=some (.map kt et)/\P.underlying kt=some (.int k)/\K k c:=by
 unfold vO at h;split at h
 ·split at h
  ·exact⟨_,_,_,_,by assumption,by assumption,h⟩
  ·exact h.elim
 ·exact h.elim
theorem Us (w:World)(o:Obj):ZQ w {w with heap:=w.heap.push o}:=⟨rfl,rfl,rfl,by simp⟩
theorem HX (h:Hp)(r:Nat)(o:Obj):QJ h (h.setIfInBounds r o) r:=⟨by simp,λb a=>by rw[BE (Ne.symm a)]⟩
theorem Mt {es:List MapEntry}{k:IntKind}{c:CK}:∀(l:List (Int×c.T)) (es:List MapEntry) (j:Nat) (n:Int) (x:c.T),
 es.map (λe=>(e.key,e.val))=l.map (λx=>(Value.int k x.1,c.v x.2))->(l.map (·.1)).Nodup->l.findIdx? (λx=>x.1==n)=some j →
 (es.modify j λe=>{e with key:=.int k n,val:=c.v x}).map (λe=>(e.key,e.val))=(l.map λy=>if y.1==n then(n,x)else y).map (λx=>(Value.int k x.1,c.v x.2))
 | [],es,j,n,x,he,hn,hj=>by simp at hj
 | y::l,[],j,n,x,he,hn,hj=>by simp at he
 | y::l,e::es,j,n,x,he,hn,hj=>by
  simp only[zH,List.cons.injEq]at he;simp only[zH,zr]at hn;simp only[Bb]at hj;cases hy:y.1==n
  ·rw[hy]at hj;simp only[zd,zz,uK]at hj;obtain⟨j',hj',rfl⟩:=hj;have:=Mt (es:=es) l es j' n x he.2 hn.2 hj';simp only[List.modify_succ_cons,zH,this,hy,he.1];simp
  ·rw[hy]at hj;simp at hj;subst hj;have a:y.1=n:=by simpa using hy
   simp only[List.modify_zero_cons,zH,hy,zW,List.cons.injEq,yb,he.2]
   congr 1
   have:∀z∈l,(z.1==n)=false:=by
    intro z hz;have:z.1≠y.1:=λe=>hn.1 (by rw[←e];exact BD hz);simpa[a]using this
   have e:l=l.map λz=>if z.1==n then(n,x)else z:=by
    conv=>lhs;rw[←AZ l]
    apply ze;intro z hz;simp[this z hz]
   exact e
theorem OJ {α:Type}{l:List (Int×α)}{n:Int}{j:Nat}(h:l.findIdx? (λx=>x.1==n)=some j):l.any (λx=>x.1==n)=true:=by
 obtain⟨x,a,rfl⟩:=UH h;rw[zw];exact⟨x,zE a,by simp⟩
theorem G9 {α:Type}{l:List (Int×α)}{n:Int}(h:l.findIdx? (λx=>x.1==n)=none):l.any (λx=>x.1==n)=false:=by
 rw[y8]at h;rw[p8];simpa using h
theorem iB {α:Type}{l:List (Int×α)}{n:Int}{x:α}(hn:(l.map (·.1)).Nodup):((dG l n x).map (·.1)).Nodup:=by
 unfold dG;split
 ·have:(l.map λy=>if y.1==n then(n,x)else y).map (·.1)=l.map (·.1):=by
   rw[zk];apply ze;intro y _;simp only[Function.comp];split
   ·rename_i h;simp at h;exact h.symm
   ·rfl
  rwa [this]
 ·rename_i h;rw[zy,qQ];refine⟨hn,by simp,?_⟩;intro a ha b hb;simp at hb;subst hb;rintro rfl;obtain⟨y,d,rfl⟩:=zC.1 ha;exact h (zw.2 ⟨y,d,by simp⟩)
theorem Pp {P:Program}{t kt et:Nat}{k:IntKind}{c:CK}(hu:P.underlying t=some (.map kt et))(hk:P.underlying kt=some (.int k)){r:Nat}{l:List (Int×c.T)}{n:Int}{x:c.T}{w:World}
 (hm:dN w.heap r k c l):∃w',(Instr.mapUpdate t (.map (some r)) (.int k n) (c.v x)).run P w=.ok () w'/\ZQ w w'/\QJ w.heap w'.heap r/\dN w'.heap r k c (dG l n x):=by
 obtain⟨es,d,u,i,D,F,E⟩:=hm;have A:r<w.heap.size:=(pJ.1 u).1;have g:∀o,(w.heap.setIfInBounds r o)[r]?=some o:=λo=>by simp[A]
 cases hf:l.findIdx? (λx=>x.1==n)with
 | some j=>
  obtain⟨y,G,C⟩:=UH hf;have M:j<l.length:=(cQ.1 G).1;have s:es.toList.length=l.length:=by simpa using congrArg List.length i
  have z:j<es.size:=by simp at s;omega
  have p:es[j].key=.int k n:=by
   have:=congrArg (λl=>l[j]?) i;simp only[zi,G,zj]at this;rw[CE,Array.getElem?_eq_getElem z]at this;simp at this;rw[this.1,C]
  refine⟨{w with heap:=w.heap.setIfInBounds r (.map (es.modify j λe=>{e with key:=.int k n,val:=c.v x}) d)},?_,⟨rfl,rfl,rfl,by simp⟩,HX _ _ _,?_⟩
  ·simp only[Instr.mapUpdate,Sem.run_bind,run_underlying hu,Result.andThen_ok,QU hk,getObj,Sem.run,u,KG hk i,hf];simp[Array.getElem?_eq_getElem z,p,Instr.keyThatStays,Instr.sameBits,setObj,Sem.run,u]
  ·refine⟨_,d,g _,?_,iB D,?_,?_⟩
   ·rw[E4,Mt (es:=[]) l es.toList j n x i D hf];simp[dG,OJ hf]
   ·have:(es.modify j λe=>{e with key:=.int k n,val:=c.v x}).toList.map (·.born)=es.toList.map (·.born):=by
     rw[E4];apply lX;intro m;simp only[zi,xX];cases es.toList[m]?<;>simp
     split<;>rfl
    rw[this];exact F
   ·intro e he';have:e.born∈(es.modify j λe=>{e with key:=.int k n,val:=c.v x}).toList.map (·.born):=BD he';have J:(es.modify j λe=>{e with key:=.int k n,val:=c.v x}).toList.map (·.born)=es.toList.map (·.born):=by
     rw[E4];apply lX;intro m;simp only[zi,xX];cases es.toList[m]?<;>simp
     split<;>rfl
    rw[J]at this;obtain⟨K,L,H⟩:=zC.1 this;rw[←H];exact E K L
 | none=>
  refine⟨{w with heap:=w.heap.setIfInBounds r (.map (es.push {key:=.int k n,val:=c.v x,born:=d}) (d+1))},?_,⟨rfl,rfl,rfl,by simp⟩,HX _ _ _,?_⟩
  ·simp only[Instr.mapUpdate,Sem.run_bind,run_underlying hu,Result.andThen_ok,QU hk,getObj,Sem.run,u,KG hk i,hf];simp[setObj,Sem.run,u]
  ·refine⟨_,d+1,g _,?_,iB D,?_,?_⟩
   ·simp[dG,G9 hf,i]
   ·simp only[Array.toList_push,zy,zH,uB,tZ];refine⟨F,by simp,?_⟩;intro a ha b hb';simp at hb';subst hb';obtain⟨e,B,rfl⟩:=zC.1 ha;exact E e B
   ·intro e he';simp only[Array.toList_push,zU,zZ]at he';rcases he' with h|rfl
    ·have:=E e h;omega
    ·simp
theorem UP {k:IntKind}{c:CK}:∀(l:List (Int×c.T)) (es:List MapEntry) (j:Nat) (n:Int),
 es.map (λe=>(e.key,e.val))=l.map (λx=>(Value.int k x.1,c.v x.2))->(l.map (·.1)).Nodup->l.findIdx? (λx=>x.1==n)=some j →
 (es.eraseIdx j).map (λe=>(e.key,e.val))=(cR l n).map (λx=>(Value.int k x.1,c.v x.2))
 | [],es,j,n,he,hn,hj=>by simp at hj
 | y::l,[],j,n,he,hn,hj=>by simp at he
 | y::l,e::es,j,n,he,hn,hj=>by
  simp only[zH,List.cons.injEq]at he;simp only[zH,zr]at hn;simp only[Bb]at hj;cases hy:y.1==n
  ·rw[hy]at hj;simp only[zd,zz,uK]at hj;obtain⟨j',hj',rfl⟩:=hj;have:=UP l es j' n he.2 hn.2 hj';simp only[List.eraseIdx_cons_succ,zH,this,cR,sA,hy,he.1];simp
  ·rw[hy]at hj;simp at hj;subst hj;have a:y.1=n:=by simpa using hy
   simp only[List.eraseIdx_zero,List.tail_cons,cR,sA,hy,Bool.not_true,zd,zz,he.2]
   congr 1
   symm
   rw[rp];intro z hz;have:z.1≠y.1:=λe=>hn.1 (by rw[←e];exact BD hz);simpa[a]using this
theorem HR {α:Type}{l:List (Int×α)}{n:Int}(h:l.findIdx? (λx=>x.1==n)=none):cR l n=l:=by
 rw[y8]at h;unfold cR;rw[rp];intro z hz;have:=h z hz;simpa using this
theorem lK {α:Type}{l:List (Int×α)}{n:Int}(hn:(l.map (·.1)).Nodup):((cR l n).map (·.1)).Nodup:=
 hn.sublist (List.Sublist.map _ vU)
theorem PH {P:Program}{t kt et ty:Nat}{k:IntKind}{c:CK}(hu:P.underlying t=some (.map kt et))(hk:P.underlying kt=some (.int k)){m:Option Nat}{l:List (Int×c.T)}{n:Int}{w:World}{ats:List Nat}
 (hm:lA w.heap m k c l):∃w',(Builtin.delete_ (t::ats).toArray ty #[.map m,.int k n]).run P w=.ok (.tuple #[]) w'/\ZQ w w'/\(∀r,m=some r->QJ w.heap w'.heap r)/\(m=none->w'.heap=w.heap)/\lA w'.heap m k c (cR l n):=by
 cases m with
 | none=>
  simp only[lA]at hm;subst hm;exact⟨w,by simp[Builtin.delete_,run_underlying hu,QU hk],.refl _,λr h=>(by cases h),λ_=>rfl,rfl⟩
 | some r=>
  obtain⟨d,a,i,g,s,u,y⟩:=hm;have p:r<w.heap.size:=(pJ.1 i).1;have b:∀o,(w.heap.setIfInBounds r o)[r]?=some o:=λo=>by simp[p]
  cases hf:l.findIdx? (λx=>x.1==n)with
  | some j=>
   refine⟨{w with heap:=w.heap.setIfInBounds r (.map (d.eraseIdxIfInBounds j) a)},?_,⟨rfl,rfl,rfl,by simp⟩,λz h=>(by cases h;exact HX _ _ _),(λh=>by cases h),?_⟩
   ·simp[Builtin.delete_,run_underlying hu,QU hk,getObj,Sem.run,i,KG hk g,hf,setObj]
   ·refine⟨_,a,b _,?_,lK s,?_,?_⟩
    ·rw[Is];exact UP l d.toList j n g s hf
    ·rw[Is];exact u.sublist (List.Sublist.map _ (List.eraseIdx_sublist _ _))
    ·rw[Is];intro e he';exact y e ((List.eraseIdx_sublist _ _).mem he')
  | none=>
   refine⟨{w with heap:=w.heap.setIfInBounds r (.map d a)},?_,⟨rfl,rfl,rfl,by simp⟩,λz h=>(by cases h;exact HX _ _ _),(λh=>by cases h),?_⟩
   ·simp[Builtin.delete_,run_underlying hu,QU hk,getObj,Sem.run,i,KG hk g,hf,setObj]
   ·rw[HR hf];exact⟨d,a,b _,g,s,u,y⟩
theorem yD {P:Program}{w:World}{sz n:Nat}{s:Sl}{xs:List Value}(hl:xs.length=s.len*sz)(h:Rd w.heap s.a xs)(hn:n=s.len) :
 (Builtin.firstCells sz n (.slice s.a s.len s.cap)).run P w=.ok xs.toArray w:=by
 subst hn;obtain⟨a,len,cap⟩:=s;cases a with
 | none=>simp only[Rd]at h;subst h;simp[Builtin.firstCells]
 | some a=>
  simp only at hl h;simp only[Builtin.firstCells];rw[←hl];have:=run_loadCells_list (P:=P) (w:=w) a xs (λj v b=>h j v b);exact this
theorem VK {z:Array Value}(hz:0<z.size):∀n,Builtin.zeroCells z n=(List.replicate n z.toList).flatten.toArray:=by
 intro n;apply Array.ext';simp only[Builtin.zeroCells,Array.toList_map,Array.toList_range]
 induction n with
 | zero=>simp
 | succ n ih=>
  rw[DV,D7];simp only[yW,List.flatten_nil,lZ];rw[←ih];rw[Nat.succ_mul,List.range_add,zy,zk]
  congr 1
  apply List.ext_getElem
  ·simp
  ·intro i h1 h2;simp at h1 h2;simp[yG h1,h1]
theorem MS (n c:Nat)(h:¬n<=c):Builtin.nextslicecap n c<=2*n:=by
 unfold Builtin.nextslicecap;split
 ·omega
 ·split
  ·omega
  ·have key:∀r c,c<=2*n->(Builtin.growBy n r c)<=2*n:=by
    intro r
    induction r with
    | zero=>intro c hc;simpa[Builtin.growBy]using hc
    | succ r ih=>
     intro c hc;simp only[Builtin.growBy];split
     ·exact hc
     ·exact ih _ O
   exact key _ _ O
theorem RQ {P:Program}{t e ty:Nat}{te:TypeInfo}{z:Value}{s x:Sl}{K:Sl->Hp->Prop}{w:World}(hu:P.underlying t=some (.slice e))(hi:P.info? e=some te)(hz:te.zero=some z)(hzs:z.cells.size=te.size)(hpos:0<te.size)
 (h:App s te.size te.bytes e z.cells.toList x w.heap K) :
 ∃r w',(Builtin.append_ #[t,t] ty #[.slice s.a s.len s.cap,.slice x.a x.len x.cap]).run P w=.ok (.slice (Sl.a r) r.len r.cap) w'/\ZQ w w'/\K r w'.heap:=by
 obtain⟨L,N,M,G,H,J,C,W,V,b,d⟩:=h;have u:=yD (P:=P) (n:=s.len) M H rfl;have i:=yD (P:=P) (n:=x.len) G J rfl;by_cases hroom:s.len+x.len<=s.cap
 ·have b:=b hroom;cases hsa:s.a with
  | some a=>
   rw[hsa]at b;obtain⟨w',U,R,B⟩:=GG (P:=P) C b;rw[hsa]at u;refine⟨⟨some a,s.len+x.len,s.cap⟩,w',?_,R,B⟩;simp[Builtin.append_,run_underlying hu,sizeOf,typeInfo,hi,Builtin.lenOf,hroom,i,U]
  | none=>
   rw[hsa]at b;rw[hsa]at u;refine⟨⟨none,s.len+x.len,s.cap⟩,w,?_,.refl _,b⟩;simp[Builtin.append_,run_underlying hu,sizeOf,typeInfo,hi,Builtin.lenOf,hroom,i]
 ·have d:=d hroom;have m:¬(2^48<Builtin.nextslicecap (s.len+x.len) s.cap*te.bytes):=by
   have:=MS (s.len+x.len) s.cap hroom;have:Builtin.nextslicecap (s.len+x.len) s.cap*te.bytes<=2*(s.len+x.len)*te.bytes:=pf _ this;rw[xm]at this;omega
  have F:¬(IntKind.i64.max<((s.len+x.len:Nat):Int)):=by
   have:IntKind.i64.max=9223372036854775807:=by decide
   rw[this];omega
  have A:¬(IntKind.i64.max<((s.len:Int)+(x.len:Int))):=by
   have:IntKind.i64.max=9223372036854775807:=by decide
   rw[this];omega
  have E:=VK (z:=z.cells) O;have y:s.cap<s.len+x.len:=by omega
  have g:¬(281474976710656<Builtin.nextslicecap (s.len+x.len) s.cap*te.bytes):=by simpa using m
  let q:=Question.appendCap (s.len+x.len) s.cap e
  let c:=q.cut (w.tape w.drawn q)
  have Q:s.len+x.len<=c:=by simp only[c,q,Question.cut];omega
  have B:=d c Q;refine⟨⟨some ⟨w.heap.size,0,none⟩,s.len+x.len,c⟩,{w with drawn:=w.drawn+1,heap:=w.heap.push (.cells (L++N++(List.replicate (c-(s.len+x.len)) z.cells.toList).flatten).toArray e (0,0))},?_,⟨rfl,rfl,rfl,by simp⟩,B⟩;have S:(Question.appendCap (s.len+x.len) s.cap e).forced=false:=rfl;have D:¬(9223372036854775807<(s.len:Int)+(x.len:Int)):=by omega
  have p:=yD (P:=P) (w:=w.drew) (n:=s.len) M (show Rd w.drew.heap s.a L from H) rfl;have j:=yD (P:=P) (w:=w.drew) (n:=x.len) G (show Rd w.drew.heap x.a N from J) rfl;simp[Builtin.append_,run_underlying hu,sizeOf,typeInfo,hi,Builtin.lenOf,hroom,D,S,g,p,j,zeroValue,hz,E,newRow];refine⟨rfl,?_⟩;unfold World.alloc World.drew;simp[c,q]
theorem WlV {P:Program}{t t' e ty:Nat}{te:TypeInfo}{z:Value}{s:Sl}{n:Int}{ki:IntKind}{K:Sl->Hp->Prop}{w:World}(hu:P.underlying t=some (.slice e))(hu':P.underlying t'=some (.int ki))(hi:P.info? e=some te)(hz:te.zero=some z)(hzs:z.cells.size=te.size)(hpos:0<te.size)
 (h:vB s te.size te.bytes e z.cells.toList n w.heap K) :
 ∃r w',(Builtin.append_ #[t,t'] ty #[.slice s.a s.len s.cap,.int .i64 n]).run P w=.ok (.slice (Sl.a r) r.len r.cap) w'/\ZQ w w'/\K r w'.heap:=by
 obtain⟨Q,X,V,W,U,h5,Y,h7,i,m⟩:=h;obtain⟨n,rfl⟩:=zn Q;simp only[dE]at h5 Y h7 i m;have F:=yD (P:=P) (n:=s.len) V W rfl;have L:∀v∈(List.replicate n z.cells.toList).flatten,dP v=true:=by
  intro v G;simp only[List.mem_flatten,BJ]at G;obtain⟨l,⟨_,rfl⟩,G⟩:=G;exact U v G
 have y:IntKind.i64.wrap (n:Int)=n:=by unfold IntKind.wrap;simp[IntKind.bits,IntKind.signed];omega
 have B:IntKind.i64.wrap 0=0:=by decide
 have u:=VK (z:=z.cells) O;have A:¬((n:Int)<0):=by omega
 have M:¬((n:Int)*(te.bytes:Int)>2^48):=by
  have:(2:Int)^46<=2^48:=by decide
  omega
 have p:¬(281474976710656<(n:Int)*(te.bytes:Int)):=by simpa using M
 have S:n*te.size=0->(List.replicate n z.cells.toList).flatten=[]:=by
  intro h0;rcases yo.1 h0 with h|h
  ·subst h;simp
  ·omega
 by_cases hroom:s.len+n<=s.cap
 ·have i:=i hroom;cases hsa:s.a with
  | some a=>
   rw[hsa]at i;obtain⟨w',J,io,R⟩:=GG (P:=P) L i;rw[hsa]at F;refine⟨⟨some a,s.len+n,s.cap⟩,w',?_,io,R⟩;by_cases hn:n*te.size=0
   ·have:=S hn;rw[this]at J;rcases yo.1 hn with hn'|hn'
    ·subst hn';have b:s.len<=s.cap:=by simpa using hroom
     simp[Builtin.append_,run_underlying hu,run_underlying hu',sizeOf,typeInfo,hi,Builtin.lenOf,b,asInt,asIntOf,B,J]
    ·omega
   ·have g:¬n=0:=λe=>hn (by rw[e];simp);have d:¬te.size=0:=by omega
    simp[Builtin.append_,run_underlying hu,run_underlying hu',sizeOf,typeInfo,hi,Builtin.lenOf,hroom,J,asInt,asIntOf,y,A,p,hn,g,d,zeroValue,hz,u]
  | none=>
   rw[hsa]at i;rw[hsa]at F;refine⟨⟨none,s.len+n,s.cap⟩,w,?_,.refl _,i⟩;by_cases hn:n*te.size=0
   ·rcases yo.1 hn with hn'|hn'
    ·subst hn';have b:s.len<=s.cap:=by simpa using hroom
     simp[Builtin.append_,run_underlying hu,run_underlying hu',sizeOf,typeInfo,hi,Builtin.lenOf,b,asInt,asIntOf,B]
    ·omega
   ·have g:¬n=0:=λe=>hn (by rw[e];simp);have d:¬te.size=0:=by omega
    simp[Builtin.append_,run_underlying hu,run_underlying hu',sizeOf,typeInfo,hi,Builtin.lenOf,hroom,asInt,asIntOf,y,A,p,hn,g,d,zeroValue,hz,u]
 ·have m:=m hroom;have D:¬(2^48<Builtin.nextslicecap (s.len+n) s.cap*te.bytes):=by
   have:=MS (s.len+n) s.cap hroom;have:Builtin.nextslicecap (s.len+n) s.cap*te.bytes<=2*(s.len+n)*te.bytes:=pf _ this;rw[xm]at this;omega
  have j:¬(281474976710656<Builtin.nextslicecap (s.len+n) s.cap*te.bytes):=by simpa using D
  let q:=Question.appendCap (s.len+n) s.cap e
  let c:=q.cut (w.tape w.drawn q)
  have Z:s.len+n<=c:=by simp only[c,q,Question.cut];omega
  have R:=m c Z;refine⟨⟨some ⟨w.heap.size,0,none⟩,s.len+n,c⟩,{w with drawn:=w.drawn+1,heap:=w.heap.push (.cells (X++(List.replicate n z.cells.toList).flatten++(List.replicate (c-(s.len+n)) z.cells.toList).flatten).toArray e (0,0))},?_,⟨rfl,rfl,rfl,by simp⟩,R⟩;have hf:(Question.appendCap (s.len+n) s.cap e).forced=false:=rfl;have N:¬(9223372036854775807<(s.len:Int)+(n:Int)):=by omega
  have x:=yD (P:=P) (w:=w.drew) (n:=s.len) V (show Rd w.drew.heap s.a X from W) rfl;by_cases hn:n*te.size=0
  ·rcases yo.1 hn with hn'|hn'
   ·subst hn';have b:¬s.len<=s.cap:=by simpa using hroom
    have C:¬(281474976710656<Builtin.nextslicecap s.len s.cap*te.bytes):=by simpa using j
    have H:(Question.appendCap s.len s.cap e).forced=false:=rfl;have E:¬(9223372036854775807<(s.len:Int)):=by omega
    simp[Builtin.append_,run_underlying hu,run_underlying hu',sizeOf,typeInfo,hi,Builtin.lenOf,b,E,H,C,x,zeroValue,hz,u,newRow,asInt,asIntOf,B];refine⟨rfl,?_⟩;unfold World.alloc World.drew;simp[c,q]
   ·omega
  ·have g:¬n=0:=λe=>hn (by rw[e];simp);have d:¬te.size=0:=by omega
   simp[Builtin.append_,run_underlying hu,run_underlying hu',sizeOf,typeInfo,hi,Builtin.lenOf,hroom,N,hf,j,x,zeroValue,hz,u,newRow,asInt,asIntOf,y,A,p,hn,g,d];refine⟨rfl,?_⟩;unfold World.alloc World.drew;simp[c,q]
theorem WnH {P:Program}{t e ty:Nat}{ats:List TypeId}{te:TypeInfo}{d s:Sl}{K:aN}{w:World}(hu:P.underlying t=some (.slice e))(hi:P.info? e=some te)
 (h:wS d te.size s w.heap K):∃z w',(Builtin.copy_ (t::ats).toArray ty #[.slice d.a d.len d.cap,.slice s.a s.len s.cap]).run P w=.ok (.int .i64 z) w'/\ZQ w w'/\K z w'.heap:=by
 obtain⟨p,r,i,y,m⟩:=h;have g:(Builtin.firstCells te.size (min s.len d.len) (.slice s.a s.len s.cap)).run P w=.ok p.toArray w:=by
  obtain⟨a,len,cap⟩:=s;cases a with
  | none=>simp only[Rd]at i;subst i;simp[Builtin.firstCells]
  | some a=>
   simp only at r i;simp only[Builtin.firstCells];rw[←r];exact run_loadCells_list (P:=P) (w:=w) a p (λj v B=>i j v B)
 have b:Nat.min s.len d.len=min s.len d.len:=rfl;cases hda:d.a with
 | none=>
  rw[hda]at m;refine⟨_,w,?_,.refl _,m⟩;simp[Builtin.copy_,run_underlying hu,sizeOf,typeInfo,hi,Builtin.lenOf,g,b,goInt]
 | some a=>
  rw[hda]at m;obtain⟨w',u,A,x⟩:=GG (P:=P) y m;refine⟨_,w',?_,A,x⟩;simp[Builtin.copy_,run_underlying hu,sizeOf,typeInfo,hi,Builtin.lenOf,g,b,u,goInt]
theorem RT {P:Program}{t e ty:Nat}{te:TypeInfo}{z:Value}{s:Sl}{K:aP}{w:World}(hu:P.underlying t=some (.slice e))(hi:P.info? e=some te)(hz:te.zero=some z)(hzs:z.cells.size=te.size)(hpos:0<te.size)
 (h:DD s z.cells.toList w.heap K):∃w',(Builtin.clear_ #[t] ty #[.slice s.a s.len s.cap]).run P w=.ok (.tuple #[]) w'/\ZQ w w'/\K w'.heap:=by
 obtain⟨i,h⟩:=h;have d:=VK (z:=z.cells) O;obtain⟨a,len,cap⟩:=s;cases a with
 | none=>exact⟨w,by simp[Builtin.clear_,run_underlying hu],.refl _,h⟩
 | some a=>
  simp only at h;cases len with
  | zero=>
   simp[uu]at h;exact⟨w,by simp[Builtin.clear_,run_underlying hu],.refl _,h⟩
  | succ n=>
   obtain⟨w',g,m,j⟩:=GG (P:=P) (λv b=>by
    simp only[List.mem_flatten,BJ]at b;obtain⟨l,⟨_,rfl⟩,b⟩:=b;exact i v b) h
   refine⟨w',?_,m,j⟩;simp[Builtin.clear_,run_underlying hu,zeroValue,typeInfo,hi,hz,d,g]
theorem SJ {P:Program}{t len:Nat}{ps:List (Nat×Value)}{K:TypeId->List Value->Prop}(h:DL P t len ps K):∃e te z cs,P.underlying t=some (.slice e)/\P.info? e=some te/\te.zero=some z/\K e cs ∧
 ((len=0/\ps=[]/\cs=[])\/(len*te.size<=16777216/\0<len*te.size/\z.cells.size=te.size/\wz (λi=>some (i*te.size,te.size)) (List.replicate len z.cells.toList).flatten ps=some cs)):=by
 unfold DL at h;split at h
 case h_2=>exact h.elim
 rename_i e hu;split at h
 case h_2=>exact h.elim
 rename_i te hi;split at h
 case h_2=>exact h.elim
 rename_i z hz;split at h
 ·exact⟨e,te,z,[],hu,hi,hz,h,.inl ⟨rfl,rfl,rfl⟩⟩
 ·exact h.elim
 ·rw[WK]at h;obtain⟨a,h⟩:=h;simp only[zG,zY]at a;split at h
  case h_2=>exact h.elim
  rename_i cs hf;exact⟨e,te,z,cs,hu,hi,hz,h,.inr ⟨Nat.le_of_ble_eq_true a.1.1,Nat.blt_eq.mp a.1.2,a.2,hf⟩⟩
theorem My {z:Array Value}(hz:0<z.size)(n:Nat):((Array.range (n*z.size)).map (z[· % z.size]!))=(List.replicate n z.toList).flatten.toArray:=VK hz n
theorem Rn {P:Program}{ρ:Env}{K:Value->Hp->Prop}{a:Act}{w:World}(hf:∀x v,ev ρ x=some v->a.eval x=v)(o:Oper)(hk:eK P o.op o.type ρ w.heap K) :
 Vt P (execOp a.eval o) w K:=by
 obtain⟨dst,op,ty,pos,after,guard⟩:=o;simp only at hk;have p:∀{s:Sem Value},(∃v B,s.run P w=.ok v B/\ZQ w B/\K v B.heap)->Vt P (do pure (Next.value (←s)):Sem Next) w K:=by
  rintro s ⟨v,B,hv,H,D⟩;exact .inl ⟨v,B,by simp[hv],H,D⟩
 have N:∀{s:Sem Unit},(∃B,s.run P w=.ok () B/\ZQ w B/\K undef B.heap)->Vt P (do s;pure Next.skip:Sem Next) w K:=by
  rintro s ⟨B,hv,H,D⟩;exact .inr (.inl ⟨B,by simp[hv],H,D⟩)
 unfold eK at hk;split at hk
 case h_1 t x y=>
  obtain⟨va,M,hk0⟩:=Wq hk;clear hk;obtain⟨Z,hx,hk⟩:=Wq hk0;clear hk0;simp only[execOp,hf _ _ M,hf _ _ hx];split at hk
  ·rename_i ad;cases hraw:By P t
   case true=>
    rw[hraw]at hk;simp only[cond_true]at hk;rw[WK]at hk;obtain⟨hc,hif,s1,s2,D⟩:=hk;simp only[zG,zY]at hc;obtain⟨h1,h2⟩:=hc;apply N;have hone:dP Z=true:=by rcases hif with rfl|⟨t',u,rfl⟩<;>rfl
    have G:Z.cells = #[Z]:=by rcases hif with rfl|⟨t',u,rfl⟩<;>rfl
    have C:=Nu (P:=P) (w:=w) hone s1 s2;refine⟨w.setCell ad Z,?_,⟨rfl,rfl,rfl,Nat.le_of_eq (Vz w.heap ad Z).symm⟩,D⟩;have hr':(storeCells ad #[Z].toList).run P w=.ok () (w.setCell ad Z):=by
     simp only[storeCells,Addr.add_zero',Sem.run_bind,C,Result.andThen_ok];rfl
    simp only[Instr.storeAt,Instr.sureAddr,Sem.run_bind,Sem.run_pure,Result.andThen_ok,storeVar,Q3 h1,h2,G,ne_eq,zz];simpa using hr'
   rw[hraw]at hk;simp only[cond_false]at hk;rw[WK]at hk;obtain⟨hc,hk⟩:=hk;simp only[zG,zY]at hc;obtain⟨h1,h2⟩:=hc;obtain⟨hk,h3⟩:=Jy hk;apply N;obtain⟨B,C,H,D⟩:=Ε (P:=P) h3 hk;refine⟨B,?_,H,D⟩;simp only[Instr.storeAt,Instr.sureAddr,Sem.run_bind,Sem.run_pure,Result.andThen_ok,storeVar,Q3 h1,h2,ne_eq,not_true_eq_false,zz];simpa using C
  ·exact hk.elim
 case h_2 e=>
  split at hk
  case h_2=>exact hk.elim
  rename_i Q J;split at hk
  case h_2=>exact hk.elim
  rename_i z S;apply p;refine⟨_,_,?_,Us _ _,hk⟩;simp[Instr.alloc,VP J S,newVar,newRow,newObj,Sem.run]
 case h_3 e x=>
  obtain⟨v,hv,hk⟩:=Wq hk;simp only[execOp,hf _ _ hv];apply p;cases hraw:By P e
  case true=>
   rw[hraw]at hk;simp only[cond_true]at hk;have G:v.cells = #[v]:=by rcases hk.1 with rfl|⟨t',u,rfl⟩<;>rfl
   refine⟨_,_,?_,Us _ _,hk.2⟩;simp[Instr.box,newVar,newRow,newObj,Sem.run,G]
  rw[hraw]at hk;refine⟨_,_,?_,Us _ _,hk⟩;simp[Instr.box,newVar,newRow,newObj,Sem.run]
 case h_4 t len ps=>
  split at hk
  case h_2=>exact hk.elim
  rename_i vs hps;have L:=Un hf hps;have d:ps.map (λ(i,x)=>(i,a.eval x))=vs.toArray:=by apply Array.ext';simpa using L
  obtain⟨e,Q,z,cs,E,J,S,hk,hcase⟩:=SJ hk;simp only[execOp,d];apply p;refine⟨_,_,?_,Us _ _,hk⟩;rcases hcase with⟨rfl,rfl,rfl⟩|⟨hle,aa,hzs,hfl⟩
  ·simp only[Instr.buildSlice,Sem.run_bind,run_underlying E,Result.andThen_ok,sizeOf,V9 J,Sem.run_pure,yL];simp[Instr.fill,newRow,newObj,Sem.run,Array.range_zero']
  have hts:0<Q.size:=Nat.pos_of_mul_pos_left aa;have hfill:=UR _ _ _ _ hfl;have Y:=My (z:=z.cells) O len;rw[hzs]at Y;have hne:¬(len*Q.size=0):=by omega
  have hle':¬(len*Q.size>2^24):=by
   have:(2:Nat)^24=16777216:=by decide
   omega
  simp only[Instr.buildSlice,Sem.run_bind,run_underlying E,Result.andThen_ok,sizeOf,V9 J,Sem.run_pure,hle',zz,hne,VP J S,Y,hzs,hfill,newRow,newObj,Sem.run]
 case h_5 t r=>
  split at hk
  ·apply p;refine⟨_,_,?_,Us _ _,hk⟩;simp[Instr.makeMap,newObj,Sem.run]
  ·exact hk.elim
 case h_6 t l c=>
  obtain⟨vl,hl,hk⟩:=Wq hk;obtain⟨vc,hc,hk⟩:=Wq hk;simp only[execOp,hf _ _ hl,hf _ _ hc];split at hk
  case h_2=>exact hk.elim
  rename_i e n m E _;split at hk
  case h_2=>exact hk.elim
  rename_i Q J;split at hk
  case h_2=>exact hk.elim
  rename_i z S;rw[WK]at hk;obtain⟨j,h0,h1,h2,h3,hk⟩:=hk;simp only[zG,zY]at j;have aa:0<Q.size:=Nat.blt_eq.mp j.2;apply p;refine⟨_,_,?_,Us _ _,hk⟩;have hwn:IntKind.i64.wrap n=n:=by unfold IntKind.wrap;simp[IntKind.bits,IntKind.signed];omega
  have hwm:IntKind.i64.wrap m=m:=by unfold IntKind.wrap;simp[IntKind.bits,IntKind.signed];omega
  have hbig:¬((Q.bytes:Int)*m>2^48):=by
   have:(2:Int)^46<=2^48:=by decide
   omega
  have hm0:¬m<0:=by omega
  have hn0:¬n<0:=by omega
  have hnm:¬n>m:=by omega
  have ab:¬m<n:=by omega
  have Y:=My (z:=z.cells) O m.toNat;have hrz2:Array.map (λx=>z.cells[x%z.cells.size]!) (Array.range (m.toNat*Q.size))=(List.replicate m.toNat z.cells.toList).flatten.toArray:=by rw[←j.1];exact Y
  have V:¬(281474976710656<(Q.bytes:Int)*m):=by simpa using hbig
  by_cases hz0:m.toNat*Q.size=0
  ·have hmz:m.toNat=0:=by
    rcases yo.1 hz0 with h|h
    ·exact h
    ·omega
   simp[Instr.makeSlice,run_underlying E,V9 J,asInt,asIntOf,hwn,hwm,V,hm0,hn0,hnm,ab,askRoom,mark,sizeOf,hmz,newRow];rw[show Array.range 0 = #[]from rfl];simp
  ·simp[Instr.makeSlice,run_underlying E,V9 J,asInt,asIntOf,hwn,hwm,V,hm0,hn0,hnm,ab,askRoom,mark,sizeOf,hz0,VP J S,newRow,hrz2];intro _;rfl
 case h_7 t x=>
  obtain⟨v,hv,F⟩:=Wq hk;obtain⟨kt,et,ki,c,E,W,R⟩:=Fl F;clear hk F;simp only[execOp,hf _ _ hv];split at R
  case h_2=>exact R.elim
  rename_i m;apply p;obtain⟨l,hm,D⟩:=R;cases m with
  | none=>
   refine⟨_,{w with heap:=w.heap.push (.mapIter none 0 #[] 0)},?_,Us _ _,D _ aA (λb hb=>by simp[Ch,zv hb]) ?_⟩
   ·simp[Instr.range,run_underlying E,newObj,Sem.run]
   ·simp only[lA]at hm;exact⟨hm,hm,rfl,0,#[],0,by simp⟩
  | some b=>
   obtain⟨es,clk,C,he,hn,hp,hb⟩:=hm;have hlt:b<w.heap.size:=(pJ.1 C).1;refine⟨_,{w with heap:=w.heap.push (.mapIter (some b) clk #[] clk)},?_,Us _ _,D _ aA (λb hb=>by simp[Ch,zv hb]) ?_⟩
   ·simp[Instr.range,run_underlying E,newObj,getObj,Sem.run,C]
   ·exact⟨es,clk,#[],by simp,by simp[Ch,zv hlt,C],he,hn,hp,hb,by rw[rp.2 (λe _=>by simp)];exact he,λx hx=>by cases hx⟩
 case h_8 t m k x=>
  obtain⟨vm,hm,F⟩:=Wq hk;obtain⟨vk,hkk,R⟩:=Wq F;obtain⟨Z,hx,hk3⟩:=Wq R;obtain⟨kt,et,ki,c,E,W,U⟩:=Fl hk3;clear hk F R hk3;simp only[execOp,hf _ _ hm,hf _ _ hkk,hf _ _ hx];split at U
  ·split at U
   ·rename_i e;subst e;obtain⟨x,rfl,r,l,rfl,hl,D⟩:=UI U;apply N;obtain⟨B,C,H,ho,hl'⟩:=Pp (P:=P) E W (x:=x) hl;exact⟨B,C,H,D _ ho hl'⟩
   ·exact U.elim
  ·exact U.elim
 case h_9 c=>
  obtain⟨callee,A,ats⟩:=c;simp only at hk;split at hk
  ·rename_i f args' M;have L:=Z4 hf M;have d:A.map a.eval=args'.toArray:=by apply Array.ext';simpa using L
   have:=T6 hk;simpa[execOp,resolve,d,Act.eval,Deferred.ofValue,invoke]using this
  ·rename_i g args' _ M;obtain⟨vg,hg,hk⟩:=Wq hk;obtain⟨fv,rfl,hk⟩:=UI hk;have L:=Z4 hf M;have d:A.map a.eval=args'.toArray:=by apply Array.ext';simpa using L
   have:=Ru hk;simpa[execOp,resolve,d,hf _ _ hg,CK.v,Deferred.ofValue,invoke]using this
  ·rename_i r name args' M;obtain⟨vr,C,hk⟩:=Wq hk;have L:=Z4 hf M;have d:A.map a.eval=args'.toArray:=by apply Array.ext';simpa using L
   have:=TR hk;simpa[execOp,resolve,d,hf _ _ C,invoke]using this
  ·rename_i sa sn sc xa xn xc t t' M ht;have L:=Z4 hf M;have d:A.map a.eval = #[.slice sa sn sc,.slice xa xn xc]:=by apply Array.ext';simpa using L
   have X:ats = #[t,t']:=by apply Array.ext';simpa using ht
   subst X;split at hk
   case h_2=>exact hk.elim
   rename_i e E;split at hk
   case h_2=>exact hk.elim
   rename_i Q J;split at hk
   case h_2=>exact hk.elim
   rename_i z S;rw[WK]at hk;obtain⟨j,hk⟩:=hk;simp only[zG,zY]at j;obtain⟨⟨h1,h2⟩,h3⟩:=j;have ett:t=t':=pd h1;subst ett;obtain⟨r,B,C,H,D⟩:=RQ (P:=P) (ty:=ty) E J S h2 (Nat.blt_eq.mp h3) hk;refine .inl ⟨_,B,?_,H,D⟩;simp only at C;simp[execOp,resolve,d,invoke,builtin,C]
  ·rename_i m k' n t ats' M ht;have L:=Z4 hf M;have d:A.map a.eval = #[.map m,.int k' n]:=by apply Array.ext';simpa using L
   have X:ats=(t::ats').toArray:=by apply Array.ext';simpa using ht
   subst X;obtain⟨kt,et,ki,c,E,W,F⟩:=Fl hk;clear hk;split at F
   ·rename_i e;subst e;obtain⟨l,hl,D⟩:=F;obtain⟨B,C,H,h1,h2,h3⟩:=PH (P:=P) (ty:=ty) (ats:=ats') E W (n:=n) hl;refine .inl ⟨_,B,?_,H,D _ h1 h2 h3⟩;simp[execOp,resolve,d,invoke,builtin,C]
   ·exact F.elim
  ·rename_i sa sn sc n t t' M ht;have L:=Z4 hf M;have d:A.map a.eval = #[.slice sa sn sc,.int .i64 n]:=by apply Array.ext';simpa using L
   have X:ats = #[t,t']:=by apply Array.ext';simpa using ht
   subst X;split at hk
   case h_2=>exact hk.elim
   rename_i e ki E hu';split at hk
   case h_2=>exact hk.elim
   rename_i Q J;split at hk
   case h_2=>exact hk.elim
   rename_i z S;rw[WK]at hk;obtain⟨j,hk⟩:=hk;simp only[zG,zY]at j;obtain⟨r,B,C,H,D⟩:=WlV (P:=P) (ty:=ty) E hu' J S j.1 (Nat.blt_eq.mp j.2) hk;refine .inl ⟨_,B,?_,H,D⟩;simp only at C;simp[execOp,resolve,d,invoke,builtin,C]
  ·rename_i da dn dc xa xn xc t ats' M ht;have L:=Z4 hf M;have d:A.map a.eval = #[.slice da dn dc,.slice xa xn xc]:=by apply Array.ext';simpa using L
   have X:ats=(t::ats').toArray:=by apply Array.ext';simpa using ht
   subst X;split at hk
   case h_2=>exact hk.elim
   rename_i e E;split at hk
   case h_2=>exact hk.elim
   rename_i Q J;obtain⟨r,B,C,H,D⟩:=WnH (P:=P) (ty:=ty) (ats:=ats') E J hk;refine .inl ⟨_,B,?_,H,D⟩;simp only at C;simp[execOp,resolve,d,invoke,builtin,C]
  ·rename_i sa sn sc t M ht;have L:=Z4 hf M;have d:A.map a.eval = #[.slice sa sn sc]:=by apply Array.ext';simpa using L
   have X:ats = #[t]:=by apply Array.ext';simpa using ht
   subst X;split at hk
   case h_2=>exact hk.elim
   rename_i e E;split at hk
   case h_2=>exact hk.elim
   rename_i Q J;split at hk
   case h_2=>exact hk.elim
   rename_i z S;rw[WK]at hk;obtain⟨j,hk⟩:=hk;simp only[zG,zY]at j;obtain⟨B,C,H,D⟩:=RT (P:=P) (ty:=ty) E J S j.1 (Nat.blt_eq.mp j.2) hk;refine .inl ⟨_,B,?_,H,D⟩;simp only at C;simp[execOp,resolve,d,invoke,builtin,C]
  ·exact hk.elim
 ·exact hk.elim
theorem NT {k:IntKind}{c:CK}(p:MapEntry->Bool)(q:Int×c.T->Bool):∀(L:List MapEntry) (T:List (Int×c.T)),L.map (λe=>(e.key,e.val))=T.map (λx=>(Value.int k x.1,c.v x.2)) →
 (∀(j:Nat) (e:MapEntry) (y:Int×c.T),L[j]?=some e->T[j]?=some y->p e=q y)->(L.filter p).map (λe=>(e.key,e.val))=(T.filter q).map (λx=>(Value.int k x.1,c.v x.2))
 | [],T,h,_=>by
  cases T with
  | nil=>rfl
  | cons y T=>simp at h
 | e::L,[],h,_=>by simp at h
 | e::L,y::T,h,hpq=>by
  simp only[zH,List.cons.injEq]at h;have h0:=hpq 0 e y rfl rfl;have a:=NT p q L T h.2 (λj b i g d=>hpq (j+1) b i (by simpa using g) (by simpa using d));simp only[sA,h0];cases q y
  ·simpa using a
  ·simp[h.1,a]
theorem It.tF {P:Program}{r:Nat}{k:IntKind}{c:CK}{m:Option Nat}{l todo:List (Int×c.T)}{cur:Option (Int×c.T)}{w:World}(hit:It w.heap r k c m l todo cur)(ty:Nat) :
 (todo=[]/\∃w',(Instr.next (.pointer (some ⟨r,0,none⟩)) false ty).run P w=.ok (.tuple #[.bool false]) w'/\ZQ w w'/\w'.heap=w.heap) ∨
 (∃n x w',(n,x)∈todo/\(Instr.next (.pointer (some ⟨r,0,none⟩)) false ty).run P w=.ok (.tuple #[.bool true,.int k n,c.v x]) w'/\ZQ w w'/\QJ w.heap w'.heap r ∧
  It w'.heap r k c m l (todo.filter λy=>!(y.1==n)) (some (n,x))):=by
 cases m with
 | none=>
  obtain⟨rfl,rfl,rfl,s,q,y,hr⟩:=hit;exact .inl ⟨rfl,w,by simp[Instr.next,getObj,Sem.run,hr],.refl _,rfl⟩
 | some b=>
  obtain⟨es,clk,seen,hr,hb,he,hn,hp,hlt,htodo,hcur⟩:=hit;have hrlt:r<w.heap.size:=(pJ.1 hr).1;have hrb:r≠b:=λe=>by rw[e,hb]at hr;cases hr
  have hchk:¬((!seen.isEmpty && !es.isEmpty&&es.all (·.born≥clk))=true):=by
   intro h;simp only[zG,pZ,Array.all_eq_true',zV]at h;obtain⟨⟨_,h2⟩,h3⟩:=h;have h2':es ≠ #[]:=by simpa[Array.isEmpty_iff]using h2
   obtain⟨e,hme⟩:=Array.exists_mem_of_ne_empty es h2';have:=h3 e hme;have:=hlt e (by simpa using hme);omega
  have hold:((es.filter λe=>!seen.contains e.born).filter (·.born<clk))=es.filter λe=>!seen.contains e.born:=by
   rw[Array.filter_eq_self];intro e hme;have:e∈es:=(Array.mem_filter.1 hme).1;simpa using hlt e (by simpa using this)
  have hnew:((es.filter λe=>!seen.contains e.born).filter (·.born≥clk)) = #[]:=by
   rw[Array.filter_eq_empty_iff];intro e hme;have:e∈es:=(Array.mem_filter.1 hme).1;have:=hlt e (by simpa using this);simp;omega
  have hlist:(es.filter λe=>!seen.contains e.born).toList=es.toList.filter λe=>!seen.contains e.born:=Array.toList_filter;have hrun:∀(cand:Array (Option MapEntry)),cand=(if(es.filter λe=>!seen.contains e.born).isEmpty then #[none]else #[])++(es.filter λe=>!seen.contains e.born).map some →
   (Instr.next (.pointer (some ⟨r,0,none⟩)) false ty).run P w=(do
    match cand[←choose (.mapNext cand.size)]? with
    | some (some e)=>do
     setObj r (.mapIter (some b) clk (seen.push e.born) clk)
     pure (.tuple #[.bool true,e.key,e.val])
    | some none=>pure (.tuple #[.bool false])
    | none=>stuck "Next: no such candidate" : Sem Value).run P w := by
   rintro cand rfl;simp only[Instr.next,getObj,Sem.run_bind,Sem.run,hr,Result.andThen_ok,hb,hchk,zz,hold,hnew,Array.append_empty,zd,Sem.run_bind]
   try rfl
  cases htd:todo with
  | nil=>
   left;subst htd;have hnil:(es.filter λe=>!seen.contains e.born) = #[]:=by
    apply Array.ext';rw[hlist];have:=congrArg List.length htodo;simpa using this
   refine⟨rfl,w,?_,.refl _,rfl⟩;rw[hrun #[none] (by rw[hnil];simp)];simp[choose,Sem.run,Question.forced]
  | cons y ys=>
   right;have hlen:(es.filter λe=>!seen.contains e.born).size=todo.length:=by
    rw[←Bx,hlist];simpa using congrArg List.length htodo
   have hne:(es.filter λe=>!seen.contains e.born).isEmpty=false:=by
    rw[htd]at hlen;simp only[zN]at hlen;cases hce:(es.filter λe=>!seen.contains e.born).isEmpty
    ·rfl
    ·rw[Array.isEmpty_iff]at hce;rw[hce]at hlen;simp at hlen
   have key:∀(i:Nat),i<todo.length->∀w1:World,w1.heap=w.heap->ZQ w w1->∃n x w',(n,x)∈todo ∧
    ((match ((es.filter λe=>!seen.contains e.born).map some)[i]? with
     | some (some e)=>do
      setObj r (.mapIter (some b) clk (seen.push e.born) clk)
      pure (.tuple #[.bool true,e.key,e.val])
     | some none=>pure (.tuple #[.bool false])
     | none=>stuck "Next: no such candidate" : Sem Value)).run P w1 = .ok (.tuple #[.bool true, .int k n, c.v x]) w' /\ ZQ w w' /\ QJ w.heap w'.heap r ∧
    It w'.heap r k c (some b) l (todo.filter λy=>!(y.1==n)) (some (n,x)):=by
    intro i hi w1 hw1 io;have hi':i<(es.filter λe=>!seen.contains e.born).size:=by omega
    let e:=(es.filter λe=>!seen.contains e.born)[i]
    have hei:(es.filter λe=>!seen.contains e.born)[i]?=some e:=by simp[e,hi']
    have hti:(es.toList.filter λe=>!seen.contains e.born)[i]?=some e:=by rw[←hlist,CE];exact hei
    have hty:todo[i]?=some todo[i]:=by simp[hi]
    have hkv:(e.key,e.val)=(Value.int k todo[i].1,c.v todo[i].2):=by
     have:=congrArg (λl=>l[i]?) htodo;simp only[zi,hti,hty,zj,Option.some.injEq]at this;exact this
    simp only[Prod.mk.injEq]at hkv;have hmemF:e∈es.toList.filter λe=>!seen.contains e.born:=zE hti;have hme:e∈es.toList:=(zF.1 hmemF).1;have hns:seen.contains e.born=false:=by simpa using(zF.1 hmemF).2
    refine⟨todo[i].1,todo[i].2,{w1 with heap:=w1.heap.setIfInBounds r (.mapIter (some b) clk (seen.push e.born) clk)},zf _,?_,?_,?_,?_⟩
    ·have hr1:w1.heap[r]?=some (.mapIter (some b) clk seen clk):=by rw[hw1];exact hr
     simp only[Array.getElem?_map,hei,zj,setObj,Sem.run_bind,Sem.run,hr1,Result.andThen_ok,Sem.run_pure,hkv.1,hkv.2]
    ·exact⟨io.1,io.2.1,io.2.2.1,by simp only[Array.size_setIfInBounds];exact io.2.2.2⟩
    ·rw[hw1];exact HX _ _ _
    ·rw[hw1];refine⟨es,clk,seen.push e.born,by simp[hrlt],?_,he,hn,hp,hlt,?_,λx hx=>?_⟩
     ·rw[BE hrb];exact hb
     ·-- the rest
      have hinj:∀e'∈es.toList,(e'.born==e.born)=true->e'=e:=by
       intro e' h1 h2;have h2':e'.born=e.born:=by simpa using h2
       obtain⟨p,hp1,mC⟩:=yM h1;obtain⟨q,hq1,hq2⟩:=yM hme;have hpw:=nB.1 hp;rcases ui p q with h|h|h
       ·have:=hpw p q (by simpa using hp1) (by simpa using hq1) h;simp[mC,hq2,h2']at this
       ·subst h;rw[←mC,hq2]
       ·have:=hpw q p (by simpa using hq1) (by simpa using hp1) h;simp[mC,hq2,h2']at this
      have hf1:(es.toList.filter λe'=>!(seen.push e.born).contains e'.born)=(es.toList.filter λe'=>!seen.contains e'.born).filter λe'=>!(e'.born==e.born):=by
       rw[Ir];apply yE;intro e' _;simp[Array.contains_eq_mem,Array.mem_push];rw[Bool.and_comm]
       congr 1
      rw[hf1];refine NT _ _ _ _ htodo λj e' y h1 h2=>?_;have hm':e'∈es.toList:=(zF.1 (zE h1)).1;have hkv':(e'.key,e'.val)=(Value.int k y.1,c.v y.2):=by
       have:=congrArg (λl=>l[j]?) htodo;simp only[zi,h1,h2,zj,Option.some.injEq]at this;exact this
      simp only[Prod.mk.injEq]at hkv'
      congr 1
      rw[qN];constructor
      ·intro hb';have:=hinj e' hm' hb';subst this;have:=hkv'.1.symm.trans hkv.1;simp only[Value.int.injEq,yb]at this;simpa using this
      ·intro hy;have hy':y.1=todo[i].1:=by simpa using hy
       have hkk:e'.key=e.key:=by rw[hkv'.1,hkv.1,hy']
       obtain⟨p,hp1,mC⟩:=yM hm';obtain⟨q,hq1,hq2⟩:=yM hme;have hll:es.toList.length=l.length:=by simpa using congrArg List.length he
       have hk1:∀(p:Nat) (hp:p<es.toList.length),es.toList[p].key=.int k (l[p]' O).1:=by
        intro p hp;have:=congrArg (λl=>l[p]?) he;simp only[zi,cM hp,cM (show p<l.length by omega),zj,Option.some.injEq,Prod.mk.injEq]at this;exact this.1
       have e1:=hk1 p hp1;have e2:=hk1 q hq1;rw[mC]at e1;rw[hq2]at e2;rw[hkk,e2]at e1;simp only[Value.int.injEq,yb]at e1;have:p=q:=by
        have hnn:=nB.1 hn;rcases ui p q with h|h|h
        ·exact absurd (by rw[wc,wc];exact e1.symm) (hnn p q aE aE h)
        ·exact h
        ·exact absurd (by rw[wc,wc];exact e1) (hnn q p aE aE h)
       subst this;rw[←mC,←hq2];simp
     ·cases hx;refine⟨e,hme,by simp,hkv.1,hkv.2⟩
   have hsz:((if(es.filter λe=>!seen.contains e.born).isEmpty then #[none]else #[])++(es.filter λe=>!seen.contains e.born).map some:Array (Option MapEntry))=(es.filter λe=>!seen.contains e.born).map some:=by
    rw[hne];simp
   rw[←htd];rw[hrun _ hsz.symm];have hpos:0<todo.length:=by rw[htd];simp
   simp only[Sem.run_bind,choose,Sem.run,Array.size_map,hlen];cases hfo:(Question.mapNext todo.length).forced
   ·simp only[zd,zz,Result.andThen_ok];exact key _ (by simp only[Question.cut];exact yq _ hpos) _ rfl ⟨rfl,rfl,rfl,zD _⟩
   ·simp only[zW,Result.andThen_ok];exact key 0 hpos w rfl (.refl _)
theorem It.ο {P:Program}{r:Nat}{k:IntKind}{c:CK}{m:Option Nat}{l todo:List (Int×c.T)}{n:Int}{x:c.T}{w:World}(hit:It w.heap r k c m l todo (some (n,x))) :
 (Instr.entry (.pointer (some ⟨r,0,none⟩))).run P w=.ok (.tuple #[.int k n,c.v x]) w:=by
 cases m with
 | none=>obtain⟨_,_,h,_⟩:=hit;cases h
 | some b=>
  obtain⟨z,H,A,F,J,K,L,D,C,s,i⟩:=hit;obtain⟨e,y,d,B,E⟩:=i _ rfl;have a:z.find? (·.born==e.born)=some e:=by
   rw[←Array.find?_toList,List.find?_eq_some_iff_getElem];obtain⟨p,g,mC⟩:=yM y;refine⟨by simp,p,g,mC,λj G=>?_⟩;have u:=nB.1 D j p (by simp;simp at g;omega) (by simpa using g) G;rw[wc,wc,mC]at u;rw[pZ];cases hb2:(z.toList[j].born==e.born)
   ·rfl
   ·have:=zY.1 hb2;omega
  simp[Instr.entry,getObj,Sem.run,F,J,d,a,B,E]
def Dl (k:IntKind)(c:CK)(o:Op)(ρ:Env)(h:Hp)(K:Value->Hp->Prop):Prop:=
 match o with
 | .next x false=>wv (ev ρ x) λv=>match v with
  | .pointer (some a)=>wB k c a h (K (.tuple #[.bool false]) h) λn y h'=>K (.tuple #[.bool true,.int k n,c.v y]) h'
  | _=>False
 | .entry x=>wv (ev ρ x) λv=>match v with
  | .pointer (some a)=>wo k c a h λn y=>K (.tuple #[.int k n,c.v y]) h
  | _=>False
 | _=>False
theorem It.spot {a:Addr}(h:a.off=0):∃s,a=⟨a.block,0,s⟩:=⟨a.spot,by cases a;simp at h;subst h;rfl⟩
theorem Wgu {P:Program}{k:IntKind}{c:CK}{ρ:Env}{K:Value->Hp->Prop}{a:Act}{w:World}(hf:∀x v,ev ρ x=some v->a.eval x=v)(o:Oper)(hk:Dl k c o.op ρ w.heap K):Vt P (execOp a.eval o) w K:=by
 obtain⟨C,op,g,pos,i,u⟩:=o;simp only at hk;unfold Dl at hk;split at hk
 ·rename_i x;obtain⟨v,p,hk⟩:=Wq hk;simp only[execOp,hf _ _ p];split at hk
  case h_2=>exact hk.elim
  rename_i ad;obtain⟨j,m,l,e,B,d,D,z⟩:=hk;obtain⟨s,r⟩:=It.spot j;have b:∀w:World,(Instr.next (.pointer (some ad)) false g).run P w=(Instr.next (.pointer (some ⟨ad.block,0,none⟩)) false g).run P w:=by
   intro w;rw[r];rfl
  rcases d.tF (P:=P) g with⟨ht,w',hr,io,hh⟩|⟨n,y,w',hm,hr,io,ho,hi'⟩
  ·exact .inl ⟨.tuple #[.bool false],w',by simp[b,hr],io,by rw[hh];exact D ht⟩
  ·exact .inl ⟨.tuple #[.bool true,.int k n,c.v y],w',by simp[b,hr],io,z n y hm _ ho hi'⟩
 ·rename_i x;obtain⟨v,p,hk⟩:=Wq hk;simp only[execOp,hf _ _ p];split at hk
  case h_2=>exact hk.elim
  rename_i ad;obtain⟨j,m,l,e,n,y,d,A⟩:=hk;obtain⟨s,r⟩:=It.spot j;have b:(Instr.entry (.pointer (some ad))).run P w=(Instr.entry (.pointer (some ⟨ad.block,0,none⟩))).run P w:=by
   rw[r];rfl
  exact .inl ⟨.tuple #[.int k n,c.v y],w,by simp[b,d.ο (P:=P)],.refl _,A⟩
 ·exact hk.elim
structure Fits (N:Nat) (ρ:Env) (a:Act):Prop where
 defers:a.defers=[]
 size:a.tmps.size=N
 at_:∀i v,ρ i=some v->a.tmps[i]?=some v
theorem Fits.ev {N:Nat}{ρ:Env}{a:Act}(h:Fits N ρ a):∀x v,ev ρ x=some v->a.eval x=v:=by
 intro x v hx;cases x with
 | tmp t=>
  have:=h.at_ t v hx;simp[Act.eval,vW,this]
 | const u=>simp only[Vc.ev,Option.some.injEq]at hx;exact hx
 | global g=>simp only[Vc.ev,Option.some.injEq]at hx;exact hx
 | func f=>simp only[Vc.ev,Option.some.injEq]at hx;exact hx
def xP (N:Nat):Option Nat->Bool
 | some d=>Nat.blt d N
 | none=>true
theorem Fits.put {N:Nat}{ρ:Env}{a:Act}(h:Fits N ρ a){d:Option Nat}(hd:xP N d=true)(v:Value):Fits N (ρ.jJ d v) (a.put d v):=by
 cases d with
 | none=>exact h
 | some d=>
  have g:d<N:=Nat.blt_eq.mp hd;refine⟨h.defers,by simp[Act.put,h.size],λi u b=>?_⟩;simp only[Env.jJ,Env.put]at b;cases hi:Nat.beq i d
  ·rw[hi]at b;have j:i≠d:=λe=>by subst e;simp at hi
   simp only[Act.put];rw[BE (Ne.symm j)];exact h.at_ i u b
  ·rw[hi]at b;have e:i=d:=pd hi;subst e;simp only[cond_true,Option.some.injEq]at b;subst b;simp[Act.put,h.size,g]
theorem Fits.weaken {N:Nat}{ρ ρ':Env}{a:Act}(h:Fits N ρ a)(hw:∀i v,ρ' i=some v->ρ i=some v):Fits N ρ' a:=
 ⟨h.defers,h.size,λi v b=>h.at_ i v (hw i v b)⟩
theorem DP (ρ:Env)(ds:List Nat):∀i v,ρ.fB ds i=some v->ρ i=some v:=by
 intro i v h;simp only[Env.fB]at h;cases hc:ds.contains i<;>rw[hc]at h<;>simp at h
 exact h
theorem Fits.lit {N:Nat}{ρ:Env}{a:Act}(h:Fits N ρ a){c:Nat}{b b':Bool}(hc:ρ c=some (.bool b))(e:b=b'):Fits N (ρ.put c (.bool b')) a:=by
 subst e;refine h.weaken λi v d=>?_;simp only[Env.put]at d;cases hi:Nat.beq i c
 ·rw[hi]at d;exact d
 ·rw[hi]at d;have e:i=c:=pd hi;subst e;rw[hc];exact d
def sM (ops:Array Oper)(o:Oper)(ρ:Env):Bool:=
 match o.guard with
 | none=>true
 | some (j,want)=>match (ops[j]?).bind (·.dst)with
  | some c=>match ρ c with
   | some (.bool b)=>b==want
   | _=>false
  | none=>false
def wD (ops:Array Oper)(o:Oper)(ρ:Env):Bool:=
 match o.guard with
 | none=>false
 | some (j,want)=>match (ops[j]?).bind (·.dst)with
  | some c=>match ρ c with
   | some (.bool b)=>!(b==want)
   | some (.tuple _)=>true
   | _=>false
  | none=>false
theorem Qe {N:Nat}{ops:Array Oper}{o:Oper}{ρ:Env}{a:Act}(hf:Fits N ρ a)(h:sM ops o ρ=true):Region.wanted o (yielded ops a.tmps)=true:=by
 unfold sM at h;unfold Region.wanted;cases hg:o.guard with
 | none=>rfl
 | some jw=>
  obtain⟨j,d⟩:=jw;rw[hg]at h;simp only at h ⊢;cases hc:(ops[j]?).bind (·.dst)with
  | none=>rw[hc]at h;cases h
  | some c=>
   rw[hc]at h;simp only at h;split at h
   ·rename_i b hb;have:=hf.at_ c _ hb;simp only[yielded,hc,CU,this];simpa using h
   ·cases h
theorem VF {N:Nat}{ops:Array Oper}{o:Oper}{ρ:Env}{a:Act}(hf:Fits N ρ a)(h:wD ops o ρ=true):Region.wanted o (yielded ops a.tmps)=false:=by
 unfold wD at h;unfold Region.wanted;cases hg:o.guard with
 | none=>rw[hg]at h;cases h
 | some jw=>
  obtain⟨j,d⟩:=jw;rw[hg]at h;simp only at h ⊢;cases hc:(ops[j]?).bind (·.dst)with
  | none=>rw[hc]at h;cases h
  | some c=>
   rw[hc]at h;simp only at h;split at h
   ·rename_i b hb;have:=hf.at_ c _ hb;simp only[yielded,hc,CU,this];simpa using h
   ·rename_i b hb;have:=hf.at_ c _ hb;simp only[yielded,hc,CU,this];rfl
   ·cases h
def H6 (N:Nat)(ops:Array Oper):List Oper->Env->Bool
 | [],_=>true
 | o::os,ρ=>wD ops o ρ&&(xP N o.dst&&H6 N ops os (ρ.jJ o.dst undef))
theorem NY {P:Program}{N:Nat}{ops:Array Oper}{Q:Exit->Act->World->Prop}{tail:List Oper}{w:World}:∀{os:List Oper} {ρ:Env} {a:Act},H6 N ops os ρ=true->Fits N ρ a →
 (∀a',Fits N (ρ.fB (os.filterMap (·.dst))) a'->wpList P ops Q tail a' w)->wpList P ops Q (os++tail) a w
 | [],ρ,a,_,hf,h=>h a (hf.weaken (DP _ _))
 | o::os,ρ,a,hs,hf,h=>by
  simp only[H6,zG]at hs;obtain⟨h1,h2,h3⟩:=hs;have m:=VF hf h1;simp only[oR,wpList,m];refine NY h3 (hf.put h2 _) λa' j=>h a' (j.weaken λi v b=>?_);simp only[Env.fB]at b ⊢;cases hc:(List.filterMap (·.dst) (o::os)).contains i
  ·rw[hc]at b;simp only[cond_false]at b;have e:(List.filterMap (·.dst) os).contains i=false:=by
    cases hd:o.dst<;>simp_all
   have g:∀d,o.dst=some d->i≠d:=by
    intro d hd;simp_all
   rw[e];simp only[cond_false];cases hd:o.dst with
   | none=>exact b
   | some d=>
    have:=g d hd;simp only[Env.jJ,Env.put];have:Nat.beq i d=false:=by
     cases hb:Nat.beq i d
     ·rfl
     ·exact absurd (pd hb) this
    rw[this];exact b
  ·rw[hc]at b;cases b
theorem MY {P:Program}{N:Nat}{ops:Array Oper}{Q:Act->Prop}{tail:List Oper}{w:World}:∀{os:List Oper} {ρ:Env} {a:Act},H6 N ops os ρ=true->Fits N ρ a →
 (∀a',Fits N (ρ.fB (os.filterMap (·.dst))) a'->wpStill P ops w Q tail a')->wpStill P ops w Q (os++tail) a
 | [],ρ,a,_,hf,h=>h a (hf.weaken (DP _ _))
 | o::os,ρ,a,hs,hf,h=>by
  simp only[H6,zG]at hs;obtain⟨h1,h2,h3⟩:=hs;have m:=VF hf h1;simp only[oR,wpStill,m];refine MY h3 (hf.put h2 _) λa' j=>h a' (j.weaken λi v b=>?_);simp only[Env.fB]at b ⊢;cases hc:(List.filterMap (·.dst) (o::os)).contains i
  ·rw[hc]at b;simp only[cond_false]at b;have e:(List.filterMap (·.dst) os).contains i=false:=by
    cases hd:o.dst<;>simp_all
   have g:∀d,o.dst=some d->i≠d:=by
    intro d hd;simp_all
   rw[e];simp only[cond_false];cases hd:o.dst with
   | none=>exact b
   | some d=>
    have:=g d hd;simp only[Env.jJ,Env.put];have:Nat.beq i d=false:=by
     cases hb:Nat.beq i d
     ·rfl
     ·exact absurd (pd hb) this
    rw[this];exact b
  ·rw[hc]at b;cases b
def bZ (K:aO)(body:(Bool->Hp->Prop)->Prop):Prop:=∃J:Bool->Hp->Prop,(∀r h,J r h->K r h)/\body J
theorem bZ.intro {K:aO}{body:(Bool->Hp->Prop)->Prop}(h:body K):bZ K body:=⟨K,λ_ _ h=>h,h⟩
inductive RI where
 | op
 | it (k:IntKind) (c:CK)
 | dB (and:Bool) (n:Nat) (inner:List RI)
def Ec (b:Bool):Operand->Bool
 | .const (.bool b')=>b'==b
 | _=>false
def HV (ρ:Env)(x:Operand)(K:Bool->Prop):Prop:=match ev ρ x with
 | some (.bool r)=>K r
 | _=>False
def xk (ρ:Env)(c:Nat)(b:Bool):Bool:=match ρ c with
 | some (.bool b')=>b'==b
 | _=>false
def fV (P:Program)(N:Nat)(ops:Array Oper):Nat->List RI->List Oper->Env->Hp->(Env->Hp->Prop)->Prop
 | 0,_,_,_,_,_=>False
 | _+1,[],[],ρ,h,K=>K ρ h
 | n+1,.op::hs,o::os,ρ,h,K=>gU (sM ops o ρ&&xP N o.dst) (AI P o.op o.type ρ h λv h'=>fV P N ops n hs os (ρ.jJ o.dst v) h' K)
 | n+1,.it ki c::hs,o::os,ρ,h,K=>gU (sM ops o ρ&&xP N o.dst) (Dl ki c o.op ρ h λv h'=>fV P N ops n hs os (ρ.jJ o.dst v) h' K)
 | n+1,.dB and m inner::hs,os,ρ,h,K=>
  match os.drop m with
  | pk::rest=>match pk.op,pk.dst with
   | .pick (.tmp c) x y,some d=>match ρ c with
    | some (.bool b)=>gU (Nat.blt d N&&(Ec (!and) (bif and then y else x)&&(sM ops pk (ρ.fB ((os.take m).filterMap (·.dst)))&&(xk ((ρ.put c (.bool (!and))).fB ((os.take m).filterMap (·.dst))) c (!and)&&H6 N ops (os.take m) (ρ.put c (.bool (!and)))))))
     (bZ (λr h'=>fV P N ops n hs rest ((ρ.fB ((os.take m).filterMap (·.dst))).put d (.bool r)) h' K) λJ=>
      bif and then If b (fV P N ops n inner (os.take m) (ρ.put c (.bool true)) h λρ' h'=>gU (sM ops pk ρ'&&xk ρ' c true) (HV ρ' x λr=>J r h')) (J false h)
      else If b (J true h) (fV P N ops n inner (os.take m) (ρ.put c (.bool false)) h λρ' h'=>gU (sM ops pk ρ'&&xk ρ' c false) (HV ρ' y λr=>J r h')))
    | _=>False
   | _,_=>False
  | []=>False
 | _,_,_,_,_,_=>False
theorem Je {P:Program}{ρ:Env}{K:Value->Hp->Prop}{a:Act}{w:World}(hf:∀x v,ev ρ x=some v->a.eval x=v)(o:Oper)(hk:AI P o.op o.type ρ w.heap K) :
 Vt P (execOp a.eval o) w K:=by
 unfold AI at hk;cases hq:wK o.op
 ·rw[hq]at hk;exact Rn hf o hk
 ·rw[hq]at hk;obtain⟨v,b,d⟩:=CO hf o hk;exact .inl ⟨v,w,b,.refl _,d⟩
theorem UQ {ρ:Env}{x:Operand}{K:Bool->Prop}(h:HV ρ x K):∃r,ev ρ x=some (.bool r)/\K r:=by
 unfold HV at h;split at h
 ·exact⟨_,by assumption,h⟩
 ·exact h.elim
theorem Nb {b:Bool}{x:Operand}(h:Ec b x=true)(ρ:Operand->Value)(hc:∀v,ρ (.const v)=v):ρ x=.bool b:=by
 unfold Ec at h;split at h
 ·rw[hc];simp at h;rw[h]
 ·cases h
theorem Ζ {P:Program}{a:Act}{w:World}{o:Oper}{c x y:Operand}{b r:Bool}{K:Value->Hp->Prop}(ho:o.op=.pick c x y)(hc:a.eval c=.bool b)(hr:a.eval (bif b then x else y)=.bool r)(hK:K (.bool r) w.heap) :
 Vt P (execOp a.eval o) w K:=by
 obtain⟨g,op,i,pos,d,e⟩:=o;simp only at ho;subst ho;refine .inl ⟨_,w,?_,.refl _,hK⟩;cases b<;>simp at hr<;>simp[execOp,hc,asBool,hr]
def U1 (os:List Oper)(ρ ρ':Env):Prop:=∀i,(os.filterMap (·.dst)).contains i=false->∀v,ρ i=some v->ρ' i=some v
theorem U1.cons {o:Oper}{os:List Oper}{ρ ρ':Env}{v:Value}(h:U1 os (ρ.jJ o.dst v) ρ'):U1 (o::os) ρ ρ':=by
 intro i hi u hu;cases hd:o.dst with
 | none=>rw[hd]at h;exact h i (by simpa[hd]using hi) u hu
 | some d=>
  rw[hd]at h;simp[hd]at hi;refine h i (by simpa using hi.2) u ?_;simp only[Env.jJ,Env.put];have:Nat.beq i d=false:=by
   cases hb:Nat.beq i d
   ·rfl
   ·exact absurd (pd hb) hi.1
  rw[this];exact hu
theorem U1.dB {os rest:List Oper}{pk:Oper}{m d:Nat}{ρ ρ':Env}{r:Bool}(hd:pk.dst=some d)(hdrop:os.drop m=pk::rest)(h:U1 rest ((ρ.fB ((os.take m).filterMap (·.dst))).put d (.bool r)) ρ'):U1 os ρ ρ':=by
 intro i hi u hu;rw[←qL m os,hdrop,yJ,DK,hd]at hi;simp only[wy,zU,zR,decide_eq_false_iff_not,not_or]at hi;refine h i (by simpa using hi.2.2) u ?_;simp only[Env.put,Env.fB];have:Nat.beq i d=false:=by
  cases hb:Nat.beq i d
  ·rfl
  ·exact absurd (pd hb) hi.2.1
 rw[this];have a:((os.take m).filterMap (·.dst)).contains i=false:=by simpa using hi.1
 rw[a];exact hu
theorem Fits.Cm {N:Nat}{os:List Oper}{ρ ρ':Env}{a:Act}{c:Nat}{b b':Bool}(h:Fits N ρ' a)(hc:ρ c=some (.bool b))(e:b=b')(k:U1 os (ρ.put c (.bool b')) ρ'):Fits N (ρ.fB (os.filterMap (·.dst))) a:=by
 refine h.weaken λi v d=>?_;simp only[Env.fB]at d;cases hci:(os.filterMap (·.dst)).contains i
 ·rw[hci]at d;refine k i hci v ?_;simp only[Env.put];cases hb:Nat.beq i c
  ·exact d
  ·have g:i=c:=pd hb;subst g;simp only[cond_false]at d;rw[hc]at d;simp only[cond_true];rw[←e];exact d
 ·rw[hci]at d;cases d
theorem Cc {ρ:Env}{c:Nat}{b:Bool}(h:xk ρ c b=true):ρ c=some (.bool b):=by
 unfold xk at h;split at h
 ·rename_i b' hb;simp at h;rw[hb,h]
 ·cases h
theorem Vp {P:Program}{N:Nat}{ops:Array Oper}{Q:Exit->Act->World->Prop}:∀(n:Nat) {hs:List RI} {os:List Oper} {tail:List Oper} {ρ:Env} {a:Act} {w:World} {K:Env->Hp->Prop},
 fV P N ops n hs os ρ w.heap K->Fits N ρ a->(∀ρ' a' w',Fits N ρ' a'->ZQ w w'->U1 os ρ ρ'->K ρ' w'.heap->wpList P ops Q tail a' w')->wpList P ops Q (os++tail) a w
 | 0,_,_,_,_,_,_,_,h,_,_=>(by simp only[fV]at h)
 | n+1,[],[],tail,ρ,a,w,K,h,hf,hK=>by
  simp only[fV]at h;exact hK ρ a w hf (.refl _) (λ_ _ _ h=>h) h
 | n+1,[],o::os,tail,ρ,a,w,K,h,hf,hK=>(by simp only[fV]at h)
 | n+1,.op::hs,[],tail,ρ,a,w,K,h,hf,hK=>(by simp only[fV]at h)
 | n+1,.op::hs,o::os,tail,ρ,a,w,K,h,hf,hK=>by
  simp only[fV]at h;rw[WK]at h;obtain⟨hc,h⟩:=h;simp only[zG]at hc;have U:=Qe hf hc.1;simp only[oR,wpList,U,zW];refine .inl (Vt.upon (Je hf.ev o h) λv w' C j=>?_);exact Vp n j (hf.put hc.2 v) λρ' a' A g s E u=>hK ρ' a' A g (C.trans s) E.cons u
 | n+1,.it ki c::hs,[],tail,ρ,a,w,K,h,hf,hK=>(by simp only[fV]at h)
 | n+1,.it ki c::hs,o::os,tail,ρ,a,w,K,h,hf,hK=>by
  simp only[fV]at h;rw[WK]at h;obtain⟨hc,h⟩:=h;simp only[zG]at hc;have U:=Qe hf hc.1;simp only[oR,wpList,U,zW];refine .inl (Vt.upon (Wgu hf.ev o h) λv w' C j=>?_);exact Vp n j (hf.put hc.2 v) λρ' a' A g s E u=>hK ρ' a' A g (C.trans s) E.cons u
 | n+1,.dB and m inner::hs,os,tail,ρ,a,w,K,h,hf,hK=>by
  simp only[fV]at h;split at h
  case h_2=>exact h.elim
  rename_i pk rest hdrop;split at h
  case h_2=>exact h.elim
  rename_i c x y d hop hd;split at h
  case h_2=>exact h.elim
  rename_i b hb;rw[WK]at h;obtain⟨hc,J,hJ,h⟩:=h;simp only[zG]at hc;obtain⟨R,V,X,ac,D⟩:=hc;have ad:xP N pk.dst=true:=by rw[hd];exact R
  have Y:os++tail=os.take m++(pk::rest++tail):=by
   rw[←hdrop,←mE,qL]
  rw[Y];have p:∀(r b':Bool) (z:Operand) a' w',b=b'->(bif b' then x else y)=z->Fits N (ρ.fB ((os.take m).filterMap (·.dst))) a'->ZQ w w'->J r w'.heap->Region.wanted pk (yielded ops a'.tmps)=true →
   a'.eval (.tmp c)=.bool b'->a'.eval z=.bool r->wpList P ops Q (pk::rest++tail) a' w':=by
   intro r b' z a' w' e ez g C L U F hez;simp only[oR,wpList,U,zW];refine .inl (Vt.upon (K:=λv Z=>v=.bool r/\Z=w'.heap) (Ζ hop F (by rw[ez];exact hez) ⟨rfl,rfl⟩) λv A s j=>?_);obtain⟨rfl,hh⟩:=j;have aa:=g.put (d:=some d) R (.bool r);rw[hd];have M:=hJ _ _ L;rw[←hh]at M;exact Vp n M aa λρ' ab w3 S G E u=>hK ρ' ab w3 S ((C.trans s).trans G) (U1.dB hd hdrop E) u
  have run:∀(b':Bool) (z:Operand),b=b'->(bif b' then x else y)=z →
   fV P N ops n inner (os.take m) (ρ.put c (.bool b')) w.heap (λρ' Z=>gU (sM ops pk ρ'&&xk ρ' c b') (HV ρ' z λr=>J r Z))->wpList P ops Q (os.take m++(pk::rest++tail)) a w:=by
   intro b' z e ez hseg;refine Vp n hseg (hf.lit hb e) λρ' a' w' g C E j=>?_;rw[WK]at j;simp only[zG]at j;obtain⟨⟨hg,W⟩,j⟩:=j;obtain⟨r,hr,L⟩:=UQ j;exact p r b' z a' w' e ez (g.Cm hb e E) C L (Qe g hg) (g.ev _ _ (Cc W)) (g.ev _ _ hr)
  have B:∀(b':Bool),b=b'->b' = !and->J (!and) w.heap->wpList P ops Q (os.take m++(pk::rest++tail)) a w:=by
   intro b' e eb L;subst eb;refine NY D (hf.lit hb e) λa' g=>?_;have H:Fits N (ρ.fB ((os.take m).filterMap (·.dst))) a':=g.Cm (ρ':=(ρ.put c (.bool (!and))).fB ((os.take m).filterMap (·.dst))) hb e (λi hi v hv=>by simp only[Env.fB,hi];exact hv);have F:=g.ev (.tmp c) _ (Cc ac);refine p (!and) (!and) (bif (!and)then x else y) a' w e rfl H (.refl _) L (Qe H X) F ?_;refine Nb ?_ _ (λv=>rfl);cases and<;>exact V
  cases and
  ·simp only[cond_false]at h;cases b
   ·exact run false y rfl rfl (h.f rfl)
   ·exact B true rfl rfl (h.t rfl)
  ·simp only[cond_true]at h;cases b
   ·exact B false rfl rfl (h.f rfl)
   ·exact run true x rfl rfl (h.t rfl)
variable {P:Program}{ops:Array Oper}{Q:Exit->Act->World->Prop}
def AQ (ops:Array Oper)(k i:Nat):Bool:=match ops[k]? with
 | none=>false
 | some o=>o.after.toList.any λe=>Region.binds .any e&&Nat.beq e.on i
def TS (S:World->Prop)(C:List Nat)(listed:Array Bool)(w:World):Prop:=S w\/∃k∈C,listed.getD k false=true
def anyS (P:Program)(ops:Array Oper)(Q:Exit->Act->World->Prop)(S:World->Prop)(C:List Nat):Nat->Array Bool->Act->World->Prop
 | 0,listed,a,w=>Region.ready .any ops listed=[]/\Q .normal a w
 | m+1,listed,a,w=>(Region.ready .any ops listed=[]->Q .normal a w) ∧
  ∀i,i∈Region.ready .any ops listed->wpOp P ops Q i (λa' w'=>TS S C (listed.setIfInBounds i true) w'/\anyS P ops Q S C m (listed.setIfInBounds i true) a' w') a w
theorem Mr {S:World->Prop}{C:List Nat}:∀(m:Nat) (listed:Array Bool) (a:Act) (w:World),anyS P ops Q S C m listed a w->wpAny P .any ops Q m listed a w
 | 0,_,_,_,h=>h
 | m+1,_,_,_,h=>⟨h.1,λi hi=>wpOp_mono (λ_ _ h'=>Mr m _ _ _ h'.2) (h.2 i hi)⟩
theorem TS.out {S:World->Prop}{C:List Nat}{listed:Array Bool}{w:World}(h:TS S C listed w)(hn:∀k∈C,listed.getD k false=false):S w:=by
 rcases h with h|⟨k,hk,hl⟩
 ·exact h
 ·rw[hn k hk]at hl;cases hl
theorem RE {k i:Nat}{o:Oper}(ho:ops[k]?=some o)(hno:∀e∈o.after,Region.binds .any e=true->e.on≠i):AQ ops k i=false:=by
 unfold AQ;rw[ho];simp only;rw[p8];intro e he hb;simp only[zG]at hb;exact hno e (by simpa using he) hb.1 (pd hb.2)
theorem TS.drop {S:World->Prop}{C:List Nat}{listed:Array Bool}{w:World}{i j:Nat}(hij:i≠j)(hi:∀k∈C,k≠i)(h:TS S C ((listed.setIfInBounds i true).setIfInBounds j true) w):TS S C (listed.setIfInBounds j true) w:=by
 refine h.imp id ?_;rintro⟨k,hk,hl⟩;refine⟨k,hk,?_⟩;rw[Array.setIfInBounds_comm _ _ hij,getD_set_ne false (Ne.symm (hi k hk))]at hl;exact hl
theorem TP {S T:World->Prop}{C:List Nat}{i:Nat}{oi:Oper}{v:Value}(hi:ops[i]?=some oi)(hsel:∀(j:Nat) (o:Oper) cs b,ops[j]?=some o->o.op≠.select cs b)
 (hQ:∀c a w,Q (.panic c) (a.put oi.dst v) w->Q (.panic c) a w) (hiC:∀k∈C,k≠i) (hT:(∀w,T w)\/((∀w,S w->T w)/\∀k∈C,AQ ops k i=true)) :
 ∀(m:Nat) (listed:Array Bool) (a:Act) (w:World),
  (∀j oj,ops[j]?=some oj->j≠i->listed.getD j true=false->(∀e∈oj.after,Region.binds .any e=true->e.on≠i)->oi.apart ops oj=true) →
  i∈Region.ready .any ops listed->((∀w,T w)\/∀k∈C,listed.getD k false=false)->YieldsIf P ops T oi v a->TS S C listed w →
  anyS P ops Q S C m (listed.setIfInBounds i true) (a.put oi.dst v) w->anyS P ops Q S C (m+1) listed a w:=by
 have s:∀{listed:Array Bool} {a:Act} {w:World} {K:Act->World->Prop},((∀w,T w)\/∀k∈C,listed.getD k false=false)->YieldsIf P ops T oi v a->TS S C listed w->K (a.put oi.dst v) w →
  wpOp P ops Q i (λL B=>TS S C (listed.setIfInBounds i true) B/\K L B) a w:=by
  intro listed a w K g hy hS hK;refine hy.wpOp hi ?_ ⟨?_,hK⟩
  ·rcases hT with hT|⟨hT,_⟩
   ·exact hT w
   ·rcases g with g|g
    ·exact g w
    ·exact hT w (hS.out g)
  ·refine hS.imp id ?_;rintro⟨k,u,hl⟩;exact⟨k,u,by rw[getD_set_ne false (Ne.symm (hiC k u))];exact hl⟩
 intro m
 induction m with
 | zero=>
  intro listed a w _ hr g hy hS H;refine⟨λh=>by rw[h]at hr;simp at hr,λj D=>?_⟩;by_cases hji:j=i
  ·rw[hji];exact s g hy hS H
  ·have p:=ready_mono D hji;rw[H.1]at p;simp at p
 | succ m ih=>
  intro listed a w hfree hr g hy hS H;refine⟨λh=>by rw[h]at hr;simp at hr,λj D=>?_⟩;by_cases hji:j=i
  ·rw[hji];exact s g hy hS H
  ·obtain⟨A,oj,r,y⟩:=mem_ready.1 D;have d:=(mem_ready.1 hr).1;have z:∀e∈oj.after,Region.binds .any e=true->e.on≠i:=by
    intro e he hb heq;have p:=y e he hb;rw[heq]at p;rw[vW]at p d;cases hg:listed[i]? with
    | none=>rw[hg]at p;cases p
    | some b=>rw[hg]at p d;simp only[sS]at p d;rw[d]at p;cases p
   have M:=wpOp_putIf r (hfree j oj r hji A z) (λcs b=>hsel i oi cs b hi) (λcs b=>hsel j oj cs b r) hQ hy (H.2 j (ready_mono D hji));refine wpOp_mono (λL B J=>?_) M;have x:=J.2.1.drop (Ne.symm hji) hiC;refine⟨x,ih _ L B (λk ok u G F E=>?_) (ready_mono hr (Ne.symm hji)) ?_ J.1 x ?_⟩
   ·refine hfree k ok u G ?_ E;by_cases hjk:j=k
    ·rw[←hjk];exact A
    ·rwa [getD_set_ne true hjk]at F
   ·rcases hT with hT|⟨_,hw⟩
    ·exact .inl hT
    refine g.imp id λg k u=>?_;by_cases hjk:j=k
    ·exfalso;have:=hw k u;rw[←hjk,RE r z]at this;cases this
    ·rw[getD_set_ne false hjk];exact g k u
   ·rw[Array.setIfInBounds_comm _ _ hji];exact J.2.2
theorem Fw {S T:World->Prop}{C:List Nat}{i m:Nat}{oi:Oper}{v:Value}{listed:Array Bool}{a:Act}{w:World}(hi:ops[i]?=some oi)(hs:Region.noSelect ops=true)(hf:Region.free .any ops listed i=true)
 (hr:i∈Region.ready .any ops listed) (hQ:∀c a w,Q (.panic c) (a.put oi.dst v) w->Q (.panic c) a w) (hiC:C.contains i=false)
 (hT:(∀w,T w)\/((∀w,S w->T w)/\∀k∈C,AQ ops k i=true)) (hn:(∀w,T w)\/∀k∈C,listed.getD k false=false) (hy:YieldsIf P ops T oi v a) (hS:TS S C listed w)
 (h:anyS P ops Q S C m (listed.setIfInBounds i true) (a.put oi.dst v) w):anyS P ops Q S C (m+1) listed a w:=
 TP hi (Region.noSelect_spec hs) hQ (λk b e=>by subst e;rw[xU.2 b]at hiC;cases hiC) hT m listed a w (Region.free_spec hi hf) hr hn hy hS h
theorem Tw {S:World->Prop}{C:List Nat}{rs:List Nat}{m:Nat}{listed:Array Bool}{a:Act}{w:World}(hr:Region.ready .any ops listed=rs)(hne:rs≠[])
 (h:∀i∈rs,wpOp P ops Q i (λa' w'=>TS S C (listed.setIfInBounds i true) w'/\anyS P ops Q S C m (listed.setIfInBounds i true) a' w') a w):anyS P ops Q S C (m+1) listed a w:=
 ⟨λb=>absurd (hr▸b) hne,hr▸h⟩
theorem Wh3 {S:World->Prop}{C:List Nat}{listed:Array Bool}{a:Act}{w:World}(hr:Region.ready .any ops listed=[])(h:Q .normal a w):∀m,anyS P ops Q S C m listed a w
 | 0=>⟨hr,h⟩
 | _+1=>⟨λ_=>h,by rw[hr];simp⟩
theorem U4 {S:World->Prop}{C:List Nat}{id:Nat}{a:Act}{w:World}(hm:P.follows .mixedOrders=true)
 (h:anyS P ops Q S C ops.size (Array.replicate ops.size false) a {w with drawn:=w.drawn+1}):(Code.region id ops true).wp P Q a w:=
 wp_region_any hm (Mr _ _ _ _ h)
end Go.Vc
namespace Go.Vc
open Go
def GY (P:Program):Op->Bool
 | .load _ _=>false
 | .lookup .. => false
 | .typeAssert .. => false
 | .convert s _ _=>match P.underlying s with
  | some (.slice _)=>false
  | _=>true
 | .call c=>match c.callee,c.argTypes.toList with
  | .builtin .len,[t]=>match P.underlying t with
   | some (.map _ _)=>false
   | some _=>true
   | none=>false
  | .builtin .cap,_=>true
  | .builtin .max,_=>true
  | .builtin .min,_=>true
  | _,_=>false
 | o=>wK o
theorem Im {op:BinOp}{k:IntKind}{x y:Int}{K:Value->Prop}(h:uA op k x y K):∃v,K v/\uA op k x y (· = v):=by
 cases op<;>simp only[uA,Ar,Nz,Nn]at h ⊢
 all_goals first
  | exact⟨_,h,rfl⟩
  | exact⟨_,h.2,h.1,rfl⟩
theorem GE {op:BinOp}{b:Bool}{K:Value->Prop}(h:qT op b K):∃v,K v/\qT op b (· = v):=by
 cases op<;>simp only[qT]at h ⊢ <;> first|exact h.elim|exact⟨_,h,rfl⟩
theorem Ι {P:Program}{op:BinOp}{t:Nat}{x y:Value}{K:Value->Prop}(h:pX P op t x y K):∃v,K v/\pX P op t x y (· = v):=by
 unfold pX at h ⊢;split at h
 ·obtain⟨v,a,b⟩:=GE h;exact⟨v,a,by simp only[*]⟩
 ·obtain⟨v,a,b⟩:=GE h;exact⟨v,a,by simp only[*]⟩
 ·obtain⟨v,a,b⟩:=GE h;exact⟨v,a,by simp only[*]⟩
 ·obtain⟨d,h⟩:=h;obtain⟨v,a,b⟩:=GE h;exact⟨v,a,by simp only[*];trivial⟩
 ·exact h.elim
theorem Wlu {P:Program}{op:BinOp}{t:Nat}{x y:Value}{K:Value->Prop}(h:pW P op t x y K):∃v,K v/\pW P op t x y (· = v):=by
 unfold pW at h ⊢;split at h
 ·split at h
  ·obtain⟨v,a,b⟩:=Im h;exact⟨v,a,by simpa[*]using b⟩
  ·rename_i hne;cases op<;>simp only at h
   all_goals try exact h.elim
   ·obtain⟨v,a,b⟩:=Im h;exact⟨v,a,by simpa[hne]using b⟩
   ·obtain⟨v,a,b⟩:=Im h;exact⟨v,a,by simpa[hne]using b⟩
 ·split at h
  ·obtain⟨v,a,b⟩:=GE h;exact⟨v,a,by simp only[*]⟩
  ·exact h.elim
 ·cases op<;>simp only at h ⊢ <;> first|exact h.elim|exact⟨_,h,rfl⟩
 ·exact h.elim
theorem Κ {P:Program}{op:BinOp}{t:Nat}{xs ys:List Value}{K:Value->Prop}(h:rY P op t xs ys K):∃v,K v/\rY P op t xs ys (· = v):=by
 unfold rY at h ⊢;split at h
 case h_3=>exact h.elim
 all_goals
  rename_i hu;rw[WK]at h;obtain⟨a,h⟩:=h;split at h
  case h_2=>exact h.elim
  rename_i b hb;obtain⟨v,e,d⟩:=GE h;exact⟨v,e,by simp only[hu,WK,hb];exact⟨a,d⟩⟩
theorem Sz {P:Program}{op:BinOp}{t:Nat}{y:Operand}{vx vy:Value}{K:Value->Prop}(h:Ac P op t y vx vy K):∃v,K v/\Ac P op t y vx vy (· = v):=by
 unfold Ac at h ⊢;cases hn:Ad y
 ·rw[hn]at h;simp only[cond_false]at h ⊢;split at h
  ·exact Κ h
  ·exact Wlu h
 ·rw[hn]at h;exact Ι h
theorem yg {o:Option Value}{K:Value->Prop}(h:wv o K):∃v,K v/\wv o (· = v):=by
 obtain⟨v,rfl,a⟩:=Wq h;exact⟨v,a,rfl⟩
theorem WhP {P:Program}{t off:Nat}{cs:List Value}{K:Value->Prop}(h:y7 P t cs off K):∃v,K v/\y7 P t cs off (· = v):=by
 unfold y7 at h ⊢;split at h
 case h_2=>exact h.elim
 rename_i d ti hu hi;cases hd:UL d
 ·rw[hd]at h;obtain⟨v,b,a⟩:=yg h;exact⟨v,b,by simpa[hd]using a⟩
 ·rw[hd]at h;exact⟨_,h,by simp⟩
theorem SW {P:Program}{t:Nat}{ps:List (Nat×Value)}{K:Value->Prop}(h:rG P t ps K):∃v,K v/\rG P t ps (· = v):=by
 unfold rG at h ⊢;split at h
 ·split at h
  ·rename_i z hz;have key:∀{ps:List (Nat×Value)} {raw:Nat->Bool} {A:Prop},pO raw ps A->A/\∀B:Prop,B->pO raw ps B:=by
    intro ps raw
    induction ps with
    | nil=>intro A h;exact⟨h,λB b=>b⟩
    | cons x ps ih=>
     intro A h;simp only[pO]at h ⊢;cases hr:raw x.1
     ·rw[hr]at h;exact ih h
     ·rw[hr]at h;simp only[cond_true]at h ⊢;exact⟨(ih h.2).1,λB b=>⟨h.1,(ih h.2).2 B b⟩⟩
   obtain⟨h,a⟩:=key h;split at h
   ·rename_i cs hf;rw[WK]at h;refine⟨_,h.2,?_⟩;simp only[*];refine a _ ?_;rw[WK]
    first|exact⟨h.1,trivial⟩|exact⟨rfl,trivial⟩
   ·exact h.elim
  ·exact h.elim
 ·split at h
  ·split at h
   ·refine⟨_,h,?_⟩;simp only[*]
   ·exact h.elim
  ·exact h.elim
 ·exact h.elim
theorem Wk1 {P:Program}{t:Nat}{x:Value}{lo hi mx:Option Value}{K:Value->Prop}(h:ri P t x lo hi mx K):∃v,K v/\ri P t x lo hi mx (· = v):=by
 unfold ri at h ⊢;split at h
 case h_2=>exact h.elim
 rename_i e a n c hu;split at h
 case h_2=>exact h.elim
 rename_i ti hi';simp only at h ⊢;split at h
 case h_2=>exact h.elim
 rename_i l hh m hlo hhi hmx;obtain⟨g,i,d,b,j⟩:=h;refine⟨_,j,?_⟩;simp only[hu,hi',hlo,hhi,hmx];exact⟨g,i,d,b,rfl⟩
theorem Fu:∀{vs:List Value} {v:Value} {b:Bool} {K:Value->Prop},sJ b v vs K->∃z,K z/\sJ b v vs (· = z)
 | [],v,b,K,h=>⟨v,by simpa[sJ]using h,by simp[sJ]⟩
 | u::vs,v,b,K,h=>by
  cases v<;>cases u<;>simp only[sJ]at h ⊢ <;> try exact h.elim
  exact Fu h
theorem TN {P:Program}{o:Op}(hp:GY P o=true){ρ:Env}{h:Hp}{K:Value->Prop}(hk:qK P o ρ h K):∃v,K v/\∀h',qK P o ρ h' (· = v):=by
 unfold qK at hk;split at hk
 case h_1 x=>obtain⟨v,a,e⟩:=yg hk;exact⟨v,a,λ_=>e⟩
 case h_2 x=>obtain⟨v,a,e⟩:=yg hk;exact⟨v,a,λ_=>e⟩
 case h_3 c x y=>
  obtain⟨v,B,hk⟩:=Wq hk;split at hk
  ·obtain⟨u,a,e⟩:=yg hk;exact⟨u,a,λ_=>by simpa only[qK,B,wv]using e⟩
  ·obtain⟨u,a,e⟩:=yg hk;exact⟨u,a,λ_=>by simpa only[qK,B,wv]using e⟩
  ·exact hk.elim
 case h_4=>simp[GY]at hp
 case h_5 x=>
  obtain⟨v,B,hk⟩:=Wq hk;split at hk
  ·obtain⟨C,rfl,r⟩:=hk;exact⟨_,r,λ_=>by simp only[qK,B,wv];exact⟨C,rfl,rfl⟩⟩
  ·exact⟨_,hk,λ_=>by simp only[qK,B,wv]⟩
  ·exact hk.elim
 case h_6 op t x y yt=>
  obtain⟨j,g,hk⟩:=Wq hk;obtain⟨N,L,D⟩:=Wq hk;obtain⟨v,a,e⟩:=Sz D;exact⟨v,a,λ_=>by simpa only[qK,g,L,wv]using e⟩
 case h_7 op t x=>
  obtain⟨j,g,hk⟩:=Wq hk;split at hk
  ·exact⟨_,hk,λ_=>by simp only[qK,g,wv]⟩
  ·exact⟨_,hk,λ_=>by simp only[qK,g,wv,Ar]⟩
  ·exact hk.elim
 case h_8 s d x=>
  obtain⟨j,g,hk⟩:=Wq hk;split at hk
  ·rename_i a e;exact⟨_,hk,λ_=>by simp only[qK,g,wv,a,e,Ar]⟩
  ·rename_i a e;exact⟨_,hk,λ_=>by simp only[qK,g,wv,a,e]⟩
  ·rename_i a e;simp[GY,a]at hp
  ·exact hk.elim
 case h_9 s x f=>
  obtain⟨j,g,hk⟩:=Wq hk;obtain⟨G,F,E,p,hk⟩:=Dd hk;split at hk
  ·rw[WK]at hk;exact⟨_,hk.2,λ_=>by simp only[qK,g,wv,rW,E,p,WK];exact⟨hk.1,trivial⟩⟩
  ·exact hk.elim
 case h_10 s x f=>
  obtain⟨j,g,hk⟩:=Wq hk;obtain⟨G,F,E,p,hk⟩:=Dd hk;split at hk
  ·obtain⟨v,a,e⟩:=WhP hk;exact⟨v,a,λ_=>by simpa only[qK,g,wv,rW,E,p]using e⟩
  ·exact hk.elim
 case h_11 t x i=>
  obtain⟨j,g,hk⟩:=Wq hk;obtain⟨M,A,hk⟩:=Wq hk;split at hk
  ·have z:=(by assumption:P.underlying t=some _);rw[WK]at hk;obtain⟨a,C,rfl,e,w,r⟩:=hk;exact⟨_,r,λ_=>by simp only[qK,g,A,wv,z,WK];exact⟨a,C,rfl,e,w,rfl⟩⟩
  ·have z:=(by assumption:P.underlying t=some _);rw[WK]at hk;obtain⟨a,e,w,r⟩:=hk;exact⟨_,r,λ_=>by simp only[qK,g,A,wv,z,WK];exact⟨a,e,w,rfl⟩⟩
  ·exact hk.elim
 case h_12 t x i=>
  obtain⟨j,g,hk⟩:=Wq hk;obtain⟨M,A,hk⟩:=Wq hk;split at hk
  ·have z:=(by assumption:P.underlying t=some _);obtain⟨b,a,e,r⟩:=hk;exact⟨_,r,λ_=>by simp only[qK,g,A,wv,z];exact⟨b,a,e,rfl⟩⟩
  ·exact hk.elim
 case h_13=>simp[GY]at hp
 case h_14 t i=>
  obtain⟨j,g,hk⟩:=Wq hk;split at hk
  ·obtain⟨v,a,e⟩:=yg hk;exact⟨v,a,λ_=>by simpa only[qK,g,wv]using e⟩
  ·exact hk.elim
 case h_15 fn x y=>
  split at hk
  ·rename_i va vb a e;exact⟨_,hk,λ_=>by simp only[qK,a,e]⟩
  ·exact hk.elim
 case h_16 t ps=>
  split at hk
  ·rename_i vs a;obtain⟨v,e,w⟩:=SW hk;exact⟨v,e,λ_=>by simpa only[qK,a]using w⟩
  ·exact hk.elim
 case h_17 t x lo A mx=>
  obtain⟨j,g,hk⟩:=Wq hk;split at hk
  ·rename_i l h m a e w;obtain⟨v,H,J⟩:=Wk1 hk;exact⟨v,H,λ_=>by simpa only[qK,g,wv,a,e,w]using J⟩
  ·exact hk.elim
 case h_18 t x=>
  obtain⟨j,g,hk⟩:=Wq hk;rw[WK]at hk;exact⟨_,hk.2,λ_=>by simp only[qK,g,wv,WK];exact⟨hk.1,trivial⟩⟩
 case h_19=>simp[GY]at hp
 case h_20 c=>
  split at hk
  ·rename_i x t hc ha ht;unfold pT at hk;split at hk
   ·exact⟨_,hk,λ_=>by simp only[qK,hc,ha,ht,pT, *]⟩
   ·exact⟨_,hk,λ_=>by simp only[qK,hc,ha,ht,pT, *]⟩
   ·exact⟨_,hk,λ_=>by simp only[qK,hc,ha,ht,pT, *]⟩
   ·rename_i z;simp only[GY,hc,ht,z]at hp;cases hp
   ·exact hk.elim
  ·rename_i hc ha ht;split at hk
   ·exact⟨_,hk,λ_=>by simp only[qK,hc,ha,ht, *]⟩
   ·exact hk.elim
  ·rename_i hc ha;obtain⟨v,a,e⟩:=Fu hk;exact⟨v,a,λ_=>by simpa only[qK,hc,ha]using e⟩
  ·rename_i hc ha;obtain⟨v,a,e⟩:=Fu hk;exact⟨v,a,λ_=>by simpa only[qK,hc,ha]using e⟩
  ·exact hk.elim
 ·exact hk.elim
def gW (S:aP)(c:CK)(a:Addr)(K:c.T->Prop):Prop:=∃x,(∀h,S h->cell h a=some (c.v x))/\K x
def wN (S:aP):List CK->Addr->Nat->(List Value->Prop)->Prop
 | [],_,_,K=>K []
 | c::cs,a,i,K=>gW S c (a.add i) λx=>wN S cs a (i+1) λvs=>K (c.v x::vs)
def LkH (S:aP)(k:IntKind)(c:CK)(m:Option Nat)(n:Int)(K:Option c.T->Prop):Prop:=∃l,(∀h,S h->lA h m k c l)/\K (bW l n)
def WpV (S:aP)(k:IntKind)(c:CK)(m:Option Nat)(K:Int->Prop):Prop:=∃l,(∀h,S h->lA h m k c l)/\K (l.length:Int)
def qS (P:Program)(S:aP)(o:Op)(ρ:Env)(K:Value->Prop):Prop:=
 match o with
 | .load t a=>wv (ev ρ a) λv=>match v,mY P t with
  | .pointer (some a),some (.one c)=>gU (P.info? t).isSome (gW S c a λx=>K (c.v x))
  | .pointer (some a),some (.agg cs)=>gU (P.cellsOf t==cs.length) (gU (P.info? t).isSome (wN S cs a 0 λvs=>K (.agg vs.toArray)))
  | _,_=>False
 | .lookup t x i ok=>wv (ev ρ x) λvx=>wv (ev ρ i) λvi=>match P.underlying t,vx,vi with
  | some (.map kt et),.map m,.int k n=>match P.underlying kt,s8 P et,P.info? et with
   | some (.int k'),some (.one c),some ti=>match ti.zero with
    | some z=>if k=k' then tN c z λz=>LkH S k c m n λo=>K (bif ok then .tuple #[c.v (o.getD z),.bool o.isSome]else c.v (o.getD z))else False
    | none=>False
   | _,_,_=>False
  | _,_,_=>False
 | .call c=>match c.callee,vu ρ c.args.toList,c.argTypes.toList with
  | .builtin .len,some [.map m],[t]=>vO P t λk c=>WpV S k c m λz=>K (.int .i64 z)
  | _,_,_=>False
 | _=>False
theorem NC {S:aP}:∀{cs:List CK} {a:Addr} {i:Nat} {K:List Value->Prop},wN S cs a i K->∃vs,K vs/\∀h,S h->rq cs a i h (· = vs)
 | [],a,i,K,hk=>⟨[],hk,λh _=>rfl⟩
 | c::cs,a,i,K,⟨x,hx,hk⟩=>by
  obtain⟨vs,hK,hall⟩:=NC hk;refine⟨c.v x::vs,hK,λh b=>?_⟩;have m:rq cs a (i+1) h λus=>c.v x::us=c.v x::vs:=by
   have key:∀{cs:List CK} {i:Nat} {K K':List Value->Prop},(∀vs,K vs->K' vs)->rq cs a i h K->rq cs a i h K':=by
    intro cs
    induction cs with
    | nil=>intro i K K' hh hk;exact hh _ hk
    | cons c cs ih=>
     intro i K K' hh hk;simp only[rq]at hk ⊢;cases c<;>(obtain⟨y,j,hk⟩:=hk;exact⟨y,j,ih (λvs g=>hh _ g) hk⟩)
   exact key (λus e=>by rw[e]) (hall h b)
  simp only[rq];have d:=hx h b;cases c<;>exact⟨x,d,m⟩
theorem SU {P:Program}{t:Nat}{K:IntKind->CK->Prop}(h:vO P t K):∃kt et k c,P.underlying t=some (.map kt et)/\P.underlying kt=some (.int k)/\s8 P et=some (.one c)/\K k c:=by
 unfold vO at h;split at h
 ·split at h
  ·exact⟨_,_,_,_,by assumption,by assumption,by assumption,h⟩
  ·exact h.elim
 ·exact h.elim
theorem Rp {P:Program}{S:aP}{o:Op}{ρ:Env}{K:Value->Prop}(hk:qS P S o ρ K):∃v,K v/\∀h,S h->qK P o ρ h (· = v):=by
 unfold qS at hk;split at hk
 ·obtain⟨Q,r,hk⟩:=Wq hk;split at hk
  ·rename_i ad c hs;rw[WK]at hk;obtain⟨u,x,A,d⟩:=hk;refine⟨_,d,λh b=>?_⟩;simp only[qK,r,wv,hs,WK];refine⟨u,?_⟩;have s:=A h b;cases c<;>exact⟨x,s,rfl⟩
  ·rename_i ad cs hs;rw[WK,WK]at hk;obtain⟨u,H,hk⟩:=hk;obtain⟨vs,d,g⟩:=NC hk;refine⟨_,d,λh b=>?_⟩;simp only[qK,r,wv,hs,WK];refine⟨u,H,?_⟩;have key:∀{cs:List CK} {i:Nat} {K K':List Value->Prop},(∀vs,K vs->K' vs)->rq cs ad i h K->rq cs ad i h K':=by
    intro cs
    induction cs with
    | nil=>intro i K K' hh hk;exact hh _ hk
    | cons c cs ih=>
     intro i K K' hh hk;simp only[rq]at hk ⊢;cases c<;>(obtain⟨y,F,hk⟩:=hk;exact⟨y,F,ih (λvs E=>hh _ E) hk⟩)
   exact key (λus p=>by rw[p]) (g h b)
  ·exact hk.elim
 ·obtain⟨M,A,j⟩:=Wq hk;obtain⟨N,D,a⟩:=Wq j;clear hk j;split at a
  case h_2=>exact a.elim
  rename_i J L m k n p;split at a
  case h_2=>exact a.elim
  rename_i k' c ti hkk hs hti;split at a
  case h_2=>exact a.elim
  rename_i z hz;split at a
  case isFalse=>exact a.elim
  rename_i e;subst e;obtain⟨R,rfl,l,C,d⟩:=UI a;refine⟨_,d,λh b=>?_⟩;simp only[qK,A,D,wv,Cz,p,hkk,hs,hti,hz,zW];have G:=C h b;rw[WpQ];exact⟨l,G,rfl⟩
 ·split at hk
  ·rename_i m t s r ht;obtain⟨J,L,k,c,p,w,B,l,C,d⟩:=SU hk;refine⟨_,d,λh b=>?_⟩;simp only[qK,s,r,ht,pT,p,w,B];exact⟨l,C h b,rfl⟩
  ·exact hk.elim
 ·exact hk.elim
structure jL (ops:Array Oper) (listed:Array Bool) (D:List Nat):Prop where
 size:listed.size=ops.size
 at_:∀j,j<ops.size->listed[j]?=some (D.contains j)
 lt:∀j∈D,j<ops.size
theorem jL.getD {ops:Array Oper}{listed:Array Bool}{D:List Nat}(h:jL ops listed D){j:Nat}(hj:j<ops.size)(b:Bool):listed.getD j b=D.contains j:=by
 rw[vW,h.at_ j hj];rfl
theorem jL.qI {ops:Array Oper}{listed:Array Bool}{D:List Nat}(h:jL ops listed D)(j:Nat):listed.getD j false=D.contains j:=by
 rcases pA j ops.size with hj|hj
 ·exact h.getD hj false
 ·rw[vW,Array.getElem?_eq_none (by rw[h.size];exact hj)]
  symm
  simp only[Option.getD_none,wy,decide_eq_false_iff_not];exact λa=>by have:=h.lt j a;omega
theorem jL.start (ops:Array Oper):jL ops (Array.replicate ops.size false) []:=
 ⟨by simp,λj a=>by simp[a],λj a=>by simp at a⟩
theorem jL.cons {ops:Array Oper}{listed:Array Bool}{D:List Nat}(h:jL ops listed D){i:Nat}(hi:i<ops.size):jL ops (listed.setIfInBounds i true) (i::D):=by
 refine⟨by simp[h.size],λj a=>?_,λj a=>?_⟩
 ·by_cases hij:i=j
  ·subst hij;simp[h.size,a]
  ·rw[BE hij,h.at_ j a];have:(j==i)=false:=by simpa using λe=>hij e.symm
   simp only[List.contains_cons,this,CP]
 ·rcases zR.1 a with rfl|h'
  ·exact hi
  ·exact h.lt j h'
def qw (ops:Array Oper)(D:List Nat)(i:Nat):Bool:=match ops[i]? with
 | none=>false
 | some o=>!D.contains i&&o.after.toList.all λe=>!Region.binds .any e||D.contains e.on
def ER (ops:Array Oper)(D:List Nat)(i:Nat):Bool:=match ops[i]? with
 | none=>false
 | some oi=>(List.range ops.size).all λj=>Nat.beq j i||(D.contains j||match ops[j]? with
  | some oj=>oj.after.toList.any (λe=>Region.binds .any e&&Nat.beq e.on i)||oi.apart ops oj
  | none=>true)
theorem Ex {ops:Array Oper}{D:List Nat}{i:Nat}(h:qw ops D i=true):i<ops.size:=by
 unfold qw at h;split at h
 ·cases h
 ·rename_i o ho;exact(pJ.1 ho).1
theorem Cg {ops:Array Oper}{listed:Array Bool}{D:List Nat}(h:jL ops listed D)(i:Nat):i∈Region.ready .any ops listed↔qw ops D i=true:=by
 rw[mem_ready];unfold qw;cases ho:ops[i]? with
 | none=>simp
 | some o=>
  have d:i<ops.size:=(pJ.1 ho).1;simp only[h.getD d,Option.some.injEq,exists_eq_left',zG,pZ,nD,rO];constructor
  ·rintro⟨h1,h2⟩;refine⟨h1,λe a=>?_⟩;cases b:Region.binds .any e
   ·exact .inl rfl
   ·right;have:=h2 e (by simpa using a) b
    rwa [h.qI]at this
  ·rintro⟨h1,h2⟩;refine⟨h1,λe a b=>?_⟩;have:=h2 e (by simpa using a);rw[b]at this;rw[h.qI];simpa using this
theorem GN {ops:Array Oper}{listed:Array Bool}{D:List Nat}(h:jL ops listed D){i:Nat}(hf:ER ops D i=true):Region.free .any ops listed i=true:=by
 unfold ER at hf;unfold Region.free;cases ho:ops[i]? with
 | none=>rw[ho]at hf;cases hf
 | some oi=>
  rw[ho]at hf;simp only[nD,zQ]at hf ⊢;intro j hj;have:=hf j hj;rw[h.getD hj];simp only[rO]at this ⊢;rcases this with h1|h1|h1
  ·exact .inl (.inl (by simpa using pd h1))
  ·exact .inl (.inr h1)
  ·right;split at h1
   ·rename_i oj hoj;simp only[hoj,rO]at h1 ⊢;rcases h1 with h1|h1
    ·left;rw[zw]at h1;obtain⟨e,b,a⟩:=h1;simp only[zG]at a;rw[Array.any_eq_true'];exact⟨e,by simpa using b,by simp[a.1,pd a.2]⟩
    ·exact .inr h1
   ·rename_i hoj;simp[hoj]
inductive SH where
 | done
 | take (i:Nat) (r:SH)
 | split (c:Nat) (t f:SH)
 | all (l:List (Nat×SH))
def SH.tk:List Nat->SH->SH
 |[],s=>s
 |i::l,s=>.take i (SH.tk l s)
def Sx (sm:Bool)(S:aP)(h:Hp)(X:Prop):Prop:=match sm with
 | true=>S h/\X
 | false=>X
def shut (C D:List Nat):Bool:=C.any λk=>D.contains k
def xr (f:Nat->SH->Prop):List (Nat×SH)->Prop
 | []=>True
 | [x]=>f x.1 x.2
 | x::y::l=>f x.1 x.2/\xr f (y::l)
def UN (P:Program)(N:Nat)(ops:Array Oper)(sm:Bool)(C:List Nat)(S:aP)(K:Env->Hp->Prop):Nat->Nat->SH->List Nat->Env->Hp->Prop
 | 0,_,_,_,_,_=>False
 | n+1,_,.done,D,ρ,h=>gU ((List.range ops.size).all λj=>D.contains j) (K ρ h)
 | n+1,m+1,.take i r,D,ρ,h=>match ops[i]? with
  | some o=>gU (qw ops D i&&(ER ops D i&&(xP N o.dst && !C.contains i)))
   (bif wD ops o ρ then UN P N ops sm C S K n m r (i::D) (ρ.jJ o.dst undef) h
    else gU (sM ops o ρ) (bif GY P o.op then qK P o.op ρ h λv=>UN P N ops sm C S K n m r (i::D) (ρ.jJ o.dst v) h
     else gU (sm&&((C.all λk=>AQ ops k i) && !shut C D)) (qS P S o.op ρ λv=>UN P N ops sm C S K n m r (i::D) (ρ.jJ o.dst v) h)))
  | none=>False
 | n+1,m,.split c t f,D,ρ,h=>HV ρ (.tmp c) λb=>If b (UN P N ops sm C S K n m t D (ρ.put c (.bool true)) h) (UN P N ops sm C S K n m f D (ρ.put c (.bool false)) h)
 | n+1,m+1,.all l,D,ρ,h=>gU ((!l.isEmpty&&l.all λx=>Nat.blt x.1 ops.size)&&((List.range ops.size).all λj=>qw ops D j==l.any λx=>Nat.beq x.1 j))
  (xr (λi r=>match ops[i]? with
   | some o=>gU (xP N o.dst) (bif wD ops o ρ then Sx (sm && !shut C (i::D)) S h (UN P N ops sm C S K n m r (i::D) (ρ.jJ o.dst undef) h)
    else gU (sM ops o ρ) (AI P o.op o.type ρ h λv h'=>Sx (sm && !shut C (i::D)) S h' (UN P N ops sm C S K n m r (i::D) (ρ.jJ o.dst v) h')))
   | none=>False) l)
 | _,_,_,_,_,_=>False
def dT (h:Hp)(body:(Hp->Prop)->Prop):Prop:=∃S:Hp->Prop,S h/\body S
theorem Mz {f:Nat->SH->Prop}:∀{l:List (Nat×SH)},xr f l->∀x∈l,f x.1 x.2
 | [],_,x,hx=>by simp at hx
 | [y],h,x,hx=>by simp at hx;subst hx;exact h
 | y::z::l,h,x,hx=>by
  rcases zR.1 hx with rfl|hx
  ·exact h.1
  ·exact Mz h.2 x hx
theorem Bz {ds:List Nat}{ρ ρ':Env}{ops:Array Oper}{i:Nat}{o:Oper}(ho:ops[i]?=some o){v:Value}
 (k:∀j,(ops.toList.filterMap (·.dst)).contains j=false->∀u,(ρ.jJ o.dst v) j=some u->ρ' j=some u):∀j,(ops.toList.filterMap (·.dst)).contains j=false->∀u,ρ j=some u->ρ' j=some u:=by
 intro j hj u hu;refine k j hj u ?_;cases hd:o.dst with
 | none=>exact hu
 | some d=>
  simp only[Env.jJ,Env.put];cases hb:Nat.beq j d
  ·exact hu
  ·have e:j=d:=pd hb;subst e;exfalso;simp only[wy,decide_eq_false_iff_not,BC,not_exists,not_and]at hj;refine hj o ?_ hd;have:=Iz ho;simpa using this
def TD (S:aP)(C D:List Nat)(h:Hp):Prop:=S h\/shut C D=true
theorem TD.ts {S:aP}{C D:List Nat}{ops:Array Oper}{listed:Array Bool}{w:World}(hD:jL ops listed D)(h:TD S C D w.heap):TS (λw=>S w.heap) C listed w:=by
 refine h.imp id λa=>?_;unfold shut at a;rw[zw]at a;obtain⟨k,d,b⟩:=a;exact⟨k,d,by rw[hD.qI];exact b⟩
theorem WkM {C D:List Nat}{ops:Array Oper}{listed:Array Bool}(hD:jL ops listed D)(h:shut C D=false):∀k∈C,listed.getD k false=false:=by
 intro k hk;unfold shut at h;rw[p8]at h;rw[hD.qI];simpa using h k hk
theorem Tp {C D:List Nat}{i:Nat}(h:shut C D=true):shut C (i::D)=true:=by
 unfold shut at *;rw[zw]at *;obtain⟨k,b,a⟩:=h;refine⟨k,b,?_⟩;rw[xU]at *;exact mJ _ a
theorem Le {sm:Bool}{S:aP}{C D:List Nat}{h:Hp}{X:Prop}(hs:sm=false->∀h,S h)(hx:Sx (sm && !shut C D) S h X):TD S C D h/\X:=by
 cases hc:shut C D
 ·rw[hc]at hx;simp only[Da,xi]at hx;cases sm
  ·exact⟨.inl (hs rfl h),hx⟩
  ·exact⟨.inl hx.1,hx.2⟩
 ·rw[hc]at hx;simp only[Bool.not_true,vN]at hx;exact⟨.inr hc,hx⟩
theorem QA {P:Program}{N:Nat}{ops:Array Oper}{sm:Bool}{C:List Nat}{S:aP}{K:Env->Hp->Prop}{Qn:Act->World->Prop}(hsel:Region.noSelect ops=true)(hsm:sm=false->∀h,S h):∀(n m:Nat) {sh:SH} {D:List Nat} {ρ:Env} {a:Act} {w:World} {listed:Array Bool},
 UN P N ops sm C S K n m sh D ρ w.heap->Fits N ρ a->jL ops listed D->TD S C D w.heap->(∀ρ' a' w',Fits N ρ' a'->ZQ w w'->U1 ops.toList ρ ρ'->K ρ' w'.heap->Qn a' w') →
 anyS P ops (λe a w=>match e with | .normal=>Qn a w|_=>False) (λw=>S w.heap) C m listed a w
 | 0,m,sh,D,ρ,a,w,listed,h,hf,hD,hS,hK=>(by simp only[UN]at h)
 | n+1,m,.done,D,ρ,a,w,listed,h,hf,hD,hS,hK=>by
  have h':gU ((List.range ops.size).all λj=>D.contains j) (K ρ w.heap):=by cases m<;>exact h
  rw[WK]at h';refine Wh3 ?_ (hK ρ a w hf (.refl _) (λ_ _ _ h=>h) h'.2) m;rw[List.eq_nil_iff_forall_not_mem];intro j Y;have B:=(Cg hD j).1 Y;have:=nD.1 h'.1 j (zQ.2 (Ex B));unfold qw at B;split at B
  ·cases B
  ·rw[this]at B;simp at B
 | n+1,0,.take i r,D,ρ,a,w,listed,h,hf,hD,hS,hK=>(by simp only[UN]at h)
 | n+1,m+1,.take i r,D,ρ,a,w,listed,h,hf,hD,hS,hK=>by
  simp only[UN]at h;split at h
  case h_2=>exact h.elim
  rename_i o ho;rw[WK]at h;obtain⟨X,h⟩:=h;simp only[zG,pZ]at X;obtain⟨aa,R,s,L⟩:=X;have H:=Ex aa;have z:i∈Region.ready .any ops listed:=(Cg hD i).2 aa;have p:TD S C (i::D) w.heap:=hS.imp id Tp;cases hg:wD ops o ρ
  ·rw[hg]at h;simp only[cond_false]at h;rw[WK]at h;obtain⟨V,h⟩:=h;have hw:=Qe hf V;cases hp:GY P o.op
   ·rw[hp]at h;simp only[cond_false]at h;rw[WK]at h;obtain⟨M,h⟩:=h;simp only[zG,pZ,nD]at M;obtain⟨v,J,F⟩:=Rp h;refine Fw (T:=λw=>S w.heap) ho hsel (GN hD R) z (λ_ _ _ h=>h) L (.inr ⟨λ_ h=>h,M.2.1⟩) (.inr (WkM hD M.2.2)) (v:=v) (.inl ⟨hw,λw' p=>?_⟩) (hS.ts hD) ?_
    ·obtain⟨u,B,rfl⟩:=CO hf.ev o (F w'.heap p);exact B
    ·exact QA hsel hsm n m J (hf.put s v) (hD.cons H) p λρ' a' w' g G E d=>hK ρ' a' w' g G (Bz (ds:=[]) ho E) d
   ·rw[hp]at h;simp only[cond_true]at h;obtain⟨v,J,F⟩:=TN hp h;refine Fw (T:=λ_=>True) ho hsel (GN hD R) z (λ_ _ _ h=>h) L (.inl λ_=>trivial) (.inl λ_=>trivial) (v:=v) (.inl ⟨hw,λw' _=>?_⟩) (hS.ts hD) ?_
    ·obtain⟨u,B,rfl⟩:=CO hf.ev o (F w'.heap);exact B
    ·exact QA hsel hsm n m J (hf.put s v) (hD.cons H) p λρ' a' w' g G E d=>hK ρ' a' w' g G (Bz (ds:=[]) ho E) d
  ·rw[hg]at h;simp only[cond_true]at h;refine Fw (T:=λ_=>True) ho hsel (GN hD R) z (λ_ _ _ h=>h) L (.inl λ_=>trivial) (.inl λ_=>trivial) (v:=undef) (.inr ⟨VF hf hg,rfl⟩) (hS.ts hD) ?_;exact QA hsel hsm n m h (hf.put s undef) (hD.cons H) p λρ' a' w' g G E d=>hK ρ' a' w' g G (Bz (ds:=[]) ho E) d
 | n+1,m,.split c t f,D,ρ,a,w,listed,h,hf,hD,hS,hK=>by
  have h':HV ρ (.tmp c) λb=>If b (UN P N ops sm C S K n m t D (ρ.put c (.bool true)) w.heap) (UN P N ops sm C S K n m f D (ρ.put c (.bool false)) w.heap):=by cases m<;>exact h
  obtain⟨b,hb,ac⟩:=UQ h';have A:=λe=>ac.t e;have h2:=λe=>ac.f e;have Q:ρ c=some (.bool b):=hb;have kk:∀(b':Bool),b=b'->∀ρ',U1 ops.toList (ρ.put c (.bool b')) ρ'->U1 ops.toList ρ ρ':=by
   intro b' e ρ' k i H u hu;refine k i H u ?_;simp only[Env.put];cases hic:Nat.beq i c
   ·exact hu
   ·have e2:i=c:=pd hic;subst e2;rw[Q]at hu;simp only[cond_true];rw[←e];exact hu
  cases b
  ·exact QA hsel hsm n m (h2 rfl) (hf.lit Q rfl) hD hS λρ' a' w' g G E d=>hK ρ' a' w' g G (kk false rfl ρ' E) d
  ·exact QA hsel hsm n m (A rfl) (hf.lit Q rfl) hD hS λρ' a' w' g G E d=>hK ρ' a' w' g G (kk true rfl ρ' E) d
 | n+1,0,.all l,D,ρ,a,w,listed,h,hf,hD,hS,hK=>(by simp only[UN]at h)
 | n+1,m+1,.all l,D,ρ,a,w,listed,h,hf,hD,hS,hK=>by
  simp only[UN]at h;rw[WK]at h;obtain⟨X,h⟩:=h;simp only[zG,pZ,nD,zQ,zY]at X;obtain⟨⟨af,ae⟩,ad⟩:=X;have Z:∀j,j∈Region.ready .any ops listed->∃r,(j,r)∈l:=by
   intro j Y;have B:=(Cg hD j).1 Y;have:=ad j (Ex B);rw[B]at this;have:=zw.1 this.symm;obtain⟨x,hx,hb⟩:=this;have e:x.1=j:=pd hb;exact⟨x.2,by rw[←e];exact hx⟩
  refine Tw (rs:=Region.ready .any ops listed) rfl ?_ λj Y=>?_
  ·intro hnil
   match l,af with
   | x::l',_=>
    have hx:=Nat.blt_eq.mp (ae x aA);have:=ad x.1 hx;have ab:(x::l').any (λy=>Nat.beq y.1 x.1)=true:=zw.2 ⟨x,by simp,by simp⟩;rw[ab]at this;have:=(Cg hD x.1).2 this;rw[hnil]at this;simp at this
  ·obtain⟨r,B⟩:=Z j Y;have A:=Mz h (j,r) B;simp only at A;split at A
   case h_2=>exact A.elim
   rename_i o ho;have H:j<ops.size:=(pJ.1 ho).1;rw[WK]at A;obtain⟨s,A⟩:=A;unfold wpOp;simp only[ho];cases hg:wD ops o ρ
   ·rw[hg]at A;simp only[cond_false]at A;rw[WK]at A;obtain⟨V,A⟩:=A;rw[zB (Qe hf V)];refine .inl (Vt.upon (Je hf.ev o A) λv w' G J=>?_);obtain⟨p,J⟩:=Le hsm J;exact⟨p.ts (hD.cons H),QA hsel hsm n m J (hf.put s v) (hD.cons H) p λρ' a' W g U E d=>hK ρ' a' W g (G.trans U) (Bz (ds:=[]) ho E) d⟩
   ·rw[hg]at A;simp only[cond_true]at A;rw[VF hf hg];simp only[zd,zz];obtain⟨p,J⟩:=Le hsm A;exact⟨p.ts (hD.cons H),QA hsel hsm n m J (hf.put s undef) (hD.cons H) p λρ' a' W g U E d=>hK ρ' a' W g U (Bz (ds:=[]) ho E) d⟩
def DI (P:Program)(N:Nat)(sm:Bool)(C:List Nat)(sh:SH)(ops:Array Oper)(ρ:Env)(h:Hp)(K:Env->Hp->Prop):Prop:=
 match sm with
 | true=>dT h λS=>UN P N ops true C S K 400 ops.size sh [] ρ h
 | false=>UN P N ops false C (λ_=>True) K 400 ops.size sh [] ρ h
theorem Uz {P:Program}{N id:Nat}{ops:Array Oper}{sm:Bool}{C:List Nat}{sh:SH}{K:Env->Hp->Prop}{ρ:Env}{a:Act}{w:World}{Q:Exit->Act->World->Prop}
 (hm:P.follows .mixedOrders=true) (hsel:Region.noSelect ops=true) (h:DI P N sm C sh ops ρ w.heap K)
 (hf:Fits N ρ a) (hK:∀ρ' a' w',Fits N ρ' a'->ZQ w w'->U1 ops.toList ρ ρ'->K ρ' w'.heap->Q .normal a' w'):(Code.region id ops true).wp P Q a w:=by
 refine wp_mono (Q:=λe a w=>match e with | .normal=>Q .normal a w|_=>False) ?_ (λe a w j=>by cases e<;>first|exact j|exact j.elim)
 have hd:ZQ w {w with drawn:=w.drawn+1}:=⟨rfl,rfl,rfl,zD _⟩;cases sm
 ·exact U4 (S:=λw=>True) hm (QA (S:=λ_=>True) (w:={w with drawn:=w.drawn+1}) (Qn:=Q .normal) hsel (λ_ _=>trivial) 400 ops.size h hf (jL.start ops) (.inl trivial) λρ' a' w' b g i d=>hK ρ' a' w' b (hd.trans g) i d)
 ·obtain⟨S,m,h⟩:=h;exact U4 hm (QA (S:=S) (w:={w with drawn:=w.drawn+1}) (Qn:=Q .normal) hsel (λe=>by cases e) 400 ops.size h hf (jL.start ops) (.inl m) λρ' a' w' b g i d=>hK ρ' a' w' b (hd.trans g) i d)
abbrev Js:=List (Nat×SK)
def sD (js:Js):List CK:=jD (js.map (·.2))
def xO (ρ:Env):Js->Option (List Value)
 | []=>some []
 | (i,.one _)::js=>match ρ i,xO ρ js with|some v,some vs=>some (v::vs)|_,_=>none
 | (i,.agg cs)::js=>match ρ i,xO ρ js with
  | some (.agg a),some vs=>bif a.size==cs.length then some (a.toList++vs)else none
  | _,_=>none
def yQ (js:Js)(ρ:Env)(J:eT (sD js))(h:Hp):Prop:=match xO ρ js with
 | some vs=>A5 (sD js) J vs h
 | none=>False
def jU:Env->Js->List Value->Env
 | ρ,[],_=>ρ
 | ρ,(i,.one _)::js,v::vs=>jU (ρ.put i v) js vs
 | ρ,(i,.one _)::js,[]=>jU ρ js []
 | ρ,(i,.agg cs)::js,vs=>jU (ρ.put i (.agg (vs.take cs.length).toArray)) js (vs.drop cs.length)
def Jn (ks:List CK)(K:eT ks)(body:eT ks->Prop):Prop:=∃J:eT ks,eT.le ks J K/\body J
theorem eT.le_refl:∀(ks:List CK) (R:eT ks),eT.le ks R R
 | [],_=>λ_ h=>h
 | _::cs,_=>λ_=>eT.le_refl cs _
theorem Jn.intro {ks:List CK}{K:eT ks}{body:eT ks->Prop}(h:body K):Jn ks K body:=⟨K,eT.le_refl ks K,h⟩
def rX (ds:List Nat)(i:Nat):Bool:=ds.contains i
def VG (ds:List Nat)(ρ ρ':Env):Prop:=∀i,ds.contains i=false->∀v,ρ i=some v->ρ' i=some v
theorem VG.trans {d1 d2:List Nat}{a b c:Env}(h:VG d1 a b)(k:VG d2 b c):VG (d1++d2) a c:=by
 intro i hi v hv;simp only[wy,zU,decide_eq_false_iff_not,not_or]at hi;exact k i (by simpa using hi.2) v (h i (by simpa using hi.1) v hv)
theorem VG.mono {d1 d2:List Nat}{a b:Env}(h:VG d1 a b)(hs:∀i,i∈d1->i∈d2):VG d2 a b:=by
 intro i hi v hv;refine h i ?_ v hv;simp only[wy,decide_eq_false_iff_not]at hi ⊢;exact λd=>hi (hs i d)
theorem VG.refl (ds:List Nat)(a:Env):VG ds a a:=λ_ _ _ h=>h
theorem Vo (ds:List Nat):∀(js:Js) (ρ:Env) (vs:List Value),(js.all λs=>rX ds s.1)=true->VG ds ρ (jU ρ js vs)
 | [],ρ,vs,_=>by simp only[jU];exact .refl _ _
 | (i,.one c)::js,ρ,[],h=>by
  simp only[yh,zG]at h;simp only[jU];exact Vo ds js ρ [] h.2
 | (i,.one c)::js,ρ,v::vs,h=>by
  simp only[yh,zG]at h;simp only[jU];intro j hj u hu;refine Vo ds js _ vs h.2 j hj u ?_;simp only[Env.put];cases hb:Nat.beq j i
  ·exact hu
  ·have e:j=i:=pd hb;subst e;simp only[rX]at h;rw[hj]at h;cases h.1
 | (i,.agg cs)::js,ρ,vs,h=>by
  simp only[yh,zG]at h;simp only[jU];intro j hj u hu;refine Vo ds js _ _ h.2 j hj u ?_;simp only[Env.put];cases hb:Nat.beq j i
  ·exact hu
  ·have e:j=i:=pd hb;subst e;simp only[rX]at h;rw[hj]at h;cases h.1
theorem V1 {N:Nat}:∀(js:Js) {ρ ρ':Env} {a:Act} {vs:List Value},Fits N ρ a->Fits N ρ' a->xO ρ' js=some vs->Fits N (jU ρ js vs) a
 | [],ρ,ρ',a,vs,h,_,_=>h
 | (i,.one c)::js,ρ,ρ',a,vs,h,h',hv=>by
  simp only[xO]at hv;split at hv
  ·rename_i v vs' h1 h2;cases hv;simp only[jU];refine V1 js ⟨h.defers,h.size,λj u hu=>?_⟩ h' h2;simp only[Env.put]at hu;cases hb:Nat.beq j i
   ·rw[hb]at hu;exact h.at_ j u hu
   ·have e:j=i:=pd hb;subst e;rw[hb]at hu;simp only[cond_true,Option.some.injEq]at hu;subst hu;exact h'.at_ j _ h1
  ·cases hv
 | (i,.agg cs)::js,ρ,ρ',a,vs,h,h',hv=>by
  simp only[xO]at hv;split at hv
  ·rename_i ar vs' h1 h2;cases hs:(ar.size==cs.length)
   ·rw[hs]at hv;cases hv
   ·rw[hs]at hv;simp only[cond_true,Option.some.injEq]at hv;subst hv;have b:ar.toList.length=cs.length:=by simpa using hs
    simp only[jU];rw[←b,List.take_left,List.drop_left];refine V1 js ⟨h.defers,h.size,λj u hu=>?_⟩ h' h2;simp only[Env.put]at hu;cases hb:Nat.beq j i
    ·rw[hb]at hu;exact h.at_ j u hu
    ·have e:j=i:=pd hb;subst e;rw[hb]at hu;simp only[cond_true,Option.some.injEq]at hu;subst hu;simpa using h'.at_ j _ h1
  ·cases hv
theorem Cw {js:Js}{ρ:Env}{J:eT (sD js)}{h:Hp}(hj:yQ js ρ J h):∃vs,xO ρ js=some vs/\Sat (sD js) J vs h:=by
 unfold yQ at hj;split at hj
 ·exact⟨_,by assumption,CF hj⟩
 ·exact hj.elim
theorem GC {N:Nat}{ds:List Nat}{ρ ρ':Env}{a:Act}(h:Fits N ρ' a)(k:VG ds ρ ρ'):Fits N (ρ.fB ds) a:=by
 refine h.weaken λi v b=>?_;simp only[Env.fB]at b;cases hc:ds.contains i
 ·rw[hc]at b;exact k i hc v b
 ·rw[hc]at b;cases b
theorem Gy (ds:List Nat)(ρ:Env):VG ds ρ (ρ.fB ds):=by
 intro i hi v hv;simp only[Env.fB,hi];exact hv
def Ce:Op->Bool
 | .pick .. => true
 | _=>false
def nP (os:List Oper):Bool:=os.all λo=>wK o.op||Ce o.op
theorem V0 {P:Program}{N:Nat}{ops:Array Oper}{Q:Act->Prop}{w:World}:∀(n:Nat) {hs:List RI} {os:List Oper} {tail:List Oper} {ρ:Env} {a:Act} {K:Env->Hp->Prop},
 fV P N ops n hs os ρ w.heap K->nP os=true->Fits N ρ a->(∀ρ' a',Fits N ρ' a'->U1 os ρ ρ'->K ρ' w.heap->wpStill P ops w Q tail a')->wpStill P ops w Q (os++tail) a
 | 0,_,_,_,_,_,_,h,_,_,_=>(by simp only[fV]at h)
 | n+1,[],[],tail,ρ,a,K,h,hq,hf,hK=>by
  simp only[fV]at h;exact hK ρ a hf (λ_ _ _ h=>h) h
 | n+1,[],o::os,tail,ρ,a,K,h,hq,hf,hK=>(by simp only[fV]at h)
 | n+1,.op::hs,[],tail,ρ,a,K,h,hq,hf,hK=>(by simp only[fV]at h)
 | n+1,.it ki c::hs,[],tail,ρ,a,K,h,hq,hf,hK=>(by simp only[fV]at h)
 | n+1,.it ki c::hs,o::os,tail,ρ,a,K,h,hq,hf,hK=>by
  simp only[fV]at h;rw[WK]at h;simp only[nP,yh,zG,rO]at hq;have h2:=h.2;unfold Dl at h2;split at h2
  ·rename_i heq;rw[heq]at hq;simp[wK,Ce]at hq
  ·rename_i heq;rw[heq]at hq;simp[wK,Ce]at hq
  ·exact h2.elim
 | n+1,.op::hs,o::os,tail,ρ,a,K,h,hq,hf,hK=>by
  simp only[fV]at h;rw[WK]at h;obtain⟨C,h⟩:=h;simp only[zG]at C;have hw:=Qe hf C.1;simp only[nP,yh,zG,rO]at hq;have Y:wK o.op=true:=by
   rcases hq.1 with h1|h1
   ·exact h1
   ·unfold Ce at h1;split at h1
    ·rename_i heq;rw[heq];rfl
    ·cases h1
  unfold AI at h;rw[Y]at h;obtain⟨v,V,s⟩:=CO hf.ev o h;simp only[oR,wpStill,hw,zW,Oper.still,V,Oper.stillUpon];exact⟨trivial,V0 n s (by simpa[nP]using hq.2) (hf.put C.2 v) λρ' a' g H A=>hK ρ' a' g H.cons A⟩
 | n+1,.dB and m inner::hs,os,tail,ρ,a,K,h,hq,hf,hK=>by
  simp only[fV]at h;split at h
  case h_2=>exact h.elim
  rename_i pk rest hdrop;split at h
  case h_2=>exact h.elim
  rename_i c x y d hop hd;split at h
  case h_2=>exact h.elim
  rename_i b hb;rw[WK]at h;obtain⟨C,J,hJ,h⟩:=h;simp only[zG]at C;obtain⟨X,L,U,hcc,u⟩:=C;have W:os++tail=os.take m++(pk::rest++tail):=by
   rw[←hdrop,←mE,qL]
  have S:nP (os.take m)=true:=by
   rw[nP,nD]at hq ⊢;exact λo M=>hq o (qt M)
  have Z:nP rest=true:=by
   rw[nP,nD]at hq ⊢;exact λo M=>hq o (uV (i:=m) (by rw[hdrop];exact mJ _ M))
  rw[W];have j:∀(r b':Bool) (z:Operand) a',b=b'->(bif b' then x else y)=z->Fits N (ρ.fB ((os.take m).filterMap (·.dst))) a'->J r w.heap->Region.wanted pk (yielded ops a'.tmps)=true →
   a'.eval (.tmp c)=.bool b'->a'.eval z=.bool r->wpStill P ops w Q (pk::rest++tail) a':=by
   intro r b' z a' e ez g E hw B hez;have G:(execOp a'.eval pk).run P w=.ok (.value (.bool r)) w:=by
    obtain⟨dst,op,ty,pos,aft,guard⟩:=pk;simp only at hop;subst hop;subst ez;cases b'<;>simp at hez<;>simp[execOp,B,asBool,hez]
   simp only[oR,wpStill,hw,zW,Oper.still,G,Oper.stillUpon];have aa:=g.put (d:=some d) X (.bool r);rw[hd];exact⟨trivial,V0 n (hJ _ _ E) Z aa λρ' ab F H A=>hK ρ' ab F (U1.dB hd hdrop H) A⟩
  have run:∀(b':Bool) (z:Operand),b=b'->(bif b' then x else y)=z →
   fV P N ops n inner (os.take m) (ρ.put c (.bool b')) w.heap (λρ' h'=>gU (sM ops pk ρ'&&xk ρ' c b') (HV ρ' z λr=>J r h'))->wpStill P ops w Q (os.take m++(pk::rest++tail)) a:=by
   intro b' z e ez hseg;refine V0 n hseg S (hf.lit hb e) λρ' a' g H s=>?_;rw[WK]at s;simp only[zG]at s;obtain⟨⟨hg,R⟩,s⟩:=s;obtain⟨r,V,E⟩:=UQ s;exact j r b' z a' e ez (g.Cm hb e H) E (Qe g hg) (g.ev _ _ (Cc R)) (g.ev _ _ V)
  have p:∀(b':Bool),b=b'->b' = !and->J (!and) w.heap->wpStill P ops w Q (os.take m++(pk::rest++tail)) a:=by
   intro b' e eb E;subst eb;refine MY u (hf.lit hb e) λa' g=>?_;have D:Fits N (ρ.fB ((os.take m).filterMap (·.dst))) a':=g.Cm (ρ':=(ρ.put c (.bool (!and))).fB ((os.take m).filterMap (·.dst))) hb e (λi hi v hv=>by simp only[Env.fB,hi];exact hv);have B:=g.ev (.tmp c) _ (Cc hcc);refine j (!and) (!and) (bif (!and)then x else y) a' e rfl D E (Qe D U) B ?_;refine Nb ?_ _ (λv=>rfl);cases and<;>exact L
  cases and
  ·simp only[cond_false]at h;cases b
   ·exact run false y rfl rfl (h.f rfl)
   ·exact p true rfl rfl (h.t rfl)
  ·simp only[cond_true]at h;cases b
   ·exact p false rfl rfl (h.f rfl)
   ·exact run true x rfl rfl (h.t rfl)
inductive RH where
 | seq (hs:List RI)
 | quiet (hs:List RI)
 | tail (n:Nat) (hs1 hs2:List RI)
 | held (sm:Bool) (C:List Nat) (sh:SH)
 | iH (sm:Bool) (C:List Nat) (js:Js) (sh:SH)
def yI (ops:Array Oper):List Nat:=ops.toList.filterMap (·.dst)
def xE (P:Program)(N:Nat)(r:RH)(ops:Array Oper)(draw:Bool)(ρ:Env)(h:Hp)(K:Env->Hp->Prop):Prop:=
 match r,draw with
 | .seq hs,false=>fV P N ops 400 hs ops.toList ρ h K
 | .quiet hs,true=>gU (P.follows .mixedOrders&&(Region.lexB .any ops&&nP ops.toList)) (fV P N ops 400 hs ops.toList ρ h K)
 | .tail n hs1 hs2,true=>gU (P.follows .mixedOrders&&(Region.lexTailB .any ops n&&nP (ops.toList.take n)))
  (fV P N ops 400 hs1 (ops.toList.take n) ρ h λρ' h'=>fV P N ops 400 hs2 (ops.toList.drop n) ρ' h' K)
 | .held sm C sh,true=>gU (P.follows .mixedOrders&&Region.noSelect ops) (DI P N sm C sh ops ρ h K)
 | .iH sm C js sh,true=>gU (P.follows .mixedOrders&&(Region.noSelect ops&&js.all λs=>rX (yI ops) s.1))
  (Jn (sD js) (lam (sD js) λvs h'=>K (jU (ρ.fB (yI ops)) js vs) h') λJ=>DI P N sm C sh ops ρ h λρ' h'=>yQ js ρ' J h')
 | _,_=>False
theorem PD {P:Program}{N id:Nat}{r:RH}{ops:Array Oper}{draw:Bool}{ρ:Env}{a:Act}{w:World}{K:Env->Hp->Prop}{Q:Exit->Act->World->Prop}
 (h:xE P N r ops draw ρ w.heap K) (hf:Fits N ρ a) (hK:∀ρ' a' w',Fits N ρ' a'->ZQ w w'->U1 ops.toList ρ ρ'->K ρ' w'.heap->Q .normal a' w'):(Code.region id ops draw).wp P Q a w:=by
 unfold xE at h;split at h
 ·rename_i F;refine wp_region_list ?_;have:=Vp (Q:=Q) (tail:=[]) 400 h hf λρ' a' w' d m j e=>hK ρ' a' w' d m j e;simpa using this
 ·rename_i F;rw[WK]at h;simp only[zG]at h;obtain⟨⟨u,x,A⟩,h⟩:=h;refine wp_region_still u x ?_;have:=V0 (w:={w with drawn:=w.drawn+1}) (Q:=λa'=>Q .normal a' {w with drawn:=w.drawn+1}) (tail:=[]) 400 h A hf λρ' a' d j e=>hK ρ' a' _ d ⟨rfl,rfl,rfl,zD _⟩ j e;simpa using this
 ·rename_i n hs1 hs2;rw[WK]at h;simp only[zG]at h;obtain⟨⟨u,x,A⟩,h⟩:=h;obtain⟨l,rfl⟩:∃l:List Oper,ops=l.toArray:=⟨ops.toList,by simp⟩;refine wp_region_still_tail n u x ?_;have:=V0 (w:={w with drawn:=w.drawn+1}) (ops:=l.toArray) (Q:=λa'=>wpList P l.toArray Q (l.drop n) a' {w with drawn:=w.drawn+1}) (tail:=[]) 400 h (by simpa using A) hf (λρ' a' d j e=>by
   have:=Vp (Q:=Q) (tail:=[]) (w:={w with drawn:=w.drawn+1}) 400 e d λE D G s m H B=>hK E D G s (ZQ.trans (b:={w with drawn:=w.drawn+1}) ⟨rfl,rfl,rfl,zD _⟩ m) (λi g v C=>?_) B
   ·simpa[wpStill]using this
   ·rw[show l.toArray.toList=l.take n++l.drop n by simp,yJ]at g;simp only[wy,zU,decide_eq_false_iff_not,not_or]at g;exact H i (by simpa using g.2) v (j i (by simpa using g.1) v C))
  simpa using this
 ·rename_i sm sh;rw[WK]at h;simp only[zG]at h;exact Uz h.1.1 h.1.2 h.2 hf hK
 ·rename_i sm js sh;rw[WK]at h;simp only[zG]at h;obtain⟨⟨u,p,y⟩,J,L,h⟩:=h;refine Uz u p h hf λρ' a' w' d m j e=>?_;obtain⟨vs,C,F⟩:=Cw e;have z:=Hq (F.mono L);refine hK _ a' w' (V1 js (GC d j) d C) m ?_ z;exact((Gy (yI ops) ρ).trans (Vo (yI ops) js (ρ.fB (yI ops)) vs y)).mono λi g=>by
   simp only[zU]at g;rcases g with h|h<;>exact h
 ·exact h.elim
def hO:Code->List Nat
 | .region _ ops _=>yI ops
 | .seq a b=>hO a++hO b
 | .cond _ a b=>hO a++hO b
 | .block _ b=>hO b
 | .loop b=>hO b
 | .scope b=>hO b
 | _=>[]
def xC:(ks:List CK)->eT ks->sQ ks->(Nat->Prop)->eT ks
 | [],I,μ,p=>λh=>I h/\p (μ h)
 | c::cs,I,μ,p=>λx=>xC cs (I x) (μ x) p
def Xb (ks:List CK)(start:eT ks->Prop)(round:eT ks->eT ks):Prop:=
 ∃(I:eT ks) (μ:sQ ks),start I/\∀m:Nat,eT.le ks (xC ks I μ (· = m)) (round (xC ks I μ (· < m)))
inductive Hn where
 | leaf
 | cV (r:RH)
 | seq (a b:Hn)
 | kX (js:Js) (a b:Hn)
 | cond (a b:Hn)
 | block (b:Hn)
 | loop (js:Js) (b:Hn)
 | scope (b:Hn)
def RI.ops:Nat->List RI
 | 0=>[]
 | n+1=>.op::RI.ops n
abbrev Hn.l:Hn:=.leaf
abbrev Hn.q (a b:Hn):Hn:=.seq a b
abbrev Hn.c (a b:Hn):Hn:=.cond a b
abbrev Hn.k (a:Hn):Hn:=.block a
def Hn.o (n:Nat):Hn:=.cV (.seq (RI.ops n))
abbrev Hn.o1:Hn:=.o 1
abbrev Hn.o2:Hn:=.o 2
abbrev Hn.aJ:Hn:=.c (.q .o2 .l) .l
abbrev Hn.aK:Hn:=.c (.q .o1 .l) .l
abbrev Hn.aL:Hn:=.q .o2 .l
abbrev Hn.aM:Hn:=.q .o1 .l
abbrev Hn.o3:Hn:=.o 3
abbrev Hn.o4:Hn:=.o 4
abbrev Hn.o5:Hn:=.o 5
abbrev Hn.o6:Hn:=.o 6
abbrev Hn.o7:Hn:=.o 7
abbrev Hn.o8:Hn:=.o 8
abbrev Hn.o9:Hn:=.o 9
abbrev Hn.fR:Hn:=.o 10
def Hn.oq (n:Nat):Hn:=.cV (.quiet (RI.ops n))
def IH (next:Env->Hp->Prop)(Q:Exit->Env->Hp->Prop):Exit->Env->Hp->Prop
 | .normal,ρ,h=>next ρ h
 | e,ρ,h=>Q e ρ h
def NQ (id:Nat)(Q:Exit->Env->Hp->Prop):Exit->Env->Hp->Prop
 | .exit i,ρ,h=>match Nat.beq i id with
  | true=>Q .normal ρ h
  | false=>Q (.exit i) ρ h
 | e,ρ,h=>Q e ρ h
def PI (Q:Exit->Env->Hp->Prop):Exit->Env->Hp->Prop
 | .goto _,_,_=>False
 | e,ρ,h=>Q e ρ h
def oA (P:Program)(N:Nat):Code->Hn->(Exit->Env->Hp->Prop)->Env->Hp->Prop
 | .skip,_,Q,ρ,h=>Q .normal ρ h
 | .ret,_,Q,ρ,h=>Q .ret ρ h
 | .exit id,_,Q,ρ,h=>Q (.exit id) ρ h
 | .region _ ops d,.cV r,Q,ρ,h=>xE P N r ops d ρ h λρ' h'=>Q .normal ρ' h'
 | .seq a b,.seq x y,Q,ρ,h=>oA P N a x (IH (λρ' h'=>oA P N b y Q ρ' h') Q) ρ h
 | .seq a b,.kX js x y,Q,ρ,h=>gU (js.all λs=>rX (hO a) s.1)
  (Jn (sD js) (lam (sD js) λvs h'=>oA P N b y Q (jU (ρ.fB (hO a)) js vs) h') λJ=>oA P N a x (IH (λρ' h'=>yQ js ρ' J h') Q) ρ h)
 | .cond c a b,.cond x y,Q,ρ,h=>HV ρ c λt=>If t (oA P N a x Q ρ h) (oA P N b y Q ρ h)
 | .block id b,.block x,Q,ρ,h=>oA P N b x (NQ id Q) ρ h
 | .scope b,.scope x,Q,ρ,h=>oA P N b x (PI Q) ρ h
 | .label _,_,Q,ρ,h=>Q .normal ρ h
 | .loop b,.loop js x,Q,ρ,h=>gU (js.all λs=>rX (hO b) s.1)
  (Xb (sD js) (λI=>yQ js ρ I h) λJ=>lam (sD js) λvs h'=>oA P N b x (IH (λρ' h''=>yQ js ρ' J h'') Q) (jU (ρ.fB (hO b)) js vs) h')
 | _,_,_,_,_=>False
theorem MT:∀{ks:List CK} {I:eT ks} {μ:sQ ks} {p:Nat->Prop} {vs:List Value} {h:Hp},Sat ks (xC ks I μ p) vs h->∃n,p n/\Sat ks (xC ks I μ (· = n)) vs h
 | [],I,μ,p,[],h,hs=>⟨μ h,hs.2,hs.1,rfl⟩
 | c::cs,I,μ,p,v::vs,h,⟨x,e,hs⟩=>by
  obtain⟨n,hp,hn⟩:=MT (I:=I x) (μ:=μ x) hs;exact⟨n,hp,x,e,hn⟩
 | [],I,μ,p,_::_,h,hs=>hs.elim
 | _::_,I,μ,p,[],h,hs=>hs.elim
theorem NV:∀{ks:List CK} {I:eT ks} (μ:sQ ks) {vs:List Value} {h:Hp},Sat ks I vs h->∃n,Sat ks (xC ks I μ (· = n)) vs h
 | [],I,μ,[],h,hs=>⟨μ h,hs,rfl⟩
 | c::cs,I,μ,v::vs,h,⟨x,e,hs⟩=>by
  obtain⟨n,hn⟩:=NV (I:=I x) (μ x) hs;exact⟨n,x,e,hn⟩
 | [],I,μ,_::_,h,hs=>hs.elim
 | _::_,I,μ,[],h,hs=>hs.elim
theorem IQ {p:Nat->Prop}(h:∃n,p n):∃n,p n/\∀m,p m->n<=m:=by
 obtain⟨n,d⟩:=h
 induction n using Nat.strongRecOn with
 | _ n ih=>
  by_cases hm:∃m,m<n/\p m
  ·obtain⟨m,a,b⟩:=hm;exact ih m a b
  ·exact⟨n,d,λm b=>Nat.le_of_not_lt λa=>hm ⟨m,a,b⟩⟩
open Classical in
noncomputable def Ak (p:Nat->Prop):Nat:=if h:∃n,p n then(IQ h).choose else 0
theorem Wfc {p:Nat->Prop}(h:∃n,p n):p (Ak p):=by
 unfold Ak;rw[dif_pos h];exact(IQ h).choose_spec.1
theorem WiP {p:Nat->Prop}{n:Nat}(h:p n):Ak p<=n:=by
 unfold Ak;rw[dif_pos ⟨n,h⟩];exact(IQ ⟨n,h⟩).choose_spec.2 n h
theorem WiM {P:Program}{c:Code}{Q:Exit->Act->World->Prop}{a:Act}{w:World}(I:Nat->Act->World->Prop)(h0:∃n,I n a w)
 (round:∀n a w,I n a w->c.wp P (Exit.then (λa' w'=>∃m,m<n/\I m a' w') Q) a w):(Code.loop c).wp P Q a w:=by
 refine wp_loop (λa w=>∃n,I n a w) (λa w=>Ak λn=>I n a w) h0 λa w g=>?_;refine wp_mono (round _ a w (Wfc g)) λe a' w' d=>?_;cases e<;>try exact d
 obtain⟨m,i,b⟩:=d;exact⟨⟨m,b⟩,Nat.lt_of_le_of_lt (WiP b) i⟩
theorem Kf {P:Program}{N:Nat}:∀(c:Code) {x:Hn} {Q:Exit->Env->Hp->Prop} {Q':Exit->Act->World->Prop} {ρ:Env} {a:Act} {w:World},
 oA P N c x Q ρ w.heap->Fits N ρ a->(∀e ρ' a' w',Fits N ρ' a'->ZQ w w'->VG (hO c) ρ ρ'->Q e ρ' w'.heap->Q' e a' w')->c.wp P Q' a w
 | .skip,x,Q,Q',ρ,a,w,h,hf,hq=>by
  have h':Q .normal ρ w.heap:=by cases x<;>exact h
  exact wp_skip (hq _ ρ a w hf (.refl _) (.refl _ _) h')
 | .ret,x,Q,Q',ρ,a,w,h,hf,hq=>by
  have h':Q .ret ρ w.heap:=by cases x<;>exact h
  exact wp_ret (hq _ ρ a w hf (.refl _) (.refl _ _) h')
 | .exit id,x,Q,Q',ρ,a,w,h,hf,hq=>by
  have h':Q (.exit id) ρ w.heap:=by cases x<;>exact h
  exact wp_exit (hq _ ρ a w hf (.refl _) (.refl _ _) h')
 | .region id ops d,x,Q,Q',ρ,a,w,h,hf,hq=>by
  cases x<;>simp only[oA]at h
  exact PD h hf λρ' a' w' b p r g=>hq _ ρ' a' w' b p r g
 | .seq c1 c2,x,Q,Q',ρ,a,w,h,hf,hq=>by
  cases x<;>simp only[oA]at h
  case seq x y=>
   refine wp_seq (Kf c1 h hf λe ρ' a' w' b p r g=>?_);cases e
   case normal=>exact Kf c2 g b λe ρ'' z A j u E F=>hq e ρ'' z A j (p.trans u) (r.trans E) F
   all_goals exact hq _ ρ' a' w' b p (r.mono λi s=>qP _ s) g
  case kX js x y=>
   rw[WK]at h;obtain⟨C,J,V,h⟩:=h;refine wp_seq (Kf c1 h hf λe ρ' a' w' b p r g=>?_);cases e
   case normal=>
    obtain⟨vs,L,H⟩:=Cw g;have D:=Hq (H.mono V);have S:=V1 js (GC b r) b L;refine Kf c2 D S λe ρ'' z A j u E F=>hq e ρ'' z A j (p.trans u) ?_ F;have W:=(Gy (hO c1) ρ).trans (Vo (hO c1) js (ρ.fB (hO c1)) vs C);exact(W.trans E).mono λi s=>by
     simp only[hO,zU]at s ⊢;rcases s with(h|h)|h
     ·exact Or.inl h
     ·exact Or.inl h
     ·exact Or.inr h
   all_goals exact hq _ ρ' a' w' b p (r.mono λi s=>qP _ s) g
 | .cond c c1 c2,x,Q,Q',ρ,a,w,h,hf,hq=>by
  cases x<;>simp only[oA]at h
  obtain⟨t,Y,h⟩:=UQ h;refine wp_cond_split (hf.ev _ _ Y) (λe=>?_) (λe=>?_)
  ·exact Kf c1 (h.t e) hf λe ρ' a' w' b p r g=>hq e ρ' a' w' b p (r.mono λi s=>qP _ s) g
  ·exact Kf c2 (h.f e) hf λe ρ' a' w' b p r g=>hq e ρ' a' w' b p (r.mono λi s=>sY _ s) g
 | .block id c1,x,Q,Q',ρ,a,w,h,hf,hq=>by
  cases x<;>simp only[oA]at h
  refine wp_block (Kf c1 h hf λe ρ' a' w' b p r g=>?_);cases e
  case exit i=>
   simp only[NQ]at g;simp only[Exit.inBlock];split at g
   ·rename_i e;have K:i=id:=pd e;rw[zB K];exact hq _ ρ' a' w' b p r g
   ·rename_i e;have K:i≠id:=λh=>by subst h;simp at e
    rw[zA K];exact hq _ ρ' a' w' b p r g
  all_goals exact hq _ ρ' a' w' b p r g
 | .loop c1,x,Q,Q',ρ,a,w,h,hf,hq=>by
  cases x<;>simp only[oA]at h
  rename_i js x;rw[WK]at h;obtain⟨C,I,μ,H,X⟩:=h;refine WiM (λn a' w'=>∃vs,Fits N (jU (ρ.fB (hO c1)) js vs) a'/\ZQ w w'/\Sat (sD js) (xC (sD js) I μ (· = n)) vs w'.heap) ?_ ?_
  ·obtain⟨vs,L,H⟩:=Cw H;obtain⟨n,M⟩:=NV μ H;exact⟨n,vs,V1 js (hf.weaken (DP _ _)) hf L,.refl _,M⟩
  ·rintro n a' w' ⟨vs,b,p,M⟩;have:=Hq (M.mono (X n));have kJ:=(Gy (hO c1) ρ).trans (Vo (hO c1) js (ρ.fB (hO c1)) vs C);refine Kf c1 this b λe ρ'' z A j u r g=>?_;have B:VG (hO c1) ρ ρ'':=(kJ.trans r).mono λi s=>by
    simp only[zU]at s;rcases s with(h|h)|h<;>exact h
   cases e
   case normal=>
    obtain⟨U,R,D⟩:=Cw g;obtain⟨m,Z,G⟩:=MT D;exact⟨m,Z,U,V1 js (GC j B) j R,p.trans u,G⟩
   all_goals exact hq _ ρ'' z A j (p.trans u) B g
 | .scope c1,x,Q,Q',ρ,a,w,h,hf,hq=>by
  cases x<;>simp only[oA]at h
  refine wp_scope_straight (Kf c1 h hf λe ρ' a' w' b p r g=>?_);cases e
  case goto l=>exact g.elim
  all_goals exact hq _ ρ' a' w' b p r g
 | .label l,x,Q,Q',ρ,a,w,h,hf,hq=>by
  have h':Q .normal ρ w.heap:=by cases x<;>exact h
  exact wp_label (hq _ ρ a w hf (.refl _) (.refl _ _) h')
 | .rangeFunc ..,x,Q,Q',ρ,a,w,h,hf,hq=>(by cases x<;>simp only[oA]at h)
 | .goto ..,x,Q,Q',ρ,a,w,h,hf,hq=>(by cases x<;>simp only[oA]at h)
 | .refuse ..,x,Q,Q',ρ,a,w,h,hf,hq=>(by cases x<;>simp only[oA]at h)
def sZ (P:Program)(r:ResultVar)(s:SK)(ρ:Env)(h:Hp)(K:List Value->Prop):Prop:=
 match r,s with
 | .tmp t,.one _=>wv (ρ t) λv=>K [v]
 | .tmp t,.agg cs=>wv (ρ t) λv=>match v with
  | .agg a=>gU (a.size==cs.length) (K a.toList)
  | _=>False
 | .cell a t,.one c=>wv (ρ a) λv=>match v,mY P t with
  | .pointer (some ad),some (.one _)=>Cu c ad h λx=>K [c.v x]
  | _,_=>False
 | .cell a t,.agg cs=>wv (ρ a) λv=>match v,mY P t with
  | .pointer (some ad),some (.agg _)=>gU (P.cellsOf t==cs.length&&(P.info? t).isSome) (rq cs ad 0 h λvs=>K vs)
  | _,_=>False
def sW (P:Program):List ResultVar->List SK->Env->Hp->(List Value->Prop)->Prop
 | [],[],_,_,K=>K []
 | r::rs,s::ss,ρ,h,K=>sZ P r s ρ h λvs=>sW P rs ss ρ h λus=>K (vs++us)
 | _,_,_,_,_=>False
def A7 (P:Program)(fn:Func)(rs:List SK)(R:eT (jD rs)):Exit->Env->Hp->Prop
 | .normal,ρ,h=>sW P fn.results.toList rs ρ h λvs=>A5 (jD rs) R vs h
 | .ret,ρ,h=>sW P fn.results.toList rs ρ h λvs=>A5 (jD rs) R vs h
 | _,_,_=>False
def F3 (vs:List Value):Env:=λi=>vs[i]?
def Jq (P:Program)(fn:Func)(x:Hn)(args:List Value)(rs:List SK)(R:eT (jD rs))(h:Hp):Prop:=
 match fn.body with
 | some c=>gU (Nat.ble args.length fn.ntmps) (oA P fn.ntmps c x (A7 P fn rs R) (F3 args) h)
 | none=>False
def He:SK->List Value->Value
 | .one _,[v]=>v
 | .one _,_=>undef
 | .agg _,vs=>.agg vs.toArray
def xQ (tmps:Array Value):ResultVar->Sem Value
 | .tmp t=>pure (tmps.getD t undef)
 | .cell b t=>do loadVar t (←asAddr (tmps.getD b undef))
theorem WgG (fn:Func)(tmps:Array Value):results fn tmps=(do
 let vs ←fn.results.mapM (xQ tmps)
 pure (if h:vs.size=1 then vs[0]else .tuple vs)):=by
 unfold results
 congr 1
theorem Sy {P:Program}{r:ResultVar}{s:SK}{ρ:Env}{K:List Value->Prop}{a:Act}{N:Nat}{w:World}(hf:Fits N ρ a)(h:sZ P r s ρ w.heap K) :
 ∃vs,vs.length=s.ks.length/\K vs/\(xQ a.tmps r).run P w=.ok (He s vs) w:=by
 unfold sZ at h;split at h
 ·rename_i t c;obtain⟨v,i,e⟩:=Wq h;refine⟨[v],rfl,e,?_⟩;simp[xQ,vW,hf.at_ _ _ i,He]
 ·rename_i t cs;obtain⟨v,i,e⟩:=Wq h;split at e
  ·rename_i ar;rw[WK]at e;refine⟨ar.toList,by simpa[SK.ks]using e.1,e.2,?_⟩;simp[xQ,vW,hf.at_ _ _ i,He]
  ·exact e.elim
 ·rename_i b t c;obtain⟨v,i,e⟩:=Wq h;split at e
  ·rename_i ad c' hs;obtain⟨d,hd,g⟩:=Mg hs;obtain⟨x,p,e⟩:=EA e;refine⟨[c.v x],rfl,e,?_⟩;simp only[xQ,vW,hf.at_ _ _ i,sS,asAddr,Sem.run_bind,Sem.run_pure,Result.andThen_ok,loadVar,KX hd,g,He];simpa using IJ p
  ·exact e.elim
 ·rename_i b t cs;obtain⟨v,i,e⟩:=Wq h;split at e
  ·rename_i ad cs' hs;rw[WK]at e;obtain⟨j,e⟩:=e;simp only[zG,zY]at j;obtain⟨d,hd,g⟩:=N6 hs;obtain⟨vs,u,e,m⟩:=Ip (P:=P) e;refine⟨vs,u,e,?_⟩;simp only[xQ,vW,hf.at_ _ _ i,sS,asAddr,Sem.run_bind,Sem.run_pure,Result.andThen_ok,loadVar,KX hd,g,zW,Q3 j.2,loadCells,j.1,m,He];simp
  ·exact e.elim
theorem Ou {P:Program}{ρ:Env}{a:Act}{N:Nat}{w:World}(hf:Fits N ρ a):∀{rv:List ResultVar} {rs:List SK} {K:List Value->Prop},sW P rv rs ρ w.heap K →
 ∃vs,K vs/\(rv.mapM (xQ a.tmps)).run P w=.ok (ue rs vs) w
 | [],[],K,h=>⟨[],h,by simp[ue]⟩
 | r::rv,s::rs,K,h=>by
  obtain⟨v1,hl,hK,hr⟩:=Sy hf h;obtain⟨e,b,d⟩:=Ou hf hK;refine⟨v1++e,b,?_⟩;simp only[List.mapM_cons,Sem.run_bind,hr,Result.andThen_ok,d,Sem.run_pure];cases s with
  | one c=>
   match v1,hl with
   | [v],_=>simp[ue,He]
  | agg cs=>
   simp only[SK.ks]at hl;simp only[ue,He,←hl,List.take_left,List.drop_left]
 | [],_::_,K,h=>h.elim
 | _::_,[],K,h=>h.elim
theorem Ox {P:Program}{fn:Func}{ρ:Env}{a:Act}{N:Nat}{w:World}{rs:List SK}{K:List Value->Prop}(hf:Fits N ρ a)(h:sW P fn.results.toList rs ρ w.heap K) :
 ∃vs,K vs/\(results fn a.tmps).run P w=.ok (pack rs vs) w:=by
 obtain⟨vs,d,b⟩:=Ou hf h;refine⟨vs,d,?_⟩;rw[WgG,Array.mapM_eq_mapM_toList];simp only[Sem.run_bind,Sem.run_map,b,Result.andThen_ok,Sem.run_pure,pack];split
 ·rename_i h1
  match hp:ue rs vs,h1 with
  | [v],_=>simp
 ·rename_i h1
  match hp:ue rs vs,h1 with
  | [],_=>rfl
  | [v],h1=>simp at h1
  | _::_::_,_=>rfl
theorem R0 {a b:Prop}(f:b)(e:a=b:=by kernel_rfl):a:=e.mpr f
theorem Wa {P:Program}{f:Nat}{fn:Func}{x:Hn}{args:List Value}{rs:List SK}{R:eT (jD rs)}{h:Hp}(hfn:P.funcs[f]?=some fn)(hk:Jq P fn x args rs R h):We P f args.toArray rs h R:=by
 intro w hw;subst hw;unfold Jq at hk;split at hk
 case h_2=>exact hk.elim
 rename_i c hb;rw[WK]at hk;obtain⟨j,hk⟩:=hk;have s:args.length<=fn.ntmps:=Nat.le_of_ble_eq_true j;refine calls_of_wp hfn hb ?_;refine Kf c hk (ρ:=F3 args) ⟨rfl,by simp;omega,λi v m=>?_⟩ λe u z y a r A g=>?_
 ·simp only[F3]at m;have b:i<args.length:=(cQ.1 m).1;rw[IV (by simpa using b)];simpa using m
 ·cases e<;>simp only[A7]at g
  case normal=>
   obtain⟨vs,d,p⟩:=Ox a g;exact⟨a.defers,_,p,r,vs,rfl,CF d⟩
  case ret=>
   obtain⟨vs,d,p⟩:=Ox a g;exact⟨a.defers,_,p,r,vs,rfl,CF d⟩
theorem Jv {start:eT []->Prop}{round:eT []->eT []}(I:aP)(μ:Hp->Nat)(h0:start I)
 (hr:∀h,I h->round (λh'=>I h'/\μ h'<μ h) h):Xb [] start round:=
 ⟨I,μ,h0,λ_ h ⟨a,b⟩=>b▸hr h a⟩
theorem ZV {a:CK}{start:eT [a]->Prop}{round:eT [a]->eT [a]}(I:a.T->Hp->Prop)(μ:a.T->Hp->Nat)(h0:start I)
 (hr:∀x h,I x h->round (λx' h'=>I x' h'/\μ x' h'<μ x h) x h):Xb [a] start round:=
 ⟨I,μ,h0,λ_ x h ⟨d,b⟩=>b▸hr x h d⟩
theorem KA {a bb:CK}{start:eT [a,bb]->Prop}{round:eT [a,bb]->eT [a,bb]}(I:a.T->bb.T->Hp->Prop)(μ:a.T->bb.T->Hp->Nat)(h0:start I)
 (hr:∀x y h,I x y h->round (λx' y' h'=>I x' y' h'/\μ x' y' h'<μ x y h) x y h):Xb [a,bb] start round:=
 ⟨I,μ,h0,λ_ x y h ⟨d,b⟩=>b▸hr x y h d⟩
theorem N2 {a bb c:CK}{start:eT [a,bb,c]->Prop}{round:eT [a,bb,c]->eT [a,bb,c]}(I:a.T->bb.T->c.T->Hp->Prop)(μ:a.T->bb.T->c.T->Hp->Nat)(h0:start I)
 (hr:∀x y z h,I x y z h->round (λx' y' z' h'=>I x' y' z' h'/\μ x' y' z' h'<μ x y z h) x y z h):Xb [a,bb,c] start round:=
 ⟨I,μ,h0,λ_ x y z h ⟨d,b⟩=>b▸hr x y z h d⟩
theorem NG {a bb c d e:CK}{start:eT [a,bb,c,d,e]->Prop}{round:eT [a,bb,c,d,e]->eT [a,bb,c,d,e]}(I:a.T->bb.T->c.T->d.T->e.T->Hp->Prop)(μ:a.T->bb.T->c.T->d.T->e.T->Hp->Nat)(h0:start I)
 (hr:∀x y z u v h,I x y z u v h->round (λx' y' z' u' v' h'=>I x' y' z' u' v' h'/\μ x' y' z' u' v' h'<μ x y z u v h) x y z u v h):Xb [a,bb,c,d,e] start round:=
 ⟨I,μ,h0,λ_ x y z u v h ⟨g,b⟩=>b▸hr x y z u v h g⟩
theorem aG {a:Addr}{K:Addr->Prop}(h:K a):bQ (some a) K:=⟨a,rfl,h⟩
theorem rl {k:IntKind}{a:Addr}{h:Hp}{n:Int}{K:Int->Prop}(hc:cell h a=some (.int k n))(hK:K n):fL k a h K:=⟨n,hc,hK⟩
theorem oH {a:Addr}{h:Hp}{n:Bool}{K:Bool->Prop}(hc:cell h a=some (.bool n))(hK:K n):mM a h K:=⟨n,hc,hK⟩
theorem wL {a:Addr}{h:Hp}{n:Option Addr}{K:Option Addr->Prop}(hc:cell h a=some (.pointer n))(hK:K n):fY a h K:=⟨n,hc,hK⟩
theorem Ln {a:Addr}{h:Hp}{n:Option Nat}{K:Option Nat->Prop}(hc:cell h a=some (.map n))(hK:K n):qc a h K:=⟨n,hc,hK⟩
theorem rm {a:Addr}{h:Hp}{x:Option Addr}{n c:Nat}{K:Sl->Prop}(hc:cell h a=some (.slice x n c))(hK:K ⟨x,n,c⟩):kG a h K:=⟨⟨x,n,c⟩,hc,hK⟩
theorem US {e:Int}(h1 : -9223372036854775808<=e)(h2:e<=9223372036854775807):IntKind.i64.wrap e=e:=by
 unfold IntKind.wrap;simp[IntKind.bits,IntKind.signed];omega
theorem ar {e:Int}{K:Int->Prop}(h1 : -9223372036854775808<=e)(h2:e<=9223372036854775807)(hK:K e):Ar .i64 e K:=by
 unfold Ar;rw[US h1 h2];exact hK
theorem T9 (e:Int) : -9223372036854775808<=IntKind.i64.wrap e/\IntKind.i64.wrap e<=9223372036854775807:=by
 unfold IntKind.wrap;simp[IntKind.bits,IntKind.signed];omega
theorem nz {y:Int}{A:Prop}(h:y≠0)(hA:A):Nz y A:=⟨h,hA⟩
theorem nn {y:Int}{A:Prop}(h:0<=y)(hA:A):Nn y A:=⟨h,hA⟩
theorem ix {a:Addr}{n:Nat}{i:Int}{sz:Nat}{K:Addr->Prop}(h0:0<=i)(h1:i<(n:Int))(hK:K (a.add (i.toNat*sz))):Ix (some a) n i sz K:=⟨a,rfl,h0,h1,hK⟩
theorem cU {b:Bool}{A B:Prop}(h1:b=true->A)(h2:b=false->B):If b A B:=If.mk h1 h2
theorem cI {p:Prop}[Decidable p]{A B:Prop}(h1:p->A)(h2:¬p->B):If (decide p) A B:=
 If.mk (λh=>h1 (qs h)) (λh=>h2 (uG h))
theorem cJ {b:Bool}{A B:Prop}(hb:b=true)(h:A):If b A B:=by subst hb;exact h
theorem cG {b:Bool}{A B:Prop}(hb:b=false)(h:B):If b A B:=by subst hb;exact h
theorem oK {p:Prop}[Decidable p]{A B:Prop}(hp:p)(h:A):If (decide p) A B:=cJ (by simpa using hp) h
theorem fJ {p:Prop}[Decidable p]{A B:Prop}(hp:¬p)(h:B):If (decide p) A B:=cG (by simpa using hp) h
theorem ME (a:Int)(n:Nat):a.fdiv (2^n)=a/2^n:=Int.fdiv_eq_ediv_of_nonneg _ (Int.le_of_lt (Int.pow_pos aB))
theorem Yb {a b:Int}(h:0<=a):a.tdiv b=a/b:=Int.tdiv_eq_ediv_of_nonneg h
theorem Kj {a b:Int}(h:0<=a):a.tmod b=a%b:=Int.tmod_eq_emod_of_nonneg h
def bX (h:Hp)(b:Nat)(cs:List Value):Prop:=∃e,h[b]?=some (.cells cs.toArray e (0,0))
theorem bX.lt {h:Hp}{b:Nat}{cs:List Value}(hb:bX h b cs):b<h.size:=by
 obtain⟨e,a⟩:=hb;exact(pJ.1 a).1
theorem bX.cell {h:Hp}{b o:Nat}{cs:List Value}(hb:bX h b cs):cell h ⟨b,o,none⟩=cs[o]? := by
 obtain⟨e,a⟩:=hb;simp[Vc.cell,a]
theorem bX.sG {h:Hp}{b o:Nat}{cs:List Value}(hb:bX h b cs):sG h ⟨b,o,none⟩=false:=by
 obtain⟨e,a⟩:=hb;simp[Vc.sG,a]
theorem bX.set {h:Hp}{b o:Nat}{cs:List Value}(hb:bX h b cs)(v:Value):bX (nA h ⟨b,o,none⟩ v) b (cs.set o v):=by
 obtain⟨e,a⟩:=hb;refine⟨e,?_⟩;simp[nA,Db,a]
theorem V4 {h:Hp}{a:Addr}{v:Value}{b:Nat}(hne:b≠a.block):(nA h a v)[b]?=h[b]? := by
 simp only[nA,Db];rw[zA (Ne.symm hne)]
theorem add_lit (b o n:Nat):Addr.add ⟨b,o,none⟩ n=⟨b,o+n,none⟩:=Addr.add_lit b o n
def qu (h:Hp)(b:Nat)(cs:List Value):Prop:=∃e z,h[b]?=some (.cells cs.toArray e z)
theorem bX.q {h:Hp}{b:Nat}{cs:List Value}(hb:bX h b cs):qu h b cs:=by
 obtain⟨e,a⟩:=hb;exact⟨e,_,a⟩
theorem qu.lt {h:Hp}{b:Nat}{cs:List Value}(hb:qu h b cs):b<h.size:=by
 obtain⟨e,z,a⟩:=hb;exact(pJ.1 a).1
theorem qu.cell {h:Hp}{b o:Nat}{cs:List Value}(hb:qu h b cs):cell h ⟨b,o,none⟩=cs[o]? := by
 obtain⟨e,z,a⟩:=hb;simp[Vc.cell,a]
def Ext (F:Nat->Prop)(h h':Hp):Prop:=h.size<=h'.size/\∀b,b<h.size->¬F b->h'[b]?=h[b]?
def bO (h h':Hp):Prop:=Ext (λ_=>False) h h'
theorem Ext.refl (F:Nat->Prop)(h:Hp):Ext F h h:=⟨zD _,λ_ _ _=>rfl⟩
theorem Ext.trans {F:Nat->Prop}{a b c:Hp}(h:Ext F a b)(k:Ext F b c):Ext F a c:=
 ⟨zJ h.1 k.1,λi d e=>(k.2 i (yR d h.1) e).trans (h.2 i d e)⟩
theorem Ext.mono {F G:Nat->Prop}{a b:Hp}(h:Ext F a b)(hs:∀i,i<a.size->F i->G i):Ext G a b:=
 ⟨h.1,λi d e=>h.2 i d λg=>e (hs i d g)⟩
theorem bO.to {F:Nat->Prop}{a b:Hp}(h:bO a b):Ext F a b:=Ext.mono h λ_ _ h=>h.elim
theorem Ext.pc {F:Nat->Prop}{a b c:Hp}(h:Ext F a b)(k:bO b c):Ext F a c:=h.trans k.to
theorem Ext.size {F:Nat->Prop}{a b:Hp}(h:Ext F a b):a.size<=b.size:=h.1
theorem Ext.push (F:Nat->Prop)(h:Hp)(o:Obj):Ext F h (h.push o):=
 ⟨by simp,λb a _=>by rw[Ch,zA (zv a)]⟩
theorem Ext.eR {F:Nat->Prop}{h h':Hp}{r:Nat}(ho:QJ h h' r)(hr:F r):Ext F h h':=
 ⟨Nat.le_of_eq ho.1.symm,λb _ a=>ho.2 b λe=>a (e▸hr)⟩
theorem Ext.nA {F:Nat->Prop}{h:Hp}{a:Addr}{v:Value}(hr:F a.block):Ext F h (nA h a v):=
 ⟨Nat.le_of_eq (Vz h a v).symm,λb _ d=>V4 λe=>d (e▸hr)⟩
theorem Ext.at_ {F:Nat->Prop}{h h':Hp}(e:Ext F h h'){b:Nat}{o:Obj}(hb:h[b]?=some o)(hf:¬F b):h'[b]?=some o:=by
 rw[e.2 b (pJ.1 hb).1 hf];exact hb
theorem Ext.bV {F:Nat->Prop}{h h':Hp}(e:Ext F h h'){b:Nat}{cs:List Value}(hb:bX h b cs)(hf:¬F b):bX h' b cs:=by
 obtain⟨t,a⟩:=hb;exact⟨t,e.at_ a hf⟩
theorem Ext.gS {F:Nat->Prop}{h h':Hp}(e:Ext F h h'){r:Nat}{k:IntKind}{c:CK}{l:List (Int×c.T)}(hb:dN h r k c l)(hf:¬F r):dN h' r k c l:=by
 obtain⟨d,a,b,rest⟩:=hb;exact⟨d,a,e.at_ b hf,rest⟩
theorem dN.lt {h:Hp}{r:Nat}{k:IntKind}{c:CK}{l:List (Int×c.T)}(hb:dN h r k c l):r<h.size:=by
 obtain⟨d,b,a,_⟩:=hb;exact(pJ.1 a).1
theorem dN.nodup {h:Hp}{r:Nat}{k:IntKind}{c:CK}{l:List (Int×c.T)}(hb:dN h r k c l):(l.map (·.1)).Nodup:=by
 obtain⟨e,a,d,_,b,_⟩:=hb;exact b
theorem Ws {h h':Hp}{r b:Nat}{cs:List Value}(ho:QJ h h' r)(hb:bX h b cs)(hne:b≠r):bX h' b cs:=by
 obtain⟨t,a⟩:=hb;exact⟨t,by rw[ho.2 b hne];exact a⟩
theorem HW {h h':Hp}{r b:Nat}{k:IntKind}{c:CK}{l:List (Int×c.T)}(ho:QJ h h' r)(hb:dN h b k c l)(hne:b≠r):dN h' b k c l:=by
 obtain⟨e,a,d,rest⟩:=hb;exact⟨e,a,by rw[ho.2 b hne];exact d,rest⟩
end Go.Vc
namespace Go.Bu
open Go Go.Vc
theorem PY {a b:Nat}(ha:a<9223372036854775808)(hb:b<9223372036854775808):bits .xor .i64 (a:Int) (b:Int)=((a ^^^ b:Nat):Int):=by
 have g:a ^^^ b<2^63:=Nat.xor_lt_two_pow O O;have e:(BitVec.ofInt 64 (a:Int)).toNat=a:=by
  rw[BitVec.ofInt_natCast,BitVec.toNat_ofNat];exact yG O
 have d:(BitVec.ofInt 64 (b:Int)).toNat=b:=by
  rw[BitVec.ofInt_natCast,BitVec.toNat_ofNat];exact yG O
 show IntKind.i64.wrap ((BitVec.ofInt 64 (a:Int) ^^^ BitVec.ofInt 64 (b:Int)).toNat:Int)=_;rw[BitVec.toNat_xor,e,d,US]<;>omega
theorem kQ {a b:Nat}(ha:a<9223372036854775808)(hb:b<9223372036854775808):bits .and .i64 (a:Int) (b:Int)=((a &&& b:Nat):Int):=by
 have g:a &&& b<2^63:=Nat.and_lt_two_pow _ O;have e:(BitVec.ofInt 64 (a:Int)).toNat=a:=by
  rw[BitVec.ofInt_natCast,BitVec.toNat_ofNat];exact yG O
 have d:(BitVec.ofInt 64 (b:Int)).toNat=b:=by
  rw[BitVec.ofInt_natCast,BitVec.toNat_ofNat];exact yG O
 show IntKind.i64.wrap ((BitVec.ofInt 64 (a:Int) &&& BitVec.ofInt 64 (b:Int)).toNat:Int)=_;rw[BitVec.toNat_and,e,d,US]<;>omega
theorem TY (q:Nat):q ^^^ 1=iJ q:=by
 apply Nat.eq_of_testBit_eq;intro i;rw[Nat.testBit_xor];unfold iJ;cases i with
 | zero=>
  simp only[Nat.testBit_zero];split<;>rename_i h
  ·have:(q+1)%2=1:=by omega
   simp[h,this]
  ·have b:q%2=1:=by omega
   have:(q-1)%2=0:=by omega
   simp[b,this]
 | succ i=>
  simp only[Nat.testBit_succ];have a:(1:Nat)/2=0:=by decide
  rw[a,Nat.zero_testBit,Bool.xor_false]
  congr 1
  split<;>omega
theorem Wml (q k:Nat):(q*2^k) ^^^ (2^k)=iJ q*2^k:=by
 have h:=Nat.shiftLeft_xor_distrib (a:=q) (b:=1) (i:=k);rw[TY,Nat.shiftLeft_eq,Nat.shiftLeft_eq,Nat.shiftLeft_eq,Ag]at h;exact h.symm
theorem OC {k:Nat}(h:k<=62):2^k<=4611686018427387904:=sC (n:=2) aB h
def Keys (S:Nat->Bool)(k:Nat)(B:List (Int×Bool)):Prop:=
 (∀x v,(x,v)∈B->v=true/\∃q:Nat,x=((q*2^k:Nat):Int)/\can S k q=true)/\∀q,can S k q=true->(((q*2^k:Nat):Int),true)∈B
structure BH (σ:Hp) (p n:Nat) (S:Nat->Bool) (sb:Nat) (ms:List Nat):Prop where
 hd:∃cap,bX σ p [.int .i64 n,.slice (some ⟨sb,0,none⟩) ms.length cap]
 row:∃rest,bX σ sb (ms.map (λm=>Value.map (some m))++rest)
 maps:∀k m,ms[k]?=some m->∃B:List (Int×Bool),dN σ m .i64 .b B/\Keys S k B
 nd:(p::sb::ms).Nodup
 n1:1<=n
 n2:n<=1024
 lo:2^ms.length<=2*n
 hi:n<2^ms.length
 kU:Bounded S n
def fp (p sb:Nat)(ms:List Nat)(b:Nat):Prop:=b∈p::sb::ms
variable {σ h':Hp}{p n sb:Nat}{S:Nat->Bool}{ms:List Nat}
theorem BH.len (h:BH σ p n S sb ms):ms.length<=11:=by
 have:=h.lo;have:=h.n2;apply Classical.byContradiction;intro hc;have:2^12<=2^ms.length:=sC aB O;omega
theorem BH.fits (h:BH σ p n S sb ms){k q:Nat}(hf:q*2^k+2^k<=n):k<ms.length:=by
 apply Classical.byContradiction;intro hc;have:2^ms.length<=2^k:=sC aB O;have:=h.hi;omega
theorem BH.TF (h:BH σ p n S sb ms):cell σ ⟨p,0,none⟩=some (.int .i64 n):=by
 obtain⟨cap,a⟩:=h.hd;rw[a.cell];rfl
theorem BH.oH (h:BH σ p n S sb ms):∃cap,cell σ ⟨p,1,none⟩=some (.slice (some ⟨sb,0,none⟩) ms.length cap):=by
 obtain⟨cap,a⟩:=h.hd;exact⟨cap,by rw[a.cell];rfl⟩
theorem BH.P0 (h:BH σ p n S sb ms){k m:Nat}(hm:ms[k]?=some m):cell σ ⟨sb,k,none⟩=some (.map (some m)):=by
 obtain⟨rest,a⟩:=h.row;rw[a.cell,zh (by simpa using(cQ.1 hm).1),zi,hm];rfl
theorem BH.get (h:BH σ p n S sb ms){k:Nat}(hk:k<ms.length):∃m,ms[k]?=some m:=⟨ms[k],by simp[hk]⟩
theorem BH.bU (h:BH σ p n S sb ms){F:Nat->Prop}(e:Ext F σ h')(hF:∀b,fp p sb ms b->¬F b):BH h' p n S sb ms where
 hd:=by obtain⟨cap,a⟩:=h.hd;exact⟨cap,e.bV a (hF _ (by simp[fp]))⟩
 row:=by obtain⟨rest,a⟩:=h.row;exact⟨rest,e.bV a (hF _ (by simp[fp]))⟩
 maps:=λk m d=>by
  obtain⟨B,i,g⟩:=h.maps k m d;exact⟨B,e.gS i (hF _ (by simp[fp,zE d])),g⟩
 nd:=h.nd
 n1:=h.n1
 n2:=h.n2
 lo:=h.lo
 hi:=h.hi
 kU:=h.kU
theorem BH.bK (h:BH σ p n S sb ms)(e:bO σ h'):BH h' p n S sb ms:=h.bU e λ_ _=>id
theorem Wlm {k:Nat}{B:List (Int×Bool)}(hK:Keys S k B)(hn:(B.map (·.1)).Nodup)(q:Nat):bW B ((q*2^k:Nat):Int)=if can S k q then some true else none:=by
 unfold bW;cases hf:B.find? λx=>x.1==((q*2^k:Nat):Int)with
 | some x=>
  have i:=wk hf;have a:=wq hf;obtain⟨e,m⟩:=x;obtain⟨p,j,g,b⟩:=hK.1 e m a;have d:e=((q*2^k:Nat):Int):=by simpa using i
  rw[d]at g;have:q*2^k=j*2^k:=by exact_mod_cast g
  have:=yB (nM k) this;subst this;subst p;simp[b]
 | none=>
  rw[se]at hf;by_cases b:can S k q=true
  ·have:=hf _ (hK.2 q b);simp at this
  ·simp[b]
theorem BH.lk (h:BH σ p n S sb ms){k m q:Nat}(hm:ms[k]?=some m){x:Int}(hx:x=((q*2^k:Nat):Int)){K:Option Bool->Prop}
 (hK:K (if can S k q then some true else none)):Lk .i64 .b (some m) x σ K:=by
 obtain⟨B,a,d⟩:=h.maps k m hm;exact⟨B,a,by rw[hx,Wlm d a.nodup];exact hK⟩
theorem Jp {k:Nat}{B:List (Int×Bool)}(hK:Keys S k B)(hn:(B.map (·.1)).Nodup)(hb:Bounded S n):B.length=many n S k:=by
 have j:(B.map (·.1)).Perm (((List.range n).filter (can S k)).map λq=>((q*2^k:Nat):Int)):=by
  rw[vJ hn]
  ·intro x;simp only[zC,zF,zQ];constructor
   ·rintro⟨⟨x1,x2⟩,hm,rfl⟩;obtain⟨_,q,m,d⟩:=hK.1 x1 x2 hm;refine⟨q,⟨?_,d⟩,m.symm⟩;have:=ZS hb (ZM.1 d).1;have p:=nM k;have r:q<=q*2^k:=EX _ p;omega
   ·rintro⟨q,⟨_,d⟩,rfl⟩;exact⟨_,hK.2 q d,rfl⟩
  ·have e:((List.range n).filter (can S k)).Pairwise (· ≠ ·):=List.Pairwise.sublist vU Am;refine List.Pairwise.map _ (λa b (i:a≠b) g=>i ?_) e;have:a*2^k=b*2^k:=by exact_mod_cast g
   exact yB (nM k) this
 have:=j.length_eq;simp only[zX]at this;rw[this,many,Bp]
theorem BH.nX (h:BH σ p n S sb ms){k m:Nat}(hm:ms[k]?=some m){K:Int->Prop}(hK:K ((many n S k:Nat):Int)):rF .i64 .b (some m) σ K:=by
 obtain⟨B,a,d⟩:=h.maps k m hm;exact⟨B,a,by rw[Jp d a.nodup h.kU];exact hK⟩
theorem BH.tI (h:BH σ p n S sb ms){k m:Nat}{T:Nat->Bool}(hm:ms[k]?=some m)(ho:QJ σ h' m){B':List (Int×Bool)}(hB':dN h' m .i64 .b B')(hK':Keys T k B')
 (hoth:∀j q,j≠k->can T j q=can S j q) (hT:Bounded T n):BH h' p n T sb ms where
 hd:=by
  obtain⟨cap,r⟩:=h.hd;refine⟨cap,Ws ho r ?_⟩;have:=h.nd;simp only[zr,zR,not_or]at this;rintro rfl;exact this.1.2 (zE hm)
 row:=by
  obtain⟨rest,r⟩:=h.row;refine⟨rest,Ws ho r ?_⟩;have:=h.nd;simp only[zr,zR,not_or]at this;rintro rfl;exact this.2.1 (zE hm)
 maps:=λj A a=>by
  by_cases e:j=k
  ·subst e;rw[hm]at a;cases a;exact⟨B',hB',hK'⟩
  ·obtain⟨B,s,g⟩:=h.maps j A a;refine⟨B,HW ho s ?_,?_⟩
   ·rintro rfl;have d:=h.nd;simp only[zr]at d;exact e ((List.getElem?_inj (cQ.1 a).1 d.2.2).1 (a.trans hm.symm))
   ·refine⟨λx v y=>?_,λq w=>g.2 q (by rw[←hoth j q e];exact w)⟩;obtain⟨z,q,i,u⟩:=g.1 x v y;exact⟨z,q,i,by rw[hoth j q e];exact u⟩
 nd:=h.nd
 n1:=h.n1
 n2:=h.n2
 lo:=h.lo
 hi:=h.hi
 kU:=hT
theorem Wns (hb:Bounded S n)(k q:Nat):Bounded (del S k q) n:=λx a=>hb x (VT.1 a).1
theorem NF (hb:Bounded S n){k q:Nat}(hf:q*2^k+2^k<=n):Bounded (ins S k q) n:=λx a=>by
 rcases VU.1 a with h|h
 ·exact hb x h
 ·have:=Qc.1 h;omega
theorem Lq {a b:Bool}(h:a=true↔b=true):a=b:=by cases a<;>cases b<;>simp_all
theorem BH.wj (h:BH σ p n S sb ms){k m q:Nat}(hm:ms[k]?=some m)(hc:can S k q=true){x:Int}(hx:x=((q*2^k:Nat):Int)){K:aP}
 (hK:∀h',Ext (· ∈ ms) σ h'->BH h' p n (del S k q) sb ms->K h'):pD .i64 .b (some m) x σ K:=by
 obtain⟨B,z,u⟩:=h.maps k m hm;refine⟨B,z,λh' w _ i=>hK h' (Ext.eR (w m rfl) (zE hm)) ?_⟩;refine h.tI hm (w m rfl) i ⟨λy v g=>?_,λr C=>?_⟩ (λj r D=>Lq ?_) (Wns h.kU k q)
 ·simp only[cR,zF,pZ,qA]at g;obtain⟨A,r,d,s⟩:=u.1 y v g.1;refine⟨A,r,d,(Iy hc).2 ⟨s,λe=>g.2 ?_⟩⟩;rw[d,hx,e.2]
 ·have a:=(Iy hc).1 C;simp only[cR,zF,pZ,qA];refine⟨u.2 r a.1,λe=>a.2 ⟨rfl,?_⟩⟩;rw[hx]at e;have:r*2^k=q*2^k:=by exact_mod_cast e
  exact yB (nM k) this
 ·rw[Iy hc];exact⟨λh=>h.1,λh=>⟨h,λe=>D e.1⟩⟩
theorem BH.Bo (h:BH σ p n S sb ms){k m q:Nat}(hm:ms[k]?=some m)(hd:∀y,y/2^k=q->S y=false)(hup:¬full (ins S k q) (k+1) (q/2)=true)(hf:q*2^k+2^k<=n)
 {x:Int} (hx:x=((q*2^k:Nat):Int)) {K:aP} (hK:∀h',Ext (· ∈ ms) σ h'->BH h' p n (ins S k q) sb ms->K h'):nO .i64 .b (some m) x true σ K:=by
 obtain⟨B,C,w⟩:=h.maps k m hm;refine⟨m,B,rfl,C,λh' A z=>hK h' (Ext.eR A (zE hm)) ?_⟩;have i:∀y∈B,(y.1==x)=false:=by
  rintro⟨y,v⟩ d;obtain⟨_,r,a,g⟩:=w.1 y v d;simp only[qA];rintro rfl;rw[hx]at a;have:q*2^k=r*2^k:=by exact_mod_cast a
  have:=yB (nM k) this;subst this;have u:=Vh g (KV k q);rw[hd _ (KV k q)]at u;cases u
 have s:dG B x true=B++[(x,true)]:=by
  unfold dG;rw[zA];simp only[uR,p8];intro y d;simp[i y d]
 refine h.tI hm A z ?_ (λj r F=>Lq ?_) (NF h.kU hf)
 ·rw[s];refine⟨λy v d=>?_,λr E=>?_⟩
  ·simp only[zU,zZ,Prod.mk.injEq]at d;rcases d with d|⟨rfl,rfl⟩
   ·obtain⟨D,r,a,g⟩:=w.1 y v d;exact⟨D,r,a,(Dc hd hup).2 (.inl g)⟩
   ·exact⟨rfl,q,hx,(Dc hd hup).2 (.inr ⟨rfl,rfl⟩)⟩
  ·rcases(Dc hd hup).1 E with u|⟨_,rfl⟩
   ·exact qP _ (w.2 r u)
   ·rw[hx];exact sY _ aA
 ·rw[Dc hd hup];exact⟨λh=>h.elim id λe=>(F e.1).elim,.inl⟩
end Go.Bu
namespace Go.Vc
open Go
theorem Ul {b o:Nat}:∀{vs:List Value} {h:Hp} {cs:List Value} {i:Nat} {K:aP},bX h b cs->o+i+vs.length<=cs.length →
 (∀h',QJ h h' b->bX h' b (cs.take (o+i)++vs++cs.drop (o+i+vs.length))->K h')->uu ⟨b,o,none⟩ h vs i K
 | [],h,cs,i,K,hb,hl,hK=>hK h ⟨rfl,λ_ _=>rfl⟩ (by simpa using hb)
 | v::vs,h,cs,i,K,hb,hl,hK=>by
  simp only[zN]at hl;refine⟨?_,?_,?_⟩
  ·rw[add_lit,hb.cell,cM O];rfl
  ·rw[add_lit];exact hb.sG
  ·rw[add_lit];have hb':=hb.set (o:=o+i) v;refine Ul hb' aE λh' g a=>hK h' ?_ ?_
   ·exact⟨g.1.trans (Vz _ _ _),λc d=>(g.2 c d).trans (V4 d)⟩
   ·have e:(cs.set (o+i) v).take (o+(i+1))++vs++(cs.set (o+i) v).drop (o+(i+1)+vs.length)=cs.take (o+i)++v::vs++cs.drop (o+i+(v::vs).length):=by
     rw[List.drop_set_of_lt O,show o+(i+1)=(o+i)+1 by omega,zl,List.take_set_of_le O,zO O];simp only[wV,mE,List.singleton_append,oR,sU,zN]
     congr 4
     omega
    rw[e]at a;exact a
def Own (Q:Nat->Prop)(h:Hp)(s:Sl)(sz:Nat)(xs:List Value):Prop:=
 xs.length=s.len*sz/\(s.a=none/\s.len=0/\s.cap=0\/∃b cs,Q b/\s.a=some ⟨b,0,none⟩/\bX h b cs/\s.len<=s.cap/\cs.length=s.cap*sz/\cs.take xs.length=xs)
def Hu (s:Sl)(b:Nat):Prop:=∃o,s.a=some ⟨b,o,none⟩
theorem Own.nil (Q:Nat->Prop)(h:Hp)(sz:Nat):Own Q h ⟨none,0,0⟩ sz []:=⟨by simp,.inl ⟨rfl,rfl,rfl⟩⟩
theorem Own.bU {Q F:Nat->Prop}{h h':Hp}{s:Sl}{sz:Nat}{xs:List Value}(ho:Own Q h s sz xs)(e:Ext F h h')(hF:∀b,Q b->b<h.size->¬F b):Own Q h' s sz xs:=by
 refine⟨ho.1,ho.2.imp id ?_⟩;rintro⟨b,cs,hq,ha,hb,r⟩;exact⟨b,cs,hq,ha,e.bV hb (hF b hq hb.lt),r⟩
theorem Own.bK {Q:Nat->Prop}{h h':Hp}{s:Sl}{sz:Nat}{xs:List Value}(ho:Own Q h s sz xs)(e:bO h h'):Own Q h' s sz xs:=ho.bU e λ_ _ _ h=>h
theorem Own.mono {Q Q':Nat->Prop}{h:Hp}{s:Sl}{sz:Nat}{xs:List Value}(ho:Own Q h s sz xs)(hq:∀b,b<h.size->Q b->Q' b):Own Q' h s sz xs:=by
 refine⟨ho.1,ho.2.imp id ?_⟩;rintro⟨b,cs,hQ,ha,hb,r⟩;exact⟨b,cs,hq b hb.lt hQ,ha,hb,r⟩
theorem Own.kY {Q:Nat->Prop}{h:Hp}{s:Sl}{sz:Nat}{xs:List Value}(ho:Own Q h s sz xs){b:Nat}(hb:Hu s b):Q b/\b<h.size:=by
 obtain⟨o,a⟩:=hb;rcases ho.2 with⟨ha,_⟩|⟨b',cs,hq,ha,hk,_⟩
 ·rw[ha]at a;cases a
 ·rw[ha]at a;cases a;exact⟨hq,hk.lt⟩
theorem Own.rd {Q:Nat->Prop}{h:Hp}{s:Sl}{sz:Nat}{xs:List Value}(ho:Own Q h s sz xs):Rd h s.a xs:=by
 rcases ho.2 with⟨ha,hl,_⟩|⟨b,cs,_,ha,hb,_,_,ht⟩
 ·rw[ha];have:=ho.1;rw[hl]at this;simp at this;exact this
 ·rw[ha];intro j v hv;rw[add_lit,hb.cell,zI];rw[←ht,zb]at hv;split at hv
  ·exact hv
  ·cases hv
theorem Own.cell {Q:Nat->Prop}{h:Hp}{s:Sl}{sz:Nat}{xs:List Value}(ho:Own Q h s sz xs){j:Nat}{v:Value}(hv:xs[j]?=some v):∃b,s.a=some ⟨b,0,none⟩/\Vc.cell h ⟨b,j,none⟩=some v:=by
 rcases ho.2 with⟨ha,hl,_⟩|⟨b,cs,_,ha,hb,_,_,ht⟩
 ·have:=ho.1;rw[hl]at this;simp at this;subst this;simp at hv
 ·refine⟨b,ha,?_⟩;rw[hb.cell];rw[←ht,zb]at hv;split at hv
  ·exact hv
  ·cases hv
theorem Own.app {Q:Nat->Prop}{h:Hp}{s x:Sl}{sz bytes e:Nat}{zs xs ys:List Value}{K:Sl->Hp->Prop}(ho:Own Q h s sz xs)(hq:∀b,h.size<=b->Q b)(hz:zs.length=sz)
 (hy:ys.length=x.len*sz) (hr:Rd h x.a ys) (h1:∀v∈ys,dP v=true) (hb:(s.len+x.len)*bytes<=2^46) (hc:s.len+x.len<=2^62)
 (hx:0<x.len) (hK:∀s' h',s'.len=s.len+x.len->Ext (Hu s) h h'->Own Q h' s' sz (xs++ys)->s'.a≠none->K s' h'):App s sz bytes e zs x h K:=by
 refine⟨xs,ys,ho.1,hy,ho.rd,hr,h1,hb,hc,λg=>?_,λp c j=>?_⟩
 ·rcases ho.2 with⟨ha,hl,hcap⟩|⟨b,cs,hQ,ha,hk,hle,hcl,ht⟩
  ·omega
  ·rw[ha];simp only;rw[add_lit];have r:(s.len+x.len)*sz<=s.cap*sz:=pf _ g;rw[zc]at r;have d:=ho.1;refine Ul hk O λh' m i=>hK _ h' rfl (Ext.eR m ⟨0,ha⟩) ⟨?_,.inr ⟨b,_,hQ,rfl,i,g,?_,?_⟩⟩ aA
   ·simp[d,hy,zc]
   ·simp;omega
   ·rw[zK,d];rw[zI,zt,←d];rw[ht,tT aA,qx aA]
 ·refine hK _ _ rfl (Ext.push _ _ _) ⟨by simp[ho.1,hy,zc],.inr ⟨h.size,xs++ys++(List.replicate (c-(s.len+x.len)) zs).flatten,hq _ (zD _),rfl,⟨e,by simp⟩,j,?_,?_⟩⟩ aA
  ·simp only[zK,ye,wX,yp,ho.1,hy,hz,←zc]
   congr 1;omega
  ·rw[tT aA,qx aA]
theorem O9 {h:Hp}{v:Value}{e:Nat}:Rd (h.push (.cells #[v] e (0,0))) (some ⟨h.size,0,none⟩) [v]:=by
 intro j u hu;rw[add_lit];cases j with
 | zero=>simp at hu;subst hu;simp[Vc.cell]
 | succ j=>simp at hu
theorem bX.Rk {h:Hp}{b o:Nat}{cs:List Value}(hb:bX h b cs){v:Value}(ho:o<cs.length){K:aP}(hK:∀h',QJ h h' b->bX h' b (cs.set o v)->K h'):cY (Addr.add ⟨b,0,none⟩ o) v h K:=by
 rw[add_lit,zI];refine⟨?_,hb.sG,hK _ ⟨Vz _ _ _,λc a=>V4 a⟩ (hb.set v)⟩;rw[hb.cell,cM ho];rfl
theorem bX.push (h:Hp)(cs:List Value)(e:Nat):bX (h.push (.cells cs.toArray e (0,0))) h.size cs:=⟨e,by simp⟩
theorem dN.push (h:Hp)(k:IntKind)(c:CK):dN (h.push (.map #[] 0)) h.size k c []:=⟨#[],0,by simp,by simp,by simp,by simp,by simp⟩
theorem Ext.only {F:Nat->Prop}{a b c:Hp}{r:Nat}(e:Ext F a b)(ho:QJ b c r)(hr:F r\/a.size<=r):Ext F a c:=
 ⟨by rw[ho.1];exact e.1,λi g d=>by
  rw[ho.2 i ?_];exact e.2 i g d;rintro rfl;rcases hr with h|h
  ·exact d h
  ·omega⟩
theorem Ext.fresh {a b c:Hp}{F:Nat->Prop}(e:bO a b)(k:Ext F b c)(hF:∀i,F i->a.size<=i):bO a c:=
 ⟨zJ e.1 k.1,λi d _=>(k.2 i (yR d e.1) λg=>by have:=hF i g;omega).trans (e.2 i d id)⟩
theorem Own.st {Q:Nat->Prop}{h:Hp}{s:Sl}{sz:Nat}{xs:List Value}(ho:Own Q h s sz xs){j:Nat}(hj:j<xs.length){v:Value}{K:aP}{a:Addr}(ha:∀b,s.a=some ⟨b,0,none⟩->a=⟨b,j,none⟩)
 (hK:∀h',Ext (Hu s) h h'->Own Q h' s sz (xs.set j v)->K h'):cY a v h K:=by
 rcases ho.2 with⟨h1,hl,_⟩|⟨b,cs,hq,hsa,hb,hle,hcl,ht⟩
 ·have:=ho.1;rw[hl]at this;simp at this;subst this;simp at hj
 ·rw[ha b hsa];have d:j<cs.length:=by
   have:(cs.take xs.length).length=xs.length:=by rw[ht]
   rw[zP]at this;omega
  refine⟨by rw[hb.cell,cM d];rfl,hb.sG,hK _ (Ext.nA (F:=Hu s) ⟨0,hsa⟩) ⟨by simp[ho.1],.inr ⟨b,_,hq,hsa,hb.set v,hle,by simp[hcl],?_⟩⟩⟩;rw[sx,List.take_set,ht]
end Go.Vc