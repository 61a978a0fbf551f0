/- Texts joined. -/
import Init
import Derived.WalkKit
import Derived.WalkLawsBesides
import Derived.WalkSpells
import Derived.ChangeKeysEq
import Derived.StillTail
import Derived.OrdersHeld
import Derived.Scope
set_option linter.unusedVariables false
set_option linter.unusedSimpArgs false
abbrev zA:=@if_neg
abbrev zB:=@if_pos
abbrev zC:=@Nat.le_refl
abbrev zD:=@List.mem_map
abbrev zE:=@List.mem_of_getElem?
abbrev zF:=@Bool.and_eq_true
abbrev zG:=@Nat.zero_add
abbrev zH:=@List.mem_filter
abbrev zI:=@decide_eq_true
abbrev zJ:=@decide_eq_false
abbrev zK:=@List.getElem?_set_self
abbrev zL:=@List.length_take
abbrev zM:=@List.getD_eq_getElem?_getD
abbrev zN:=@List.getElem?_of_mem
abbrev zO:=@List.getElem?_eq_none
abbrev zP:=@Nat.le_trans
abbrev zQ:=@List.getElem?_append_left
abbrev zR:=@List.length_append
abbrev zS:=@List.mem_append
abbrev zT:=@if_true
abbrev zU:=@decide_eq_true_eq
abbrev zV:=@List.length_cons
abbrev zW:=@List.mem_cons
abbrev zX:=@List.map_cons
abbrev zY:=@List.getElem?_take
abbrev zZ:=@List.mem_singleton
abbrev za:=@beq_iff_eq
abbrev zb:=@List.getElem_mem
abbrev zc:=@Bool.false_eq_true
abbrev zd:=@List.getElem?_set_ne
abbrev ze:=@List.mem_range
abbrev zf:=@Int.eq_ofNat_of_zero_le
abbrev zg:=@List.getElem?_append_right
abbrev zh:=@Option.map_some
abbrev zi:=@List.length_map
abbrev zj:=@List.take_add_one
abbrev zk:=@List.getElem?_map
abbrev zl:=@Nat.add_mul
abbrev zm:=@List.append_assoc
abbrev zn:=@List.getElem?_drop
abbrev zo:=@List.nodup_cons
abbrev zp:=@List.ext_getElem?
abbrev zq:=@Nat.lt_or_ge
abbrev zr:=@List.pairwise_iff_getElem
abbrev zt:=@List.length_drop
abbrev zw:=@Nat.add_zero
abbrev zy:=@List.take_length
abbrev j4:=@if_false
abbrev j7:=@List.append_nil
abbrev kI:=@List.range_succ
abbrev kK:=@List.all_eq_true
abbrev kM:=@List.any_eq_true
abbrev k7:=@Nat.mul_le_mul_right
abbrev k5:=@List.map_congr_left
abbrev kR:=@beq_eq_false_iff_ne
abbrev lj:=@Nat.two_pow_pos
abbrev lp:=@List.foldl_cons
abbrev lr:=@List.map_append
abbrev lb:=@List.foldl_append
abbrev lJ:=@Nat.eq_of_beq_eq_true
abbrev lT:=@List.cons_append
abbrev lS:=@List.length_nil
abbrev lY:=@Array.getElem?_eq_some_iff
abbrev l0:=@List.take_of_length_le
abbrev lV:=@Nat.mul_le_mul
abbrev l7:=@List.mem_append_left
abbrev mu:=@Nat.zero_lt_one
abbrev mD:=@List.getElem?_replicate
abbrev mE:=@List.any_eq_false
abbrev mC:=@List.map_map
abbrev mM:=@List.mem_cons_of_mem
abbrev mN:=@List.sum_cons
abbrev mI:=@Nat.sub_self
abbrev mV:=@Nat.pow_succ
abbrev mS:=@Bool.not_eq_true'
abbrev mZ:=@List.take_append_drop
abbrev mQ:=@Bool.or_eq_true
abbrev mU:=@List.flatMap_cons
abbrev mY:=@List.mem_cons_self
abbrev nP:=@Bool.eq_iff_iff
abbrev nB:=@List.pairwise_cons
abbrev ny:=@List.length_filter_le
abbrev nQ:=@Bool.eq_false_iff
abbrev nZ:=@List.length_set
abbrev oh:=@List.getElem?_set
abbrev nY:=@Nat.mul_one
abbrev n0:=@List.nodup_append
abbrev nW:=@List.getElem?_range
abbrev oJ:=@List.set_set
abbrev oT:=@Nat.le_of_lt
abbrev pa:=@Nat.lt_trichotomy
abbrev pd:=@List.findIdx?_eq_some_iff_getElem
abbrev oZ:=@Option.getD_some
abbrev qh:=@Option.isSome_iff_exists
abbrev pC:=@List.pairwise_append
abbrev px:=@List.mem_append_right
abbrev po:=@Nat.pow_le_pow_right
abbrev pY:=@Bool.not_eq_true
abbrev qb:=@List.take_append_of_le_length
abbrev qA:=@Option.map_eq_some_iff
abbrev qF:=@List.filter_eq_self
abbrev qp:=@List.mem_of_mem_take
abbrev qw:=@List.find?_eq_none
abbrev qv:=@List.nil_append
abbrev qG:=@List.drop_eq_getElem_cons
abbrev qu:=@Nat.add_assoc
abbrev qo:=@List.length_pos_iff
abbrev qJ:=@List.pairwise_map
abbrev qU:=@List.getElem_map
abbrev ra:=@Bool.false_or
abbrev qW:=@List.mem_of_mem_drop
abbrev rE:=@Nat.min_eq_left
abbrev rO:=@Bool.false_and
abbrev rm:=@List.length_range
abbrev rj:=@of_decide_eq_true
abbrev sx:=@List.map_nil
abbrev sK:=@List.filter_cons
abbrev rR:=@List.filter_sublist
abbrev se:=@Array.getD_eq_getD_getElem?
abbrev sN:=@List.contains_eq_mem
abbrev sL:=@Bool.and_false
abbrev sy:=@List.find?_some
abbrev sg:=@List.mem_of_find?_eq_some
abbrev sd:=@List.set_cons_succ
abbrev sF:=@Bool.true_and
abbrev rZ:=@List.take_succ_cons
abbrev r6:=@List.mem_flatMap
abbrev tJ:=@Nat.div_div_eq_div_mul
abbrev tB:=@List.getElem?_modify
abbrev tf:=@List.contains_iff_mem
abbrev ub:=@Bool.and_true
abbrev tA:=@List.map_set
abbrev tV:=@List.nodup_nil
abbrev uj:=@true_and
abbrev uX:=@Nat.mod_lt
abbrev uP:=@List.find?_cons
abbrev uR:=@List.all_cons
abbrev uD:=@List.findIdx?_eq_none_iff
abbrev uE:=@Nat.mod_eq_of_lt
abbrev uB:=@Nat.mul_eq_zero
abbrev u6:=@Nat.zero_mul
abbrev uL:=@List.getElem_of_mem
abbrev uG:=@Nat.lt_of_lt_of_le
abbrev uW:=@Nat.eq_zero_or_pos
abbrev uU:=@List.map_replicate
abbrev uF:=@Bool.decide_and
abbrev u9:=@List.count_append
abbrev uV:=@Option.map_eq_none_iff
abbrev uz:=@List.getElem?_cons_zero
abbrev wK:=@Int.le_refl
abbrev vC:=@List.map_eq_nil_iff
abbrev wN:=@List.findIdx?_cons
abbrev wE:=@List.map_id
abbrev wV:=@List.flatten_cons
abbrev xD:=@Nat.mul_assoc
abbrev vG:=@Nat.ne_of_lt
abbrev wP:=@Array.length_toList
abbrev wL:=@List.filter_congr
abbrev xw:=@List.filterMap_append
abbrev vj:=@List.mem_filterMap
abbrev wJ:=@Nat.eq_of_mul_eq_mul_right
abbrev xm:=@Option.toList_some
abbrev wg:=@List.length_flatten
abbrev wG:=@List.sum_replicate_nat
abbrev vL:=@List.set_append_right
abbrev vw:=@List.replicate_succ
abbrev wW:=@Bool.or_false
abbrev wy:=@List.takeWhile_cons
abbrev vR:=@List.countP_cons
abbrev wH:=@List.mem_or_eq_of_mem_set
abbrev wC:=@List.take_zero
abbrev wS:=@List.length_singleton
abbrev wO:=@Nat.lt_or_gt_of_ne
abbrev xB:=@List.count_eq_zero
abbrev yf:=@Nat.div_mul_le_self
abbrev yi:=@Array.getElem?_toList
abbrev xY:=@Array.getElem?_setIfInBounds_ne
abbrev Af:=@List.mem_map_of_mem
abbrev yN:=@List.mem_replicate
abbrev yF:=@Array.getElem?_push
abbrev Ab:=@Bool.not_false
abbrev yK:=@Array.getElem?_modify
abbrev xP:=@List.perm_ext_iff_of_nodup
abbrev Ai:=@List.countP_eq_length_filter
abbrev yh:=@List.count_le_length
abbrev xW:=@List.drop_zero
abbrev y5:=@List.filter_append
abbrev xM:=@List.count_replicate
abbrev y7:=@List.take_take
abbrev yn:=@List.take_sublist
abbrev yJ:=@List.any_cons
abbrev xI:=@List.take_left'
abbrev yg:=@List.drop_succ_cons
abbrev yL:=@List.flatMap_append
abbrev ya:=@List.dropLast_eq_take
abbrev Ae:=@Bool.or_eq_false_iff
abbrev xO:=@List.drop_eq_nil_of_le
abbrev xX:=@List.length_eq_zero_iff
abbrev yX:=@List.filter_cons_of_neg
abbrev xQ:=@List.filter_cons_of_pos
abbrev xS:=@List.sum_append
abbrev yj:=@List.not_mem_nil
abbrev xF:=@List.size_toArray
abbrev yV:=@of_decide_eq_false
abbrev AP:=@Nat.mul_div_cancel
abbrev DL:=@Array.mem_of_getElem?
abbrev C3:=@Array.toList_modify
abbrev DD:=@Array.toList_eraseIdxIfInBounds
abbrev Ds:=@List.replicate_succ'
abbrev Cb:=@List.filter_filter
abbrev AO:=@List.filterMap_cons
abbrev DG:=@Array.getElem?_append_left
abbrev BM:=@List.length_dropLast
abbrev Ca:=@List.getElem?_cons_succ
abbrev BA:=@List.eq_nil_of_length_eq_zero
abbrev Bq:=@Nat.add_sub_cancel_left
abbrev Cr:=@List.dropWhile_cons
abbrev AU:=@List.drop_sublist
abbrev Df:=@List.pairwise_singleton
abbrev Az:=@List.find?_isSome
abbrev Cs:=@List.range_succ_eq_map
abbrev Dk:=@Option.isSome_some
abbrev Bx:=@List.eq_of_mem_replicate
abbrev Au:=@List.takeWhile_append_dropWhile
abbrev BW:=@List.takeWhile_cons_of_neg
abbrev Dc:=@List.getElem?_zipWith
abbrev BR:=@List.findIdx?_eq_some_iff_findIdx_eq
abbrev AF:=@List.nodup_iff_count
abbrev BX:=@List.count_pos_iff
abbrev B6:=@List.count_singleton_self
theorem cV {α:Type _}{l:List α}{i:Nat}{a:α}:l[i]?=some a↔∃h:i<l.length,l[i]=a:=List.getElem?_eq_some_iff
theorem cQ {α:Type _}{l:List α}{i:Nat}(h:i<l.length):l[i]?=some l[i]:=List.getElem?_eq_getElem h
theorem dE (n:Nat):(n:Int).toNat=n:=Int.toNat_natCast n
theorem O{p:Prop}(h:p:=by omega):p:=h
theorem aA{p:Prop}(h:p:=by simp):p:=h
theorem aB{p:Prop}(h:p:=by decide):p:=h
theorem aC{p:Prop}(h:p:=by simp only;omega):p:=h
theorem aD{p:Prop}(h:p:=by first|omega | (simp only;omega)):p:=h
theorem aE{p:Prop}(h:p:=by simp;omega):p:=h
abbrev aW(b:Nat):Option Go.Addr:=some ⟨b,0,none⟩
namespace Go.Ar
structure cD where
 size:Nat
 bK:Nat
 batch:Nat
 deriving DecidableEq
def cD.n (c:cD):Nat:=c.bK*256/c.size
def U3 (x y z:Int):Bool:=decide (8<=x)&&(decide (x<=512)&&(decide (x%8=0)&&(decide (1<=y)&&(decide (y<=4)&&(decide (x<=y*256)&&(decide (1<=z)&&decide (z<=32)))))))
def cD.ok (c:cD):Prop:=8<=c.size/\c.size<=512/\c.size%8=0/\1<=c.bK/\c.bK<=4/\c.size<=c.bK*256/\1<=c.batch/\c.batch<=32
theorem UQ (x y z:Int):U3 x y z=true↔8<=x/\x<=512/\x%8=0/\1<=y/\y<=4/\x<=y*256/\1<=z/\z<=32:=by simp[U3]
theorem EL (c:cD):U3 c.size c.bK c.batch=true↔c.ok:=by
 rw[UQ];unfold cD.ok;omega
def Qx (t:Int×Int×Int):cD:=⟨t.1.toNat,t.2.1.toNat,t.2.2.toNat⟩
theorem yr {x y z:Int}(h:U3 x y z=true):∃c:cD,c.ok/\Qx (x,y,z)=c/\x=c.size/\y=c.bK/\z=c.batch:=by
 rw[UQ]at h;refine⟨Qx (x,y,z),?_,rfl,?_,?_,?_⟩<;>simp only[Qx,cD.ok]<;>omega
def vd:List (Int×Int×Int)->Bool
 | x::y::l=>decide (x.1<y.1)&&vd (y::l)
 | _=>true
def QM (xs:List (Int×Int×Int)):Bool:=decide (1<=xs.length)&&(decide (xs.length<=40)&&(xs.all (λt=>U3 t.1 t.2.1 t.2.2)&&vd xs))
theorem cD.ok.pq {c:cD}(h:c.ok):1<=c.n:=by
 unfold cD.ok at h;exact(Nat.one_le_div_iff O).2 h.2.2.2.2.2.1
theorem cD.ok.kA {c:cD}(h:c.ok):c.n<=128:=by
 unfold cD.ok at h;unfold cD.n;have:c.bK*256/c.size<=1024/8:=Nat.div_le_div O O O;omega
theorem cD.xC (c:cD):c.n*c.size<=c.bK*256:=yf _ _
structure cM where
 st:Nat
 tk:List Bool
 deriving DecidableEq
def cM.many (s:cM):Nat:=s.tk.count true
def idx (c:cD)(s:cM)(x:Int):Option Nat:=if x<((s.st*256:Nat):Int)\/((s.st*256+s.tk.length*c.size:Nat):Int)<=x then none else some ((x-((s.st*256:Nat):Int)).toNat/c.size)
def at_ (c:cD)(s:cM)(i:Nat):Nat:=s.st*256+i*c.size
def obj (c:cD)(s:cM)(x:Int):Option Nat:=match idx c s x with
 | some i=>if x=((at_ c s i:Nat):Int)then some i else none
 | none=>none
theorem UG {c:cD}{s:cM}{x:Int}{i:Nat}(hc:0<c.size):idx c s x=some i↔((at_ c s i:Nat):Int)<=x/\x<((at_ c s (i+1):Nat):Int)/\i<s.tk.length:=by
 unfold idx at_;constructor
 ·intro h;split at h
  ·cases h
  ·rename_i hn;cases h;obtain⟨y,rfl⟩:=zf (show 0<=x by omega);have e:((y:Int)-((s.st*256:Nat):Int)).toNat=y-s.st*256:=by omega
   rw[e];have g:(y-s.st*256)/c.size*c.size<=y-s.st*256:=yf _ _;have d:=Nat.lt_div_mul_add (a:=y-s.st*256) hc;have b:(y-s.st*256)/c.size<s.tk.length:=(Nat.div_lt_iff_lt_mul hc).2 O;rw[zl];omega
 ·rintro⟨g,d,b⟩;obtain⟨y,rfl⟩:=zf (show 0<=x by omega);have j:(i+1)*c.size<=s.tk.length*c.size:=k7 _ b;rw[zA O];have e:((y:Int)-((s.st*256:Nat):Int)).toNat=y-s.st*256:=by omega
  rw[e]
  congr 1
  rw[zl]at d;refine Nat.div_eq_of_lt_le ?_ ?_
  ·omega
  ·rw[zl];omega
theorem Hm {c:cD}{s:cM}{x:Int}{i:Nat}(hc:0<c.size):obj c s x=some i↔x=((at_ c s i:Nat):Int)/\i<s.tk.length:=by
 unfold obj;constructor
 ·intro h;split at h
  ·rename_i j hj;split at h
   ·cases h;rename_i he;exact⟨he,((UG hc).1 hj).2.2⟩
   ·cases h
  ·cases h
 ·rintro⟨rfl,hi⟩;have:idx c s ((at_ c s i:Nat):Int)=some i:=(UG hc).2 ⟨wK _,by unfold at_;rw[zl];omega,hi⟩;rw[this];simp
def low (s:cM):Option Nat:=s.tk.findIdx? (· == false)
def cM.put (s:cM)(i:Nat)(v:Bool):cM:={s with tk:=s.tk.set i v}
def lh (c:cD)(ss:List cM)(x:Int):Option Nat:=ss.findIdx? λs=>(idx c s x).isSome
def eD (c:cD)(ss:List cM)(x:Int):Option Bool:=match lh c ss x with
 | some k=>match ss[k]? with
  | some s=>(obj c s x).map λi=>s.tk.getD i false
  | none=>none
 | none=>none
def xd (x y:cM):Bool:=decide (x.many>y.many)||(x.many==y.many&&decide (x.st<y.st))
def Zy (ss:List cM):Nat->Option Nat
 | 0=>none
 | k+1=>match ss[k]? with
  | some x=>if x.many<x.tk.length then(match Zy ss k with
   | some j=>match ss[j]? with
    | some y=>if xd x y then some k else some j
    | none=>some k
   | none=>some k)else Zy ss k
  | none=>Zy ss k
def mT (ss:List cM):Option Nat:=Zy ss ss.length
def jr (c:cD)(ss:List cM):Option (Nat×List cM):=match mT ss with
 | some k=>match ss[k]? with
  | some s=>match low s with
   | some i=>some (at_ c s i,ss.set k (s.put i true))
   | none=>none
  | none=>none
 | none=>none
def KF (c:cD):Nat->List cM->List Nat×List cM
 | 0,ss=>([],ss)
 | m+1,ss=>match jr c ss with
  | some (x,ss')=>let r:=KF c m ss';(x::r.1,r.2)
  | none=>([],ss)
def iU (c:cD)(ss:List cM)(xs:List Int):Int:=
 if xs.any (λx=>(eD c ss x).isNone)then 8 else if xs.any (λx=>eD c ss x==some false) || !decide xs.Nodup then 9 else 0
def fL (c:cD)(ss:List cM)(x:Int):List cM:=match lh c ss x with
 | some k=>match ss[k]? with
  | some s=>match obj c s x with
   | some i=>ss.set k (s.put i false)
   | none=>ss
  | none=>ss
 | none=>ss
def cO (ss:List cM):List cM:=ss.filter λs=>s.many != 0
def Qp (ss:List cM):List Nat:=(ss.filter λs=>s.many==0).map (·.st)
def rk (c:cD)(ss:List cM)(x:Int):Option Nat:=match lh c ss x with
 | some k=>match ss[k]? with
  | some s=>(idx c s x).map (at_ c s)
  | none=>none
 | none=>none
def iD (c:cD)(ss:List cM)(st:Nat):List cM:=ss.takeWhile (λs=>s.st<st)++⟨st,List.replicate c.n false⟩::ss.dropWhile (λs=>s.st<st)
def oY (c:cD)(ss:List cM)(x:Nat):Int:=if ss.any (λs=>max s.st x-min s.st x<c.bK)then 9 else 0
def pR (ss:List cM):Nat:=(ss.map λs=>s.tk.length-s.many).sum
structure gg where
 low:Nat
 bs:List (List Int)
 deriving DecidableEq
def fY {α:Type}(l:List α)(a b:Nat)(v:α):List α:=l.mapIdx λi x=>if a<=i/\i<b then v else x
theorem QH {α:Type}(l:List α)(a b:Nat)(v:α):(fY l a b v).length=l.length:=by simp[fY]
theorem H6 {α:Type}(l:List α)(a b:Nat)(v:α)(i:Nat):(fY l a b v)[i]?=(l[i]?).map λx=>if a<=i/\i<b then v else x:=by
 simp[fY,List.getElem?_mapIdx]
theorem Mx {α:Type}{l:List α}{a b:Nat}{v:α}(h1:a<=b)(h2:b<=l.length):fY l a b v=l.take a++List.replicate (b-a) v++l.drop b:=by
 apply zp;intro i;rw[H6];rcases zq i a with h|h
 ·rw[zm,zQ aE,zY,zB h];have:l[i]?=some l[i]:=cQ O;rw[this];simp;omega
 rcases zq i b with h'|h'
 ·rw[zm,zg aE,zQ aE];have:l[i]?=some l[i]:=cQ O;rw[this];simp[mD,h,h'];omega
 ·rw[zg aE];have e:i-(l.take a++List.replicate (b-a) v).length=i-b:=by simp;omega
  rw[e,zn,show b+(i-b)=i by omega];cases l[i]?<;>simp;omega
def gB (l:List Nat)(a b v:Nat):Nat:=((l.drop a).take (b-a)).count v
end Go.Ar
namespace Go.Bu
def full (S:Nat->Bool)(k q:Nat):Bool:=(List.range (2^k)).all λi=>S (q*2^k+i)
def can (S:Nat->Bool)(k q:Nat):Bool:=full S k q && !full S (k+1) (q/2)
theorem DM {k q i:Nat}(hi:i<2^k):(q*2^k+i)/2^k=q:=by
 rw[Nat.add_comm,Nat.add_mul_div_right _ _ (lj k),Nat.div_eq_of_lt hi,zG]
theorem Lp {k q p:Nat}(h:p/2^k=q):p=q*2^k+p%2^k:=by
 rw[←h,Nat.mul_comm];exact(Nat.div_add_mod p (2^k)).symm
theorem Qv {k q p:Nat}:p/2^k=q↔q*2^k<=p/\p<q*2^k+2^k:=by
 have a:=lj k;constructor
 ·intro h;have:=Lp h;have b:=uX p a;omega
 ·rintro⟨h1,h2⟩;have:p=q*2^k+(p-q*2^k):=by omega
  rw[this];exact DM O
theorem YT {S:Nat->Bool}{k q:Nat}:full S k q=true↔∀p,p/2^k=q->S p=true:=by
 simp only[full,kK,ze];constructor
 ·intro h p hp;have:=h (p%2^k) (uX _ (lj k))
  rwa [←Lp hp]at this
 ·intro h i hi;exact h _ (DM hi)
theorem ZW {S:Nat->Bool}{k q:Nat}:can S k q=true↔full S k q=true/\¬full S (k+1) (q/2)=true:=by
 simp[can]
theorem uc {p k j:Nat}(h:k<=j):p/2^j=p/2^k/2^(j-k):=by
 rw[tJ,←Nat.pow_add]
 congr 2;omega
theorem DU {S:Nat->Bool}{k j q:Nat}(h:k<=j)(hf:full S j (q/2^(j-k))=true):full S k q=true:=by
 rw[YT]at hf ⊢;intro p hp;exact hf p (by rw[uc h,hp])
theorem Ep {q k j:Nat}(h:k<j):q/2/2^(j-(k+1))=q/2^(j-k):=by
 rw[tJ]
 congr 1
 rw[←Nat.pow_succ']
 congr 1;omega
theorem Kh {S:Nat->Bool}{k j q r p:Nat}(hk:can S k q=true)(hj:full S j r=true)(hp:p/2^k=q)(hr:p/2^j=r)(h:k<j):False:=by
 rw[ZW]at hk;refine hk.2 (DU (j:=j) O ?_);rw[Ep h,←hp,←uc (oT h),hr];exact hj
theorem F9 {S:Nat->Bool}{k j q r p:Nat}(hk:can S k q=true)(hj:can S j r=true)(hp:p/2^k=q)(hr:p/2^j=r):k=j/\q=r:=by
 rcases pa k j with h|h|h
 ·exact(Kh hk (ZW.1 hj).1 hp hr h).elim
 ·subst h;exact⟨rfl,hp.symm.trans hr⟩
 ·exact(Kh hj (ZW.1 hk).1 hr hp h).elim
def Bounded (S:Nat->Bool)(n:Nat):Prop:=∀p,S p=true->p<n
theorem Z5 {S:Nat->Bool}{n k q:Nat}(hb:Bounded S n)(h:full S k q=true):q*2^k+2^k<=n:=by
 rw[YT]at h;have a:=lj k;have:=hb _ (h (q*2^k+(2^k-1)) (DM O));omega
theorem NI {S:Nat->Bool}{p:Nat}:full S 0 p=S p:=by simp[full]
theorem Hb {S:Nat->Bool}{n p:Nat}(hb:Bounded S n)(hp:S p=true):∃k,can S k (p/2^k)=true:=by
 apply Classical.byContradiction;intro hno;have all:∀k,full S k (p/2^k)=true:=by
  intro k
  induction k with
  | zero=>simpa[NI]using hp
  | succ k ih=>
   apply Classical.byContradiction;intro hn;refine hno ⟨k,ZW.2 ⟨ih,?_⟩⟩;rw[tJ,←mV];exact hn
 have:=Z5 hb (all n);have:=@Nat.lt_two_pow_self n;omega
theorem Uw {S:Nat->Bool}{k q p:Nat}(h:can S k q=true)(hp:p/2^k=q):S p=true:=YT.1 (ZW.1 h).1 p hp
def del (S:Nat->Bool)(k q:Nat):Nat->Bool:=λp=>S p && !(p/2^k==q)
def ins (S:Nat->Bool)(k q:Nat):Nat->Bool:=λp=>S p||p/2^k==q
theorem Ua {S:Nat->Bool}{k q p:Nat}:del S k q p=true↔S p=true/\p/2^k≠q:=by simp[del]
theorem Ue {S:Nat->Bool}{k q p:Nat}:ins S k q p=true↔S p=true\/p/2^k=q:=by simp[ins]
theorem Vn (k q:Nat):(q*2^k)/2^k=q:=AP _ (lj k)
theorem Dv {S:Nat->Bool}{k q j r:Nat}(hc:can S k q=true):can (del S k q) j r=true↔can S j r=true/\¬(j=k/\r=q):=by
 constructor
 ·intro h;obtain⟨g,m⟩:=ZW.1 h;rw[YT]at g;have s:full S j r=true:=YT.2 λp hp=>(Ua.1 (g p hp)).1;refine⟨ZW.2 ⟨s,λd=>m (YT.2 λp hp=>?_)⟩,?_⟩
  ·refine Ua.2 ⟨YT.1 d p hp,λb=>?_⟩;rcases zq k (j+1)with i|i
   ·exact Kh hc d b hp i
   ·-- the greater ZB lies in the block
    have a:=Vn j r;have u:=(Ua.1 (g _ a)).2;apply u;rw[uc (show j+1<=k by omega)];have e:r*2^j/2^(j+1)=r/2:=by
     rw[mV,←tJ,a]
    rw[e,←hp,←uc (show j+1<=k by omega),b]
  ·rintro⟨rfl,rfl⟩;exact(Ua.1 (g _ (Vn _ _))).2 (Vn _ _)
 ·rintro⟨h,hne⟩;obtain⟨g,m⟩:=ZW.1 h;refine ZW.2 ⟨YT.2 λp hp=>Ua.2 ⟨YT.1 g p hp,λb=>hne ?_⟩,λd=>m (YT.2 λp hp=>(Ua.1 (YT.1 d p hp)).1)⟩;obtain⟨i,w⟩:=F9 h hc hp b;exact⟨i,w⟩
theorem ye {S:Nat->Bool}{k q j r:Nat}(hd:∀p,p/2^k=q->S p=false)(hup:¬full (ins S k q) (k+1) (q/2)=true) :
 can (ins S k q) j r=true↔can S j r=true\/(j=k/\r=q):=by
 have d:can (ins S k q) k q=true:=ZW.2 ⟨YT.2 λp hp=>Ue.2 (.inr hp),hup⟩;constructor
 ·intro h;by_cases he:j=k/\r=q
  ·exact .inr he
  left;obtain⟨g,i⟩:=ZW.1 h;refine ZW.2 ⟨YT.2 λp hp=>?_,λb=>i (YT.2 λp hp=>Ue.2 (.inl (YT.1 b p hp)))⟩;rcases Ue.1 (YT.1 g p hp)with h1|h1
  ·exact h1
  ·exact(he (F9 h d hp h1)).elim
 ·rintro(h|⟨rfl,rfl⟩)
  ·obtain⟨g,i⟩:=ZW.1 h;refine ZW.2 ⟨YT.2 λp hp=>Ue.2 (.inl (YT.1 g p hp)),λb=>i (YT.2 λp hp=>?_)⟩;rcases Ue.1 (YT.1 b p hp)with h1|h1
   ·exact h1
   ·rcases zq k (j+1)with h2|h2
    ·refine(hup (DU (j:=j+1) O ?_)).elim;have e:q/2^(j+1-k)=r/2:=by rw[←h1,←uc (show k<=j+1 by omega),hp]
     rw[Ep h2,e];exact b
    ·have a:=Vn j r;have m:=YT.1 g _ a;have e:r*2^j/2^(j+1)=r/2:=by
      rw[mV,←tJ,a]
     have:r*2^j/2^k=q:=by
      rw[uc h2,e,←hp,←uc h2,h1]
     rw[hd _ this]at m;cases m
  ·exact d
def iv (q:Nat):Nat:=if q%2=0 then q+1 else q-1
theorem Eu (q:Nat):iv q/2=q/2:=by unfold iv;split<;>omega
theorem Mv (q:Nat):iv q≠q:=by unfold iv;split<;>omega
theorem TX {q r:Nat}(h:r/2=q/2):r=q\/r=iv q:=by unfold iv;split<;>omega
theorem H4 {k q p:Nat}:p/2^(k+1)=q/2↔p/2^k=q\/p/2^k=iv q:=by
 rw[mV,←tJ];constructor
 ·intro h;exact TX h
 ·rintro(h|h)<;>rw[h]
  exact Eu q
theorem SL {T:Nat->Bool}{k q:Nat}(hd:∀p,p/2^k=q->T p=false)(hm:¬can T k (iv q)=true):¬full (ins T k q) (k+1) (q/2)=true:=by
 intro hup;have a:full T k (iv q)=true:=YT.2 λp hp=>by
  rcases Ue.1 (YT.1 hup p (H4.2 (.inr hp)))with h|h
  ·exact h
  ·exact(Mv q (hp.symm.trans h)).elim
 have:full T (k+1) (iv q/2)=true:=Classical.byContradiction λh=>hm (ZW.2 ⟨a,h⟩);rw[Eu]at this;have b:=YT.1 this (q*2^k) (H4.2 (.inl (Vn k q)));rw[hd _ (Vn k q)]at b;cases b
def dG (S:Nat->Bool)(a b:Nat):Nat->Bool:=λp=>S p||(decide (a<=p)&&decide (p<b))
def take (S:Nat->Bool)(a b:Nat):Nat->Bool:=λp=>S p && !(decide (a<=p)&&decide (p<b))
theorem KU {S:Nat->Bool}{a b p:Nat}:dG S a b p=true↔S p=true\/(a<=p/\p<b):=by simp[dG]
theorem KM {S:Nat->Bool}{a b p:Nat}:take S a b p=true↔S p=true/\¬(a<=p/\p<b):=by
 simp[take];intro _;omega
theorem tT {S T:Nat->Bool}(h:∀p,S p=true↔T p=true):S=T:=by
 funext p
 have:=h p;cases hs:S p<;>cases ht:T p<;>simp_all
theorem Tn (S:Nat->Bool)(k q:Nat):ins S k q=dG S (q*2^k) (q*2^k+2^k):=
 tT λp=>by rw[Ue,KU,Qv]
theorem MH {S:Nat->Bool}{a b c:Nat}(h1:a<=b)(h2:b<=c):dG (dG S a b) b c=dG S a c:=
 tT λp=>by simp only[KU];cases S p<;>simp<;>omega
theorem Rm (S:Nat->Bool)(a:Nat):dG S a a=S:=tT λp=>by simp only[KU];cases S p<;>simp<;>omega
theorem NC (S:Nat->Bool)(a:Nat):take S a a=S:=tT λp=>by simp only[KM];cases S p<;>simp<;>omega
def many (n:Nat)(S:Nat->Bool)(k:Nat):Nat:=(List.range n).countP (can S k)
end Go.Bu
namespace Go.Vc
open Go
abbrev Hp:=Array Obj
abbrev _root_.aN:=Int->Hp->Prop
abbrev _root_.aO:=Bool->Hp->Prop
abbrev _root_.aP:=Hp->Prop
structure Sl where
 a:Option Addr
 len:Nat
 cap:Nat
structure Fv where
 f:Nat
 first:Array Value
 captured:Array Value
inductive CK where
 | i (k:IntKind)|b|p|s|m|str|fn|raw|ag (n:Nat)|ad
 deriving DecidableEq
abbrev _root_.bN:CK:=.i .i64
@[reducible] def jN:Nat->Type
 | 0=>Unit
 | 1=>Int
 | n+2=>Int×jN (n+1)
def jN.vs:(n:Nat)->jN n->List Value
 | 0,_=>[]
 | 1,x=>[.int .i64 x]
 | n+2,x=>.int .i64 x.1::jN.vs (n+1) x.2
@[reducible] def CK.T:CK->Type
 | .i _=>Int
 | .b=>Bool
 | .p=>Option Addr
 | .s=>Sl
 | .m=>Option Nat
 | .str=>ByteArray
 | .fn=>Fv
 | .raw=>Value
 | .ag n=>jN n
 | .ad=>Addr
def CK.v:(c:CK)->c.T->Value
 | .i k,y=>.int k y
 | .b,x=>.bool x
 | .p,y=>.pointer y
 | .s,y=>.slice y.a y.len y.cap
 | .m,y=>.map y
 | .str,x=>.string x
 | .fn,x=>.func (.func x.f) x.first x.captured
 | .raw,y=>y
 | .ag n,y=>.agg (jN.vs n y).toArray
 | .ad,y=>.pointer (some y)
inductive SK where
 | one (c:CK)
 | agg (cs:List CK)
def SK.ks:SK->List CK
 | .one c=>[c]
 | .agg cs=>cs
def iO:List SK->List CK
 | []=>[]
 | s::ss=>s.ks++iO ss
@[reducible] def eR:List CK->Type
 | []=>Hp->Prop
 | c::cs=>c.T->eR cs
@[reducible] def pW:List CK->Type
 | []=>Hp->Nat
 | c::cs=>c.T->pW cs
def Sat:(ks:List CK)->eR ks->List Value->Hp->Prop
 | [],R,[],h=>R h
 | c::cs,R,v::vs,h=>∃x:c.T,v=c.v x/\Sat cs (R x) vs h
 | _,_,_,_=>False
def eR.le:(ks:List CK)->eR ks->eR ks->Prop
 | [],R,R'=>∀h,R h->R' h
 | c::cs,R,R'=>∀x:c.T,eR.le cs (R x) (R' x)
def lam:(ks:List CK)->(List Value->Hp->Prop)->eR ks
 | [],K=>K []
 | c::cs,K=>λx=>lam cs λvs=>K (c.v x::vs)
def wu:(n:Nat)->List Value->(jN n->Prop)->Prop
 | 0,[],K=>K ()
 | 1,[.int .i64 x],K=>K x
 | n+2,.int .i64 x::vs,K=>wu (n+1) vs λy=>K (x,y)
 | _,_,_=>False
theorem DZ:∀{n:Nat} {vs:List Value} {K:jN n->Prop},wu n vs K->∃x,vs=jN.vs n x/\K x:=by
 intro n vs K h;unfold wu at h;split at h
 ·exact⟨(),rfl,h⟩
 ·exact⟨_,rfl,h⟩
 ·obtain⟨y,rfl,a⟩:=DZ h;exact⟨_,rfl,a⟩
 ·exact h.elim
def p8:(c:CK)->Value->(c.T->Prop)->Prop
 | .i k,.int k' n,K=>if k=k' then K n else False
 | .b,.bool x,K=>K x
 | .p,.pointer a,K=>K a
 | .s,.slice a l c,K=>K ⟨a,l,c⟩
 | .m,.map r,K=>K r
 | .str,.string s,K=>K s
 | .fn,.func (.func f) x y,K=>K ⟨f,x,y⟩
 | .raw,v,K=>K v
 | .ag n,.agg cs,K=>wu n cs.toList K
 | .ad,.pointer (some a),K=>K a
 | _,_,_=>False
def vD:(ks:List CK)->eR ks->List Value->Hp->Prop
 | [],R,[],h=>R h
 | c::cs,R,v::vs,h=>p8 c v λx=>vD cs (R x) vs h
 | _,_,_,_=>False
theorem UZ {c:CK}{v:Value}{K:c.T->Prop}(h:p8 c v K):∃x,v=c.v x/\K x:=by
 cases c<;>cases v<;>simp only[p8]at h<;>try exact h.elim
 case i.int k k' n=>split at h<;>first|exact h.elim | (rename_i e;subst e;exact⟨n,rfl,h⟩)
 case fn.func f x y=>cases f<;>simp only[p8]at h<;>first|exact h.elim|exact⟨⟨_,x,y⟩,rfl,h⟩
 case b.bool x=>exact⟨x,rfl,h⟩
 case p.pointer a=>exact⟨a,rfl,h⟩
 case s.slice a l c=>exact⟨⟨a,l,c⟩,rfl,h⟩
 case m.map r=>exact⟨r,rfl,h⟩
 case str.string s=>exact⟨s,rfl,h⟩
 case ad.pointer p=>cases p<;>simp only[p8]at h<;>first|exact h.elim|exact⟨_,rfl,h⟩
 case ag.agg n cs=>obtain⟨x,e,d⟩:=DZ h;exact⟨x,by simp only[CK.v,←e],d⟩
 all_goals exact⟨_,rfl,h⟩
theorem IH:∀(n:Nat) (x:jN n) (K:jN n->Prop),wu n (jN.vs n x) K=K x
 | 0,_,_=>rfl
 | 1,_,_=>rfl
 | n+2,x,K=>IH (n+1) x.2 _
theorem Mp (c:CK)(x:c.T)(K:c.T->Prop):p8 c (c.v x) K=K x:=by
 cases c<;>simp[p8,CK.v]
 exact iff_of_eq (IH _ _ _)
theorem xG:∀{ks:List CK} {R:eR ks} {vs:List Value} {h:Hp},vD ks R vs h->Sat ks R vs h
 | [],_,[],_,h=>h
 | _::_,_,_::_,_,h=>by
  obtain⟨x,e,hx⟩:=UZ h;exact⟨x,e,xG hx⟩
 | [],_,_::_,_,h=>h.elim
 | _::_,_,[],_,h=>h.elim
theorem Sat.mono:∀{ks:List CK} {R R':eR ks},eR.le ks R R'->∀{vs:List Value} {h:Hp},Sat ks R vs h->Sat ks R' vs h
 | [],_,_,hl,[],_,h=>hl _ h
 | _::_,_,_,hl,_::_,_,⟨x,e,h⟩=>⟨x,e,Sat.mono (hl x) h⟩
 | [],_,_,_,_::_,_,h=>h.elim
 | _::_,_,_,_,[],_,h=>h.elim
theorem HR:∀{ks:List CK} {K:List Value->Hp->Prop} {vs:List Value} {h:Hp},Sat ks (lam ks K) vs h->K vs h
 | [],_,[],_,h=>h
 | _::_,K,v::vs,h,hs=>by
  obtain⟨x,rfl,h'⟩:=hs;exact HR (K:=λvs=>K (CK.v _ x::vs)) h'
 | [],_,_::_,_,h=>h.elim
 | _::_,_,[],_,h=>h.elim
abbrev Env:=Nat->Option Value
def Env.put (ρ:Env)(d:Nat)(v:Value):Env:=λi=>bif Nat.beq i d then some v else ρ i
def Env.iV (ρ:Env):Option Nat->Value->Env
 | some d,v=>ρ.put d v
 | none,_=>ρ
def Env.fD (ρ:Env)(ds:List Nat):Env:=λi=>bif ds.contains i then none else ρ i
def ev (ρ:Env):Operand->Option Value
 | .tmp t=>ρ t
 | .const v=>some v
 | .global g=>some (.pointer (some ⟨g,0,none⟩))
 | .func f=>some (.func (.func f) #[] #[])
def wv (o:Option Value)(K:Value->Prop):Prop:=match o with|some v=>K v|none=>False
def rf (ρ:Env):List Operand->Option (List Value)
 | []=>some []
 | o::os=>match ev ρ o,rf ρ os with|some v,some vs=>some (v::vs)|_,_=>none
def cell (h:Hp)(a:Addr):Option Value:=
 match h[a.block]? with
 | some (.cells c _ _)=>if a.spot.isSome then none else c[a.off]?
 | _=>none
def oW (h:Hp)(a:Addr):Bool:=
 match h[a.block]? with
 | some (.cells _ _ (lo,hi))=>lo<=a.off&&a.off<hi
 | _=>false
def kg (h:Hp)(a:Addr)(v:Value):Hp:=
 h.modify a.block fun
  | .cells c elem frozen=>.cells (if a.spot.isSome then c else c.setIfInBounds a.off v) elem frozen
  | o=>o
def gO (k:IntKind)(a:Addr)(h:Hp)(K:Int->Prop):Prop:=∃n,cell h a=some (.int k n)/\K n
def kB (a:Addr)(h:Hp)(K:Bool->Prop):Prop:=∃n,cell h a=some (.bool n)/\K n
def fW (a:Addr)(h:Hp)(K:Option Addr->Prop):Prop:=∃n,cell h a=some (.pointer n)/\K n
def ji (a:Addr)(h:Hp)(K:Sl->Prop):Prop:=∃n:Sl,cell h a=some (.slice n.a n.len n.cap)/\K n
def lU (a:Addr)(h:Hp)(K:Option Nat->Prop):Prop:=∃n,cell h a=some (.map n)/\K n
def wU (a:Addr)(h:Hp)(K:ByteArray->Prop):Prop:=∃n,cell h a=some (.string n)/\K n
def BF (a:Addr)(h:Hp)(K:Fv->Prop):Prop:=∃n:Fv,cell h a=some (.func (.func n.f) n.first n.captured)/\K n
def xg (a:Addr)(h:Hp)(K:Value->Prop):Prop:=∃n,cell h a=some n/\K n
def OS (n:Nat)(a:Addr)(h:Hp)(K:jN n->Prop):Prop:=∃x,cell h a=some (CK.v (.ag n) x)/\K x
def B0 (a:Addr)(h:Hp)(K:Addr->Prop):Prop:=∃x,cell h a=some (.pointer (some x))/\K x
def xL:(c:CK)->Addr->Hp->(c.T->Prop)->Prop
 | .i k,a,h,K=>gO k a h K
 | .b,a,h,K=>kB a h K
 | .p,a,h,K=>fW a h K
 | .s,a,h,K=>ji a h K
 | .m,a,h,K=>lU a h K
 | .str,a,h,K=>wU a h K
 | .fn,a,h,K=>BF a h K
 | .raw,a,h,K=>xg a h K
 | .ag n,a,h,K=>OS n a h K
 | .ad,a,h,K=>B0 a h K
def ot:List CK->Addr->Nat->Hp->(List Value->Prop)->Prop
 | [],_,_,_,K=>K []
 | c::cs,a,i,h,K=>xL c (a.add i) h λx=>ot cs a (i+1) h λvs=>K (c.v x::vs)
def kL (v:Value)(t:TypeId)(vs zs:List Value)(b:Bool):Prop:=match b with
 | true=>v=.iface t (.agg vs.toArray)
 | false=>vs=zs/\(v=.nilIface\/∃t' u,v=.iface t' u/\t'≠t)
def wY (v:Value)(t:TypeId)(zs:List Value):List CK->List Value->(List Value->Bool->Prop)->Prop
 | [],acc,K=>∃b:Bool,kL v t acc zs b/\K acc b
 | c::cs,acc,K=>∃x:c.T,wY v t zs cs (acc++[c.v x]) K
theorem wY.out {v:Value}{t:TypeId}{zs:List Value}:∀{cs:List CK} {acc:List Value} {K:List Value->Bool->Prop},wY v t zs cs acc K->∃vs b,kL v t vs zs b/\K vs b
 | [],acc,K,⟨b,h1,h2⟩=>⟨acc,b,h1,h2⟩
 | c::cs,acc,K,⟨x,h⟩=>wY.out h
def iM (v:Value):Prop:=v=.nilIface\/∃t u,v=.iface t u
def kX:Value->Bool
 | .nilIface=>true
 | _=>false
def O1 (v:Value)(A:Prop):Prop:=match v with
 | .agg _=>False
 | .tuple _=>False
 | _=>A
def yd:List Value->Prop->Prop
 | [],A=>A
 | v::vs,A=>O1 v (yd vs A)
def bU (p:Option Addr)(K:Addr->Prop):Prop:=∃a,p=some a/\K a
def Ar (k:IntKind)(e:Int)(K:Int->Prop):Prop:=K (k.wrap e)
def Nz (y:Int)(A:Prop):Prop:=y≠0/\A
def Nn (y:Int)(A:Prop):Prop:=0<=y/\A
def Ix (base:Option Addr)(len:Nat)(i:Int)(sz:Nat)(K:Addr->Prop):Prop:=∃a,base=some a/\0<=i/\i<(len:Int)/\K (a.add (i.toNat*sz))
def oS (a:Addr)(len:Nat)(i:Int)(sz:Nat)(K:Addr->Prop):Prop:=0<=i/\i<(len:Int)/\K (a.add (i.toNat*sz))
def Ci (s:ByteArray)(i:Int)(K:Int->Prop):Prop:=∃b,0<=i/\s[i.toNat]?=some b/\K (b.toNat:Int)
def If (b:Bool)(A B:Prop):Prop:=match b with
 | true=>A
 | false=>B
theorem If.t {b:Bool}{A B:Prop}(h:If b A B)(e:b=true):A:=by subst e;exact h
theorem If.f {b:Bool}{A B:Prop}(h:If b A B)(e:b=false):B:=by subst e;exact h
theorem If.mk {b:Bool}{A B:Prop}(h1:b=true->A)(h2:b=false->B):If b A B:=by cases b;exact h2 rfl;exact h1 rfl
def Nw (o:Obj)(h:Hp)(K:Addr->Hp->Prop):Prop:=K ⟨h.size,0,none⟩ (h.push o)
def eP (a:Addr)(v:Value)(h:Hp)(K:aP):Prop:=(cell h a).isSome=true/\oW h a=false/\K (kg h a v)
def qH (a:Addr)(h:Hp):List Value->Nat->(Hp->Prop)->Prop
 | [],_,K=>K h
 | v::vs,i,K=>eP (a.add i) v h λh'=>qH a h' vs (i+1) K
def fE (s:Sl)(sz:Nat)(lo hi mx:Int)(K:Sl->Prop):Prop:=
 0<=lo/\lo<=hi/\hi<=mx/\mx<=(s.cap:Int)/\K ⟨if mx.toNat=lo.toNat then s.a else s.a.map (·.add (lo.toNat*sz)),hi.toNat-lo.toNat,mx.toNat-lo.toNat⟩
def dD (h:Hp)(r:Nat)(k:IntKind)(c:CK)(l:List (Int×c.T)):Prop:=
 ∃es clk,h[r]?=some (.map es clk)/\es.toList.map (λe=>(e.key,e.val))=l.map (λx=>(Value.int k x.1,c.v x.2)) ∧
  (l.map (·.1)).Nodup/\(es.toList.map (·.born)).Pairwise (· < ·)/\∀e∈es.toList,e.born<clk
def jO (h:Hp)(m:Option Nat)(k:IntKind)(c:CK)(l:List (Int×c.T)):Prop:=
 match m with
 | none=>l=[]
 | some r=>dD h r k c l
def cB {α:Type}(l:List (Int×α))(n:Int):Option α:=(l.find? λx=>x.1==n).map (·.2)
def dO {α:Type}(l:List (Int×α))(n:Int)(v:α):List (Int×α):=
 if l.any (λx=>x.1==n)then l.map (λx=>if x.1==n then(n,v)else x)else l++[(n,v)]
def dK {α:Type}(l:List (Int×α))(n:Int):List (Int×α):=l.filter λx=>!(x.1==n)
def QT (h h':Hp)(r:Nat):Prop:=h'.size=h.size/\∀b,b≠r->h'[b]?=h[b]?
def Lk (k:IntKind)(c:CK)(m:Option Nat)(n:Int)(h:Hp)(K:Option c.T->Prop):Prop:=∃l,jO h m k c l/\K (cB l n)
def qY (k:IntKind)(c:CK)(m:Option Nat)(h:Hp)(K:Int->Prop):Prop:=∃l,jO h m k c l/\K (l.length:Int)
def jS (k:IntKind)(c:CK)(m:Option Nat)(n:Int)(x:c.T)(h:Hp)(K:aP):Prop:=
 ∃r l,m=some r/\dD h r k c l/\∀h',QT h h' r->dD h' r k c (dO l n x)->K h'
def nf (k:IntKind)(c:CK)(m:Option Nat)(n:Int)(h:Hp)(K:aP):Prop:=
 ∃l,jO h m k c l/\∀h',(∀r,m=some r->QT h h' r)->(m=none->h'=h)->jO h' m k c (dK l n)->K h'
def It (h:Hp)(r:Nat)(k:IntKind)(c:CK)(m:Option Nat)(l todo:List (Int×c.T))(cur:Option (Int×c.T)):Prop:=
 match m with
 | none=>l=[]/\todo=[]/\cur=none/\∃s q y,h[r]?=some (.mapIter none s q y)
 | some b=>∃es clk seen,h[r]?=some (.mapIter (some b) clk seen clk)/\h[b]?=some (.map es clk)/\es.toList.map (λe=>(e.key,e.val))=l.map (λx=>(Value.int k x.1,c.v x.2)) ∧
  (l.map (·.1)).Nodup/\(es.toList.map (·.born)).Pairwise (· < ·)/\(∀e∈es.toList,e.born<clk) ∧
  (es.toList.filter λe=>!seen.contains e.born).map (λe=>(e.key,e.val))=todo.map (λx=>(Value.int k x.1,c.v x.2)) ∧
  (∀x,cur=some x->∃e∈es.toList,seen.back?=some e.born/\e.key=.int k x.1/\e.val=c.v x.2)
def pG (k:IntKind)(c:CK)(m:Option Nat)(h:Hp)(K:Addr->Hp->Prop):Prop:=
 ∃l,jO h m k c l/\∀h',h'.size=h.size+1->(∀b,b<h.size->h'[b]?=h[b]?)->It h' h.size k c m l l none->K ⟨h.size,0,none⟩ h'
def pN (k:IntKind)(c:CK)(a:Addr)(h:Hp)(A:Prop)(B:Int->c.T->Hp->Prop):Prop:=
 a.off=0/\∃m l todo cur,It h a.block k c m l todo cur/\(todo=[]->A) ∧
  ∀n x,(n,x)∈todo->∀h',QT h h' a.block->It h' a.block k c m l (todo.filter λy=>!(y.1==n)) (some (n,x))->B n x h'
def qf (k:IntKind)(c:CK)(a:Addr)(h:Hp)(K:Int->c.T->Prop):Prop:=
 a.off=0/\∃m l todo n x,It h a.block k c m l todo (some (n,x))/\K n x
def dJ:Value->Bool
 | .agg _=>false
 | .tuple _=>false
 | _=>true
def Rd (h:Hp)(a:Option Addr)(xs:List Value):Prop:=
 match a with
 | none=>xs=[]
 | some a=>∀j v,xs[j]?=some v->cell h (a.add j)=some v
def B8 (s:Sl)(h:Hp)(K:ByteArray->Prop):Prop:=∃bs:List Int,bs.length=s.len/\Rd h s.a (bs.map (.int .u8))/\K ⟨(bs.map λn=>UInt8.ofNat n.toNat).toArray⟩
def App (s:Sl)(sz bytes:Nat)(e:Nat)(zs:List Value)(x:Sl)(h:Hp)(K:Sl->Hp->Prop):Prop:=
 ∃xs ys,xs.length=s.len*sz/\ys.length=x.len*sz/\Rd h s.a xs/\Rd h x.a ys/\(∀v∈ys,dJ v=true)/\(s.len+x.len)*bytes<=2^46/\s.len+x.len<=2^62 ∧
  (s.len+x.len<=s.cap->match s.a with
   | some a=>qH (a.add (s.len*sz)) h ys 0 λh'=>K ⟨s.a,s.len+x.len,s.cap⟩ h'
   | none=>K ⟨none,s.len+x.len,s.cap⟩ h) ∧
  (¬s.len+x.len<=s.cap->∀c,s.len+x.len<=c->Nw (.cells (xs++ys++(List.replicate (c-(s.len+x.len)) zs).flatten).toArray e) h λa h'=>K ⟨some a,s.len+x.len,c⟩ h')
def tX (s:Sl)(sz bytes:Nat)(e:Nat)(zs:List Value)(n:Int)(h:Hp)(K:Sl->Hp->Prop):Prop:=
 0<=n/\∃xs,xs.length=s.len*sz/\Rd h s.a xs/\(∀v∈zs,dJ v=true)/\(s.len+n.toNat)*bytes<=2^46/\s.len+n.toNat<=2^62/\(n.toNat:Int)*bytes<=2^46 ∧
  (s.len+n.toNat<=s.cap->match s.a with
   | some a=>qH (a.add (s.len*sz)) h (List.replicate n.toNat zs).flatten 0 λh'=>K ⟨s.a,s.len+n.toNat,s.cap⟩ h'
   | none=>K ⟨none,s.len+n.toNat,s.cap⟩ h) ∧
  (¬s.len+n.toNat<=s.cap->∀c,s.len+n.toNat<=c->Nw (.cells (xs++(List.replicate n.toNat zs).flatten++(List.replicate (c-(s.len+n.toNat)) zs).flatten).toArray e) h λa h'=>K ⟨some a,s.len+n.toNat,c⟩ h')
def rG (d:Sl)(sz:Nat)(s:Sl)(h:Hp)(K:aN):Prop:=
 ∃xs,xs.length=min s.len d.len*sz/\Rd h s.a xs/\(∀v∈xs,dJ v=true)/\match d.a with
  | some a=>qH a h xs 0 λh'=>K ((min s.len d.len:Nat):Int) h'
  | none=>K ((min s.len d.len:Nat):Int) h
def CL (s:Sl)(zs:List Value)(h:Hp)(K:aP):Prop:=
 (∀v∈zs,dJ v=true)/\match s.a with
  | some a=>qH a h (List.replicate s.len zs).flatten 0 K
  | none=>K h
def Mk (n c:Int)(bytes:Nat)(e:Nat)(zs:List Value)(h:Hp)(K:Sl->Hp->Prop):Prop:=
 0<=n/\n<=c/\(bytes:Int)*c<=2^46/\c<2^62/\Nw (.cells (List.replicate c.toNat zs).flatten.toArray e) h λa h'=>K ⟨some a,n.toNat,c.toNat⟩ h'
def ZT (w w':World):Prop:=w'.os=w.os/\w'.tape=w.tape/\w'.output=w.output/\w.heap.size<=w'.heap.size
def qy:List SK->List Value->List Value
 | [],_=>[]
 | .one _::ss,v::vs=>v::qy ss vs
 | .one _::ss,[]=>undef::qy ss []
 | .agg cs::ss,vs=>.agg (vs.take cs.length).toArray::qy ss (vs.drop cs.length)
def pack (rs:List SK)(vs:List Value):Value:=
 match qy rs vs with
 | [v]=>v
 | l=>.tuple l.toArray
def We (P:Program)(f:Nat)(args:Array Value)(rs:List SK)(h:Hp)(R:eR (iO rs)):Prop:=
 ∀w:World,w.heap=h->Calls P f args w λe w'=>ZT w w'/\∃vs,e=.returned (pack rs vs)/\Sat (iO rs) R vs w'.heap
def jB (P:Program)(v:Value)(name:String)(args:List Value)(rs:List SK)(h:Hp)(R:eR (iO rs)):Prop:=
 ∃t u f,v=.iface t u/\(∀w,(method (P.types.size+Made.depth) t u name).run P w=.ok (f,u) w)/\(∀xs w,(callFunc f xs).run P w=.ok (.enter f xs) w)/\We P f (u::args).toArray rs h R
def FZ (P:Program)(fv:Fv)(args:List Value)(rs:List SK)(h:Hp)(R:eR (iO rs)):Prop:=
 We P fv.f (fv.first++args.toArray++fv.captured) rs h R
abbrev SK.I:SK:=.one bN
abbrev _root_.Go.Value.I (x:Int):Value:=.int .i64 x
def IU:TypeDesc->Option CK
 | .bool=>some .b
 | .int k=>some (.i k)
 | .string=>some .str
 | .pointer _=>some .p
 | .slice _=>some .s
 | .map _ _=>some .m
 | .func _ _ _=>some .fn
 | .interface _=>some .raw
 | _=>none
mutual
def CR (P:Program):Nat->TypeId->Option (List CK)
 | 0,_=>none
 | n+1,t=>
  match P.underlying t with
  | some (.struct fs)=>ET P n fs.toList
  | some (.array m e)=>(CR P n e).map λl=>(List.replicate m l).flatten
  | some d=>(IU d).map λc=>[c]
  | none=>none
def ET (P:Program):Nat->List Field->Option (List CK)
 | 0,_=>none
 | _+1,[]=>some []
 | n+1,f::fs=>match CR P n f.type,ET P n fs with
  | some a,some b=>some (a++b)
  | _,_=>none
end
def ekD:SK->SK
 | .agg cs=>bif cs.all (· == .i .i64)then .one (.ag cs.length)else .agg cs
 | s=>s
def UO:TypeDesc->Bool
 | .struct _ | .array _ _=>true
 | _=>false
def kH (P:Program)(t:TypeId):Option SK:=
 match P.underlying t with
 | some d=>bif UO d then(CR P 24 t).map .agg else(IU d).map .one
 | none=>none
def pV (P:Program)(t:TypeId):Option SK:=(kH P t).map ekD
def gT (b:Bool)(A:Prop):Prop:=match b with|true=>A|false=>False
theorem WG {b:Bool}{A:Prop}:gT b A↔b=true/\A:=by cases b<;>simp[gT]
def qC (op:BinOp)(k:IntKind)(x y:Int)(K:Value->Prop):Prop:=
 match op with
 | .add=>Ar k (x+y) λz=>K (.int k z)
 | .sub=>Ar k (x-y) λz=>K (.int k z)
 | .mul=>Ar k (x*y) λz=>K (.int k z)
 | .quo=>Nz y (Ar k (x.tdiv y) λz=>K (.int k z))
 | .rem=>Nz y (K (.int k (x.tmod y)))
 | .and=>K (.int k (bits .and k x y))
 | .or=>K (.int k (bits .or k x y))
 | .xor=>K (.int k (bits .xor k x y))
 | .andNot=>K (.int k (bits .andNot k x y))
 | .shl=>Nn y (Ar k (x*2^(min y.toNat k.bits)) λz=>K (.int k z))
 | .shr=>Nn y (K (.int k (x.fdiv (2^(min y.toNat k.bits)))))
 | .eql=>K (.bool (x==y))
 | .neq=>K (.bool (x != y))
 | .lss=>K (.bool (decide (x<y)))
 | .leq=>K (.bool (decide (x<=y)))
 | .gtr=>K (.bool (decide (x>y)))
 | .geq=>K (.bool (decide (x≥y)))
def nN (op:BinOp)(b:Bool)(K:Value->Prop):Prop:=
 match op with
 | .eql=>K (.bool b)
 | .neq=>K (.bool (!b))
 | _=>False
def mh (P:Program)(op:BinOp)(t:TypeId)(x y:Value)(K:Value->Prop):Prop:=
 match P.underlying t,x,y with
 | some (.pointer _),.pointer p,.pointer none=>nN op p.isNone K
 | some (.slice _),.slice p _ _,.slice none 0 0=>nN op p.isNone K
 | some (.map _ _),.map p,.map none=>nN op p.isNone K
 | some (.interface _),x,.nilIface=>iM x/\nN op (kX x) K
 | _,_,_=>False
def mq (P:Program)(op:BinOp)(t:TypeId)(x y:Value)(K:Value->Prop):Prop:=
 match x,y with
 | .int k a,.int k' b=>if k=k' then qC op k a b K else(match op with | .shl=>qC .shl k a b K | .shr=>qC .shr k a b K|_=>False)
 | .bool a,.bool b=>match P.underlying t with
  | some .bool=>nN op (a==b) K
  | _=>False
 | .string a,.string b=>match op with
  | .eql=>K (.bool (a.toList==b.toList))
  | .neq=>K (.bool (!(a.toList==b.toList)))
  | _=>False
 | _,_=>False
def pw (P:Program)(xs ys:List Value):List Field->Option Bool
 | []=>some true
 | f::fs=>bif f.name == "_" then none else
  match P.underlying f.type,xs[f.offset]?,ys[f.offset]?,pw P xs ys fs with
  | some (.int _),some (.int k a),some (.int k' b),some r=>if k=k' then some ((a==b)&&r)else none
  | some .bool,some (.bool a),some (.bool b),some r=>some ((a==b)&&r)
  | _,_,_,_=>none
def p7 (P:Program)(e:TypeId)(xs ys:List Value):List Nat->Option Bool
 | []=>some true
 | i::is=>match P.underlying e,xs[i]?,ys[i]?,p7 P e xs ys is with
  | some (.int _),some (.int k a),some (.int k' b),some r=>if k=k' then some ((a==b)&&r)else none
  | some (.pointer _),some (.pointer p),some (.pointer none),some r=>some (p.isNone&&r)
  | _,_,_,_=>none
def oC (P:Program)(op:BinOp)(t:TypeId)(xs ys:List Value)(K:Value->Prop):Prop:=
 match P.underlying t with
 | some (.struct fs)=>gT (!P.stoodInHeld t && !P.eqGuardType P.depth t) (match pw P xs ys fs.toList with
  | some b=>nN op b K
  | none=>False)
 | some (.array n e)=>gT (!P.eqGuardType P.depth t&&((P.info? e).isSome&&P.cellsOf e==1)) (match p7 P e xs ys (List.range n)with
  | some b=>nN op b K
  | none=>False)
 | _=>False
def tj:Operand->Bool
 | .const (.pointer none)=>true
 | .const (.slice none 0 0)=>true
 | .const (.map none)=>true
 | .const .nilIface=>true
 | _=>false
def yW (h:Hp)(p q:Option Addr)(K:Bool->Prop):Prop:=match p,q with
 | some a,some b=>if a=b then K true else((∃ca ta,h[a.block]?=some (.cells ca ta (0,0)))/\∃cb tb,h[b.block]?=some (.cells cb tb (0,0)))/\K false
 | none,q=>K q.isNone
 | some _,none=>K false
def q8 (P:Program)(op:BinOp)(t:TypeId)(p q:Option Addr)(h:Hp)(K:Value->Prop):Prop:=
 match P.underlying t with
 | some (.pointer e)=>gT ((P.info? e).isSome&&P.cellsOf e != 0) (match op with
  | .eql=>yW h p q λb=>K (.bool b)
  | .neq=>yW h p q λb=>K (.bool (!b))
  | _=>False)
 | _=>False
def wz (P:Program)(op:BinOp)(t:TypeId)(y:Operand)(vx vy:Value)(h:Hp)(K:Value->Prop):Prop:=
 bif tj y then mh P op t vx vy K else match vx,vy with
 | .agg xs,.agg ys=>oC P op t xs.toList ys.toList K
 | .pointer p,.pointer q=>q8 P op t p q h K
 | vx,vy=>mq P op t vx vy K
def oK (P:Program)(s f:Nat)(K:Field->Prop):Prop:=
 match P.underlying s with
 | some (.struct fs)=>match fs[f]? with
  | some fd=>K fd
  | none=>False
 | _=>False
def l8 (P:Program)(t:TypeId)(x:Value)(h:Hp)(K:Value->Prop):Prop:=
 match P.underlying t,x with
 | some (.slice _),.slice _ n _=>K (.int .i64 (n:Int))
 | some .string,.string s=>K (.int .i64 (s.size:Int))
 | some (.array n _),_=>K (.int .i64 (n:Int))
 | some (.map kt et),.map m=>match P.underlying kt,pV P et with
  | some (.int k),some (.one c)=>qY k c m h λz=>K (.int .i64 z)
  | _,_=>False
 | _,_=>False
def Am (P:Program)(t:TypeId)(x i:Value)(ok:Bool)(h:Hp)(K:Value->Prop):Prop:=
 match P.underlying t,x,i with
 | some (.map kt et),.map m,.int k n=>match P.underlying kt,pV P et,P.info? et with
  | some (.int k'),some (.one c),some ti=>match ti.zero with
   | some z=>if k=k' then p8 c z λz=>Lk k c m n h λo=>K (bif ok then .tuple #[c.v (o.getD z),.bool o.isSome]else c.v (o.getD z))else False
   | none=>False
  | _,_,_=>False
 | _,_,_=>False
def qk (isMax:Bool):Value->List Value->(Value->Prop)->Prop
 | v,[],K=>K v
 | .int k x,.int _ y::vs,K=>qk isMax (.int k (bif isMax then(if y>x then y else x)else(if y<x then y else x))) vs K
 | _,_,_=>False
def r9 (ZB:Nat->Option (Nat×Nat))(cells:List Value):List (Nat×Value)->Option (List Value)
 | []=>some cells
 | (i,v)::rest=>
  match ZB i with
  | none=>none
  | some (off,size)=>
   if v.cells.size≠size\/off+v.cells.size>cells.length then none
   else r9 ZB (cells.take off++v.cells.toList++cells.drop (off+size)) rest
def GN (ρ:Env):List (Nat×Operand)->Option (List (Nat×Value))
 | []=>some []
 | (i,o)::os=>match ev ρ o,GN ρ os with|some v,some vs=>some ((i,v)::vs)|_,_=>none
def Cv (P:Program)(fs:Array Field)(i:Nat):Option (Nat×Nat):=match fs[i]? with
 | some f=>match P.info? f.type with
  | some ti=>some (f.offset,ti.size)
  | none=>none
 | none=>none
def wB (P:Program)(t:TypeId):Bool:=match P.underlying t with
 | some (.interface _)=>true
 | _=>false
def xy (P:Program)(fs:Array Field)(i:Nat):Bool:=match fs[i]? with
 | some f=>wB P f.type
 | none=>false
def vS (raw:Nat->Bool):List (Nat×Value)->List (Nat×Value)
 | []=>[]
 | (i,v)::ps=>(i,bif raw i then .agg #[v]else v)::vS raw ps
def mg (raw:Nat->Bool):List (Nat×Value)->Prop->Prop
 | [],A=>A
 | (i,v)::ps,A=>bif raw i then iM v/\mg raw ps A else mg raw ps A
def oB (P:Program)(t:TypeId)(ps:List (Nat×Value))(K:Value->Prop):Prop:=
 match P.info? t,P.underlying t with
 | some ti,some (.struct fs)=>match ti.zero with
  | some z=>mg (xy P fs) ps (match r9 (Cv P fs) z.cells.toList (vS (xy P fs) ps)with
   | some cs=>gT (fs.toList.all λf=>(P.info? f.type).isSome) (K (.agg cs.toArray))
   | none=>False)
  | none=>False
 | some ti,some (.array _ e)=>match ti.zero,P.info? e with
  | some z,some te=>match r9 (λi=>some (i*te.size,te.size)) z.cells.toList ps with
   | some cs=>K (.agg cs.toArray)
   | none=>False
  | _,_=>False
 | _,_=>False
def uy (P:Program)(t:TypeId)(cs:List Value)(off:Nat)(K:Value->Prop):Prop:=
 match P.underlying t,P.info? t with
 | some d,some ti=>bif UO d then K (.agg ((cs.drop off).take ti.size).toArray)else wv (cs[off]?) K
 | _,_=>False
def ou (P:Program)(t:TypeId)(x:Value)(lo hi mx:Option Value)(K:Value->Prop):Prop:=
 match P.underlying t,x with
 | some (.slice e),.slice a n c=>match P.info? e with
  | some ti=>
   let loV:Option Int:=match lo with|none=>some 0|some (.int .i64 z)=>some z|_=>none
   let hiV:Option Int:=match hi with|none=>some n|some (.int .i64 z)=>some z|_=>none
   let mxV:Option Int:=match mx,hi with|none,_=>some c|some (.int .i64 z),some _=>some z|_,_=>none
   match loV,hiV,mxV with
   | some l,some h,some m=>fE ⟨a,n,c⟩ ti.size l h m λs=>K (.slice s.a s.len s.cap)
   | _,_,_=>False
  | none=>False
 | _,_=>False
def uQ (ρ:Env):Option Operand->Option (Option Value)
 | none=>some none
 | some o=>(ev ρ o).map some
def qK (P:Program)(o:Op)(ρ:Env)(h:Hp)(K:Value->Prop):Prop:=
 match o with
 | .move x=>wv (ev ρ x) K
 | .assign x=>wv (ev ρ x) K
 | .pick c x y=>wv (ev ρ c) λv=>match v with
  | .bool true=>wv (ev ρ x) K
  | .bool false=>wv (ev ρ y) K
  | _=>False
 | .load t a=>wv (ev ρ a) λv=>match v,kH P t with
  | .pointer (some a),some (.one c)=>gT (P.info? t).isSome (xL c a h λx=>K (c.v x))
  | .pointer (some a),some (.agg cs)=>gT (P.cellsOf t==cs.length) (gT (P.info? t).isSome (ot cs a 0 h λvs=>K (.agg vs.toArray)))
  | _,_=>False
 | .nilCheck x=>wv (ev ρ x) λv=>match v with
  | .pointer p=>bU p λa=>K (.pointer (some a))
  | .func (.func f) a b=>K (.func (.func f) a b)
  | _=>False
 | .binOp op t x y _=>wv (ev ρ x) λvx=>wv (ev ρ y) λvy=>wz P op t y vx vy h K
 | .unOp op _ x=>wv (ev ρ x) λv=>match op,v with
  | .not,.bool b=>K (.bool (!b))
  | .neg,.int k n=>Ar k (0-n) λz=>K (.int k z)
  | _,_=>False
 | .convert s d x=>wv (ev ρ x) λv=>match P.underlying s,P.underlying d,v with
  | some _,some (.int k),.int _ n=>Ar k n λz=>K (.int k z)
  | some _,some .string,.string x=>K (.string x)
  | some (.slice e),some .string,.slice a n c=>(match P.underlying e with|some (.int .u8)=>B8 ⟨a,n,c⟩ h λs=>K (.string s)|_=>False)
  | _,_,_=>False
 | .fieldAddr s x f=>wv (ev ρ x) λv=>oK P s f λfd=>match v with
  | .pointer (some a)=>gT (P.cellsOf fd.type != 0) (K (.pointer (some (a.add fd.offset))))
  | _=>False
 | .field s x f=>wv (ev ρ x) λv=>oK P s f λfd=>match v with
  | .agg cs=>uy P fd.type cs.toList fd.offset K
  | _=>False
 | .indexAddr t x i=>wv (ev ρ x) λvx=>wv (ev ρ i) λvi=>match P.underlying t,vx,vi with
  | some (.slice e),.slice b n _,.int _ i=>gT (P.info? e).isSome (Ix b n i (P.cellsOf e) λa=>K (.pointer (some a)))
  | some (.array n e),.pointer (some a),.int _ i=>gT (P.info? e).isSome (oS a n i (P.cellsOf e) λa=>K (.pointer (some a)))
  | _,_,_=>False
 | .index t x i=>wv (ev ρ x) λvx=>wv (ev ρ i) λvi=>match P.underlying t,vx,vi with
  | some .string,.string s,.int _ i=>Ci s i λz=>K (.int .u8 z)
  | _,_,_=>False
 | .lookup t x i ok=>wv (ev ρ x) λvx=>wv (ev ρ i) λvi=>Am P t vx vi ok h K
 | .extract t i=>wv (ev ρ t) λv=>match v with
  | .tuple vs=>wv (vs.toList[i]?) K
  | _=>False
 | .makeFunc fn a b=>match rf ρ a.toList,rf ρ b.toList with
  | some va,some vb=>K (.func fn va.toArray vb.toArray)
  | _,_=>False
 | .build t ps=>match GN ρ ps.toList with
  | some vs=>oB P t vs K
  | none=>False
 | .slice t x lo hi mx=>wv (ev ρ x) λv=>match uQ ρ lo,uQ ρ hi,uQ ρ mx with
  | some lo,some hi,some mx=>ou P t v lo hi mx K
  | _,_,_=>False
 | .makeInterface t x=>wv (ev ρ x) λv=>gT (P.concrete t) (K (.iface t v))
 | .typeAssert x _ t true=>wv (ev ρ x) λv=>match P.underlying t,P.info? t,kH P t with
  | some (.struct _),some ti,some (.agg cs)=>match ti.zero with
   | some (.agg zs)=>wY v t zs.toList cs [] λvs b=>K (.tuple #[.agg vs.toArray,.bool b])
   | _=>False
  | _,_,_=>False
 | .call c=>match c.callee,rf ρ c.args.toList,c.argTypes.toList with
  | .builtin .len,some [x],[t]=>l8 P t x h K
  | .builtin .cap,some [.slice _ _ n],[t]=>(match P.underlying t with|some (.slice _)=>K (.int .i64 (n:Int))|_=>False)
  | .builtin .max,some (x::xs),_=>qk true x xs K
  | .builtin .min,some (x::xs),_=>qk false x xs K
  | _,_,_=>False
 | _=>False
def s7:Op->Bool
 | .move _ | .assign _ | .pick .. | .load _ _ | .nilCheck _ | .binOp .. | .unOp .. | .convert .. | .fieldAddr .. | .field .. | .indexAddr .. | .index .. | .lookup .. | .extract .. | .makeFunc .. | .build .. | .slice .. | .makeInterface .. => true
 | .typeAssert _ _ _ ok=>ok
 | .call c=>match c.callee with | .builtin .len | .builtin .cap | .builtin .max | .builtin .min=>true|_=>false
 | _=>false
theorem UA {P:Program}{t:Nat}{i:TypeInfo}(hi:P.info? t=some i)(w:World):(typeInfo t).run P w=.ok i w:=by
 simp[typeInfo,hi]
theorem Kd {P:Program}{t:Nat}(h:(P.info? t).isSome=true)(w:World):(sizeOf t).run P w=.ok (P.cellsOf t) w:=by
 obtain⟨i,a⟩:=qh.1 h;simp[sizeOf,typeInfo,a,Program.cellsOf]
theorem V2 {P:Program}{t:Nat}{i:TypeInfo}{z:Value}(hi:P.info? t=some i)(hz:i.zero=some z)(w:World):(zeroValue t).run P w=.ok z w:=by
 simp[zeroValue,typeInfo,hi,hz]
theorem OZ {P:Program}{op:BinOp}{t:Nat}{k:IntKind}{x y:Int}{K:Value->Prop}(h:qC op k x y K)(w:World) :
 ∃v,(binOp op t (.int k x) (.int k y)).run P w=.ok v w/\K v:=by
 cases op<;>simp only[qC,Ar,Nz,Nn]at h
 all_goals first
  | (refine⟨_,?_,h⟩;simp[binOp,Op.intArith,Op.intCmp,Op.intBits,bits];done)
  | (obtain⟨b,a⟩:=h;refine⟨_,?_,a⟩;simp[binOp,Op.intDiv,b];done)
  | (obtain⟨b,a⟩:=h;refine⟨_,?_,a⟩;simp[binOp,Op.shift,Int.not_lt.2 b];done)
theorem UV {P:Program}{op:BinOp}{t:Nat}{x y:Value}{b:Bool}{K:Value->Prop}(h:nN op b K)(w:World)
 (hb:∀op,(op=.eql\/op=.neq)->binOp op t x y=if op=.eql then(do pure (.bool (←Op.equal t x y)))else(do pure (.bool (!(←Op.equal t x y)))))
 (he:(Op.equal t x y).run P w=.ok b w):∃v,(binOp op t x y).run P w=.ok v w/\K v:=by
 cases op<;>simp only[nN]at h
 case eql=>exact⟨_,by rw[hb .eql (.inl rfl)];simp[he],h⟩
 case neq=>exact⟨_,by rw[hb .neq (.inr rfl)];simp[he],h⟩
theorem EC {P:Program}{t e:Nat}(hu:P.underlying t=some (.pointer e))(p:Option Addr)(d:Nat)(w:World):(Op.equalIn (d+1) t (.pointer p) (.pointer none)).run P w=.ok p.isNone w:=by
 cases p<;>simp[Op.equalIn,run_underlying hu]
theorem TJ {P:Program}{t e:Nat}(hu:P.underlying t=some (.slice e))(p:Option Addr)(n c d:Nat)(w:World):(Op.equalIn (d+1) t (.slice p n c) (.slice none 0 0)).run P w=.ok p.isNone w:=by
 cases p<;>simp[Op.equalIn,run_underlying hu]
theorem S2 {P:Program}{t k e:Nat}(hu:P.underlying t=some (.map k e))(p:Option Nat)(d:Nat)(w:World):(Op.equalIn (d+1) t (.map p) (.map none)).run P w=.ok p.isNone w:=by
 cases p<;>simp[Op.equalIn,run_underlying hu]
theorem SI {P:Program}{t:Nat}(hu:P.underlying t=some .bool)(a b:Bool)(d:Nat)(w:World):(Op.equalIn (d+1) t (.bool a) (.bool b)).run P w=.ok (a==b) w:=by
 simp[Op.equalIn,run_underlying hu]
theorem Rb {P:Program}{w:World}{s:Sl}{K:ByteArray->Prop}(h:B8 s w.heap K):∃b,(Conv.bytesToString (.slice s.a s.len s.cap)).run P w=.ok (.string b) w/\K b:=by
 obtain⟨g,m,d,p⟩:=h;refine⟨_,?_,p⟩;cases hs:s.a with
 | none=>
  rw[hs]at d;simp only[Rd,vC]at d;subst d;simp[Conv.bytesToString];rfl
 | some a=>
  rw[hs]at d;have e:(loadCells a s.len).run P w=.ok (g.map (Value.int .u8)).toArray w:=by
   rw[←m];simpa using run_loadCells_list (P:=P) (w:=w) a (g.map (Value.int .u8)) (λj v i=>d j v i)
  have key:∀(l:List Int) (acc:ByteArray),List.foldl (λb a=>b.push (UInt8.ofNat a.toNat)) acc l=⟨acc.data++(l.map λn=>UInt8.ofNat n.toNat).toArray⟩:=by
   intro l
   induction l with
   | nil=>intro acc;simp
   | cons n l ih=>intro acc;rw[lp,ih];congr 1;apply Array.ext';simp[ByteArray.push]
  simp only[Conv.bytesToString,Sem.run_bind,e,Result.andThen_ok];simp[key]
theorem PU {P:Program}{t:Nat}{ms:Array (String×TypeId)}(hu:P.underlying t=some (.interface ms)){v:Value}(hv:iM v)(d:Nat)(w:World):(Op.equalIn (d+1) t v .nilIface).run P w=.ok (kX v) w:=by
 rcases hv with rfl|⟨t',u,rfl⟩
 ·simp[Op.equalIn,run_underlying hu,kX]
 ·simp[Op.equalIn,run_underlying hu,kX]
theorem LL {P:Program}{xt t:TypeId}{ti:TypeInfo}{fs:Array Field}{v:Value}{vs zs:List Value}{b:Bool}(hu:P.underlying t=some (.struct fs))(hi:P.info? t=some ti)(hz:ti.zero=some (.agg zs.toArray))
 (h:kL v t vs zs b) (w:World) :
 (Instr.typeAssert v xt t true).run P w=.ok (.tuple #[.agg vs.toArray,.bool b]) w:=by
 have a:=V2 hi hz w;cases b with
 | true=>
  simp only[kL]at h;subst h;simp[Instr.typeAssert,run_underlying hu]
 | false=>
  simp only[kL]at h;obtain⟨rfl,h⟩:=h;rcases h with rfl|⟨t',u,rfl,hne⟩
  ·simp[Instr.typeAssert,run_underlying hu,a]
  ·simp[Instr.typeAssert,run_underlying hu,hne,a]
theorem R7 {P:Program}{op:BinOp}{t:Nat}{x y:Value}{K:Value->Prop}(h:mh P op t x y K)(w:World) :
 ∃v,(binOp op t x y).run P w=.ok v w/\K v:=by
 unfold mh at h;split at h
 case h_1 e p hu=>
  refine UV h w ?_ ?_
  ·rintro op (rfl|rfl)<;>simp[binOp]
  ·exact EC hu p 9999 w
 case h_2 e p _ _ hu=>
  refine UV h w ?_ ?_
  ·rintro op (rfl|rfl)<;>simp[binOp]
  ·exact TJ hu p _ _ 9999 w
 case h_3 e e' p hu=>
  refine UV h w ?_ ?_
  ·rintro op (rfl|rfl)<;>simp[binOp]
  ·exact S2 hu p 9999 w
 case h_4 ms hu=>
  obtain⟨a,h⟩:=h;refine UV h w ?_ ?_
  ·rcases a with rfl|⟨t',u,rfl⟩<;>rintro op (rfl|rfl)<;>simp[binOp]
  ·exact PU hu a 9999 w
 ·exact h.elim
theorem Po {P:Program}{op:BinOp}{t:Nat}{x y:Value}{K:Value->Prop}(h:mq P op t x y K)(w:World) :
 ∃v,(binOp op t x y).run P w=.ok v w/\K v:=by
 unfold mq at h;split at h
 case h_1 k a k' b=>
  split at h
  ·rename_i e;subst e;exact OZ h w
  ·cases op<;>simp only at h
   case shl=>simp only[qC,Ar,Nn]at h;obtain⟨g,d⟩:=h;exact⟨_,by simp[binOp,Op.shift,Int.not_lt.2 g],d⟩
   case shr=>simp only[qC,Ar,Nn]at h;obtain⟨g,d⟩:=h;exact⟨_,by simp[binOp,Op.shift,Int.not_lt.2 g],d⟩
 case h_2 a b=>
  split at h
  ·rename_i hu;refine UV h w ?_ ?_
   ·rintro op (rfl|rfl)<;>simp[binOp]
   ·exact SI hu a b 9999 w
  ·exact h.elim
 case h_3 a b=>
  cases op<;>simp only at h
  ·exact⟨_,rfl,h⟩
  ·exact⟨_,rfl,h⟩
 ·exact h.elim
theorem Bw {c:CK}{a:Addr}{h:Hp}{K:c.T->Prop}(hl:xL c a h K):∃x,cell h a=some (c.v x)/\K x:=by
 cases c<;>exact hl
theorem BZ {P:Program}{w:World}{a:Addr}{v:Value}(h:cell w.heap a=some v):(load a).run P w=.ok v w:=by
 have:w.cell? a=some v:=h;simp[this]
theorem Dy {P:Program}{w:World}:∀{cs:List CK} {a:Addr} {i:Nat} {K:List Value->Prop},ot cs a i w.heap K →
 ∃vs,vs.length=cs.length/\K vs/\∀acc,(loadCellsFrom a i cs.length acc).run P w=.ok (acc++vs.toArray) w
 | [],a,i,K,h=>⟨[],rfl,h,λacc=>by simp[loadCellsFrom]⟩
 | c::cs,a,i,K,h=>by
  obtain⟨x,hx,hK⟩:=Bw h;obtain⟨vs,d,b,e⟩:=Dy (P:=P) hK;refine⟨c.v x::vs,by simp[d],b,λacc=>?_⟩;simp only[zV,loadCellsFrom,Sem.run_bind,BZ hx,Result.andThen_ok,e]
  congr 1
  apply Array.ext';simp
theorem Vq {P:Program}{t:Nat}{d:TypeDesc}(h:P.underlying t=some d)(w:World):(isAgg t).run P w=.ok (UO d) w:=by
 simp only[isAgg,Sem.run_bind,run_underlying h,Result.andThen_ok];cases d<;>rfl
theorem JZ {P:Program}{t:Nat}{c:CK}(h:kH P t=some (.one c)):∃d,P.underlying t=some d/\UO d=false:=by
 unfold kH at h;split at h
 ·rename_i d hd;refine⟨d,hd,?_⟩;cases e:UO d
  ·rfl
  ·rw[e]at h;simp at h
 ·cases h
theorem E3 {P:Program}{t:Nat}{c:List CK}(h:kH P t=some (.agg c)):∃d,P.underlying t=some d/\UO d=true:=by
 unfold kH at h;split at h
 ·rename_i d hd;refine⟨d,hd,?_⟩;cases e:UO d
  ·rw[e]at h;simp at h
  ·rfl
 ·cases h
theorem O6 {P:Program}{t ty:Nat}{x:Value}{K:Value->Prop}{w:World}(h:l8 P t x w.heap K) :
 ∃v,(Builtin.len_ #[t] ty #[x]).run P w=.ok v w/\K v:=by
 unfold l8 at h;split at h
 case h_1 e a n c hu=>exact⟨_,by simp[Builtin.len_,run_underlying hu,goInt],h⟩
 case h_2 s hu=>exact⟨_,by simp[Builtin.len_,run_underlying hu,goInt],h⟩
 case h_3 n e y hu=>exact⟨_,by simp[Builtin.len_,run_underlying hu,goInt],h⟩
 case h_4 kt et m hu=>
  split at h
  case h_1 k c hk hs=>
   obtain⟨l,d,g⟩:=h;cases m with
   | none=>simp only[jO]at d;subst d;exact⟨_,by simp[Builtin.len_,run_underlying hu,goInt],g⟩
   | some r=>
    obtain⟨p,i,j,u,_⟩:=d;have b:p.size=l.length:=by simpa using congrArg List.length u
    refine⟨_,?_,g⟩;simp[Builtin.len_,run_underlying hu,goInt,getObj,Sem.run,j,b]
  ·exact h.elim
 ·exact h.elim
theorem AB {P:Program}{w:World}:∀{vs:List Value} {v:Value} {b:Bool} {K:Value->Prop},qk b v vs K →
 ∃z,(vs.foldlM (if b then Builtin.max2 else Builtin.min2) v).run P w=.ok z w/\K z
 | [],v,b,K,h=>⟨v,by simp,by simpa[qk]using h⟩
 | u::vs,v,b,K,h=>by
  cases v<;>cases u<;>simp only[qk]at h<;>try exact h.elim
  case int.int k x k' y=>
   obtain⟨z,hz,hK⟩:=AB h;refine⟨z,?_,hK⟩;cases b
   ·simpa[Builtin.min2]using hz
   ·simpa[Builtin.max2]using hz
theorem Qk {ρ:Env}{a:Act}(hf:∀x v,ev ρ x=some v->a.eval x=v):∀{os:List Operand} {vs:List Value},rf ρ os=some vs->os.map a.eval=vs
 | [],vs,h=>by simp[rf]at h;simp[h]
 | o::os,vs,h=>by
  simp only[rf]at h;split at h
  ·rename_i v vs' h1 h2;cases h;simp[hf _ _ h1,Qk hf h2]
  ·cases h
theorem UI {ρ:Env}{a:Act}(hf:∀x v,ev ρ x=some v->a.eval x=v):∀{os:List (Nat×Operand)} {vs:List (Nat×Value)},GN ρ os=some vs->os.map (λ(i,x)=>(i,a.eval x))=vs
 | [],vs,h=>by simp[GN]at h;simp[h]
 | (i,o)::os,vs,h=>by
  simp only[GN]at h;split at h
  ·rename_i v vs' h1 h2;cases h;simp[hf _ _ h1,UI hf h2]
  ·cases h
theorem F5 {k:IntKind}{n:Int}{c:CK}:∀(es:List MapEntry) (l:List (Int×c.T)) (i:Nat),
 es.map (λe=>(e.key,e.val))=l.map (λx=>(Value.int k x.1,c.v x.2)) →
 Instr.findNow (.int k) (.int k n) es i=some (match l.findIdx? (λx=>x.1==n)with|some j=>some (i+j,match l[j]? with|some x=>c.v x.2|none=>undef)|none=>none)
 | [],l,i,h=>by
  cases l with
  | nil=>simp[Instr.findNow]
  | cons x l=>simp at h
 | e::es,[],i,h=>by simp at h
 | e::es,x::l,i,h=>by
  simp only[zX,List.cons.injEq,Prod.mk.injEq]at h;obtain⟨⟨h1,h2⟩,h3⟩:=h;have a:=F5 (n:=n) es l (i+1) h3;simp only[Instr.findNow,h1,Instr.sameNow,zT];by_cases hx:n=x.1
  ·have e1:(n==x.1)=true:=by simpa using hx
   have e2:(x.1==n)=true:=by simpa using hx.symm
   simp[wN,e1,e2,h2]
  ·have e1:(n==x.1)=false:=by simpa using hx
   have e2:(x.1==n)=false:=by simpa using λh=>hx h.symm
   simp only[e1,a,wN,e2];cases List.findIdx? (λx=>x.1==n) l with
   | none=>simp
   | some j=>simp;omega
theorem Vd {P:Program}{kt:Nat}{k:IntKind}(hk:P.underlying kt=some (.int k)){n:Int}{c:CK}{es:List MapEntry}{l:List (Int×c.T)}
 (he:es.map (λe=>(e.key,e.val))=l.map (λx=>(Value.int k x.1,c.v x.2))) (w:World) :
 (Instr.findKey kt (.int k n) es).run P w=.ok (match l.findIdx? (λx=>x.1==n)with|some j=>some (j,match l[j]? with|some x=>c.v x.2|none=>undef)|none=>none) w:=by
 simp[Instr.findKey,run_underlying hk,F5 es l 0 he]
theorem LQ {P:Program}{kt:Nat}{k:IntKind}(hk:P.underlying kt=some (.int k))(b:Bool)(n:Int)(d:Nat)(w:World) :
 (Instr.checkKey b (d+1) kt (.int k n)).run P w=.ok () w:=by
 simp[Instr.checkKey,run_underlying hk]
theorem Kb {P:Program}{kt:Nat}{k:IntKind}(hk:P.underlying kt=some (.int k))(b:Bool)(n:Int)(w:World) :
 (Instr.checkKey b 10000 kt (.int k n)).run P w=.ok () w:=LQ hk b n 9999 w
theorem MR {α:Type}(l:List (Int×α))(n:Int):cB l n=(l.findIdx? (λx=>x.1==n)).bind λj=>(l[j]?).map (·.2):=by
 induction l with
 | nil=>rfl
 | cons x l ih=>
  simp only[cB,uP,wN]at *;cases h:x.1==n
  ·simp only[ih];cases List.findIdx? (λx=>x.1==n) l<;>simp
  ·simp
theorem U8 {α:Type}{l:List (Int×α)}{n:Int}{j:Nat}(h:l.findIdx? (λx=>x.1==n)=some j):∃x,l[j]?=some x/\x.1=n:=by
 rw[pd]at h;obtain⟨b,a,_⟩:=h;exact⟨l[j],by simp[b],by simpa using a⟩
theorem ψ {P:Program}{t:Nat}{x i:Value}{ok:Bool}{K:Value->Prop}{w:World}(h:Am P t x i ok w.heap K) :
 ∃v,(Instr.lookup t x i ok).run P w=.ok v w/\K v:=by
 unfold Am at h;split at h
 case h_2=>exact h.elim
 rename_i kt et m k n hu;split at h
 case h_2=>exact h.elim
 rename_i k' c ti hk hs hi;split at h
 case h_2=>exact h.elim
 rename_i z hz;split at h
 case isFalse=>exact h.elim
 rename_i e;subst e;obtain⟨A,a,l,b,u⟩:=UZ h;refine⟨_,?_,u⟩;cases m with
 | none=>
  simp only[jO]at b;subst b;simp only[Instr.lookup,Sem.run_bind,run_underlying hu,Result.andThen_ok,Sem.run_pure,Kb hk,Vd (c:=c) (l:=[]) hk (rfl:List.map _ (#[]:Array MapEntry).toList=_),List.findIdx?_nil,V2 hi hz];cases ok<;>simp[cB,a]
 | some r=>
  obtain⟨B,g,p,s,_⟩:=b;simp only[Instr.lookup,Sem.run_bind,run_underlying hu,Result.andThen_ok,Sem.run_pure,Kb hk,getObj,Sem.run,p,Vd hk s,MR];cases hf:l.findIdx? (λx=>x.1==n)with
  | none=>cases ok<;>simp[V2 hi hz,a]
  | some j=>
   obtain⟨y,d,_⟩:=U8 hf;cases ok<;>simp[d]
theorem JV (off:Nat):∀(vs:List Value) (k:Nat) (cs:Array Value),off+k+vs.length<=cs.size →
 ((vs.zipIdx k).foldl (λcs (c,j)=>cs.setIfInBounds (off+j) c) cs).toList=cs.toList.take (off+k)++vs++cs.toList.drop (off+k+vs.length)
 | [],k,cs,h=>by simp
 | v::vs,k,cs,h=>by
  simp only[List.zipIdx_cons,lp];rw[JV off vs (k+1) _ (by simp only[Array.size_setIfInBounds,zV]at *;omega)];simp only[zV]at h;have hlt:off+k<cs.toList.length:=by simp;omega
  simp only[Array.toList_setIfInBounds,zV];apply zp;intro m;simp only[List.getElem?_append,zL,nZ,zR,zY,oh,zn,List.getElem?_cons,zV]
  grind
theorem Hr (ZB:Nat->Option (Nat×Nat)):∀(ps:List (Nat×Value)) (cells:List Value) (cs:List Value),r9 ZB cells ps=some cs->Instr.fill ZB cells.toArray ps=some cs.toArray
 | [],cells,cs,h=>by simp[r9]at h;simp[Instr.fill,h]
 | (i,v)::rest,cells,cs,h=>by
  simp only[r9]at h;simp only[Instr.fill];cases hp:ZB i with
  | none=>rw[hp]at h;cases h
  | some os=>
   obtain⟨off,size⟩:=os;rw[hp]at h;simp only at h ⊢;split at h
   ·cases h
   ·rename_i hc;simp only[not_or,Decidable.not_not,Nat.not_lt]at hc;obtain⟨a,b⟩:=hc;rw[zA (by simp[a];omega)];have:=JV off v.cells.toList 0 cells.toArray aE;have e:(v.cells.zipIdx.foldl (λcs (c,j)=>cs.setIfInBounds (off+j) c) cells.toArray)=(cells.take off++v.cells.toList++cells.drop (off+size)).toArray:=by
     apply Array.ext';rw[←Array.foldl_toList,Array.toList_zipIdx,this];simp[a]
    rw[e];exact Hr ZB rest _ _ h
theorem Fa {P:Program}{w:World}:∀(fs:List Field),(fs.all λf=>(P.info? f.type).isSome)=true →
 (fs.mapM λf=>(do pure (f.offset,←sizeOf f.type):Sem (Nat×Nat))).run P w=.ok (fs.map λf=>(f.offset,P.cellsOf f.type)) w
 | [],_=>by simp
 | f::fs,h=>by
  simp only[uR,zF]at h;have ih:=Fa (P:=P) (w:=w) fs h.2;simp only[List.mapM_cons,Sem.run_bind,Kd h.1,Result.andThen_ok,Sem.run_pure,ih,zX]
theorem C5 {raw:Nat->Bool}:∀{ps:List (Nat×Value)} {A:Prop},mg raw ps A->A/\∀ZB cells,Instr.fill ZB cells (vS raw ps)=Instr.fill ZB cells ps
 | [],A,h=>⟨h,λ_ _=>rfl⟩
 | (i,v)::ps,A,h=>by
  simp only[mg]at h;cases hr:raw i
  ·rw[hr]at h;obtain⟨hA,ih⟩:=C5 h;exact⟨hA,λZB cells=>by simp only[vS,Instr.fill,ih,hr,cond_false]⟩
  ·rw[hr]at h;simp only[cond_true]at h;obtain⟨hA,ih⟩:=C5 h.2;have e:(Value.agg #[v]).cells=v.cells:=by
    rcases h.1 with rfl|⟨t,u,rfl⟩<;>rfl
   exact⟨hA,λZB cells=>by simp only[vS,Instr.fill,ih,hr,cond_true,e]⟩
theorem Wg2 {P:Program}{t:Nat}{ps:Array (Nat×Value)}{K:Value->Prop}{w:World}(h:oB P t ps.toList K) :
 ∃v,(Instr.build t ps).run P w=.ok v w/\K v:=by
 unfold oB at h;split at h
 case h_1 p fs hi hu=>
  split at h
  case h_2=>exact h.elim
  rename_i z hz;obtain⟨h,g⟩:=C5 h;split at h
  case h_2=>exact h.elim
  rename_i cs hf;rw[WG]at h;obtain⟨a,u⟩:=h;refine⟨_,?_,u⟩;have r:=Fa (P:=P) (w:=w) fs.toList a;have d:(fs.mapM λf=>(do pure (f.offset,←sizeOf f.type):Sem (Nat×Nat))).run P w=.ok (fs.map λf=>(f.offset,P.cellsOf f.type)) w:=by
   rw[Array.mapM_eq_mapM_toList];simp only[Sem.run_map,r,Result.andThen_ok]
   congr 1
   apply Array.ext';simp
  have m:(λi=>(fs.map λf=>(f.offset,P.cellsOf f.type))[i]?)=Cv P fs:=by
   funext i
   simp only[Cv,Array.getElem?_map];cases hfi:fs[i]? with
   | none=>simp
   | some f=>
    have b:f∈fs.toList:=by
     have:=DL hfi;simpa using this
    have:=kK.1 a f b;obtain⟨p,j⟩:=qh.1 this;simp[j,Program.cellsOf]
  have:=Hr _ _ _ _ hf;rw[g]at this;simp only[Instr.build,Sem.run_bind,V2 hi hz,Result.andThen_ok,run_underlying hu,d,m];have e:z.cells.toList.toArray=z.cells:=by simp
  rw[e]at this;simp[this]
 case h_2 p n e hi hu=>
  split at h
  case h_2=>exact h.elim
  rename_i z te hz hte;split at h
  case h_2=>exact h.elim
  rename_i cs hf;refine⟨_,?_,h⟩;have:=Hr _ _ _ _ hf;have e1:z.cells.toList.toArray=z.cells:=by simp
  rw[e1]at this;have s:(sizeOf e).run P w=.ok te.size w:=by simp[sizeOf,UA hte]
  simp only[Instr.build,Sem.run_bind,V2 hi hz,Result.andThen_ok,run_underlying hu,s];simp[this]
 ·exact h.elim
theorem Ws {o:Option Value}{K:Value->Prop}(h:wv o K):∃v,o=some v/\K v:=by
 cases o with
 | none=>exact h.elim
 | some v=>exact⟨v,rfl,h⟩
theorem TG {P:Program}{t off:Nat}{cs:Array Value}{K:Value->Prop}{w:World}(h:uy P t cs.toList off K) :
 ∃v,(part t cs off).run P w=.ok v w/\K v:=by
 unfold uy at h;split at h
 case h_2=>exact h.elim
 rename_i d ti hu hi;cases hd:UO d
 ·rw[hd]at h;obtain⟨v,a,b⟩:=Ws h;refine⟨v,?_,b⟩;have:cs[off]?=some v:=by simpa using a
  simp[part,Vq hu,hd,this]
 ·rw[hd]at h;refine⟨_,?_,h⟩;simp only[part,Sem.run_bind,Vq hu,hd,Result.andThen_ok,sizeOf,UA hi,zT,Sem.run_pure]
  congr 2
  apply Array.ext';simp
theorem KK {P:Program}{w:World}{z:Int}{y:Nat}{code:BoundsCode}(h0:0<=z)(h1:z<=y):(Instr.sliceBound (.int .i64 z) y code).run P w=.ok z.toNat w:=by
 simp[Instr.sliceBound,asIntOf,h0,h1]
theorem Jv {o:Option Value}{d l:Int}(h:(match o with|none=>some d|some (.int .i64 z)=>some z|_=>none)=some l):(o=none/\l=d)\/o=some (.int .i64 l):=by
 split at h
 ·simp at h;exact .inl ⟨rfl,h.symm⟩
 ·simp at h;subst h;exact .inr rfl
 ·cases h
theorem WgR {P:Program}{t:Nat}{x:Value}{lo hi mx:Option Value}{K:Value->Prop}{w:World}(h:ou P t x lo hi mx K) :
 ∃v,(Instr.sliceAt t x lo hi mx).run P w=.ok v w/\K v:=by
 unfold ou at h;split at h
 case h_2=>exact h.elim
 rename_i e a n c hu;split at h
 case h_2=>exact h.elim
 rename_i ti hi';simp only at h;split at h
 case h_2=>exact h.elim
 rename_i l hh m hlo hhi hmx;obtain⟨g,u,s,j,p⟩:=h;refine⟨_,?_,p⟩;simp only at j;have ir:(sizeOf e).run P w=.ok ti.size w:=by simp[sizeOf,UA hi']
 have r:(Instr.sliceBounds true n c lo hi mx).run P w=.ok (l.toNat,hh.toNat,m.toNat) w:=by
  have d:(mx=none/\m=c)\/(mx=some (.int .i64 m)/\hi≠none):=by
   split at hmx
   ·simp at hmx;exact .inl ⟨rfl,hmx.symm⟩
   ·simp at hmx;subst hmx;exact .inr ⟨rfl,by simp⟩
   ·cases hmx
  have i:=Jv hlo;have b:=Jv hhi;clear hlo hhi hmx;rcases d with⟨rfl,rfl⟩|⟨rfl,hne⟩<;>rcases b with⟨rfl,rfl⟩|rfl
  case inr.inl=>exact absurd rfl hne
  all_goals rcases i with⟨rfl,rfl⟩|rfl
  ·simp[Instr.sliceBounds]
  ·have:=KK (P:=P) (w:=w) (z:=l) (y:=n) (code:=.sliceB) g O;simp[Instr.sliceBounds,this]
  ·have:=KK (P:=P) (w:=w) (z:=hh) (y:=c) (code:=.sliceAcap) O O;simp[Instr.sliceBounds,this]
  ·have:=KK (P:=P) (w:=w) (z:=hh) (y:=c) (code:=.sliceAcap) O O;have:=KK (P:=P) (w:=w) (z:=l) (y:=hh.toNat) (code:=.sliceB) O O;simp[Instr.sliceBounds, *]
  ·have:=KK (P:=P) (w:=w) (z:=m) (y:=c) (code:=.slice3Acap) O O;have:=KK (P:=P) (w:=w) (z:=hh) (y:=m.toNat) (code:=.slice3B) O O;simp[Instr.sliceBounds, *]
  ·have:=KK (P:=P) (w:=w) (z:=m) (y:=c) (code:=.slice3Acap) O O;have:=KK (P:=P) (w:=w) (z:=hh) (y:=m.toNat) (code:=.slice3B) O O;have:=KK (P:=P) (w:=w) (z:=l) (y:=hh.toNat) (code:=.slice3C) O O;simp[Instr.sliceBounds, *]
 simp only[Instr.sliceAt,Instr.slice,Sem.run_bind,run_underlying hu,Result.andThen_ok,r,ir,Sem.run_pure]
theorem DP {P:Program}{op:BinOp}{t:Nat}{x y:Operand}{a b:Value}(w:World)(h:(∀cs,a≠.agg cs)/\a≠.nilIface):(eqGuard op t x y a b).run P w=.ok () w:=by
 unfold eqGuard;cases op<;>simp
 all_goals (cases a<;>first|rfl | (simp at h))
theorem Wl3 {P:Program}{op:BinOp}{t:Nat}{x y:Value}{K:Value->Prop}(h:mq P op t x y K):(∀cs,x≠.agg cs)/\x≠.nilIface:=by
 unfold mq at h;split at h<;>first|exact absurd h id | (constructor<;>simp)
theorem Nl {P:Program}{op:BinOp}{t:Nat}{x y:Value}{K:Value->Prop}(h:mh P op t x y K):∀cs,x≠.agg cs:=by
 unfold mh at h;split at h
 case h_4=>rcases h.1 with rfl|⟨t',u,rfl⟩<;>simp
 all_goals first|exact absurd h id|simp
theorem Ox {P:Program}{op:BinOp}{t:Nat}{x:Operand}{c:Value}{a b:Value}(w:World)(h:∀cs,a≠.agg cs):(eqGuard op t x (.const c) a b).run P w=.ok () w:=by
 unfold eqGuard;cases op<;>simp
 all_goals (cases a<;>first|rfl|exact absurd rfl (h _) | (cases b<;>simp))
theorem PJ {y:Operand}(h:tj y=true):∃c,y=.const c:=by
 unfold tj at h;split at h<;>first|exact⟨_,rfl⟩|cases h
theorem xJ {P:Program}{s f:Nat}{K:Field->Prop}(h:oK P s f K):∃fs fd,P.underlying s=some (.struct fs)/\fs[f]?=some fd/\K fd:=by
 unfold oK at h;split at h
 ·split at h
  ·exact⟨_,_,by assumption,by assumption,h⟩
  ·exact h.elim
 ·exact h.elim
theorem OY {P:Program}{t:Nat}(h:P.cellsOf t≠0):(P.info? t).isSome=true:=by
 unfold Program.cellsOf at h;cases hi:P.info? t with
 | none=>rw[hi]at h;simp at h
 | some i=>rfl
theorem Ch {ρ:Env}{a:Act}(hf:∀x v,ev ρ x=some v->a.eval x=v){o:Option Operand}{v:Option Value}(h:uQ ρ o=some v):o.map a.eval=v:=by
 cases o with
 | none=>simp[uQ]at h;simp[h]
 | some o=>
  simp only[uQ,qA]at h;obtain⟨u,b,rfl⟩:=h;simp[hf _ _ b]
theorem V9 {P:Program}{t:Nat}{d:TypeDesc}{cs:Array Value}{off:Nat}{v:Value}{w:World}(hd:P.underlying t=some d)(hag:UO d=false)(h:cs.toList[off]?=some v):(part t cs off).run P w=.ok v w:=by
 have a:cs[off]?=some v:=by simpa using h
 simp[part,Vq hd,hag,a]
theorem Cg {P:Program}{xs ys:Array Value}(d:Nat):∀(fs:List Field) (b:Bool),pw P xs.toList ys.toList fs=some b->∀w,(Op.eqFields (d+1) xs ys fs).run P w=.ok b w
 | [],b,h,w=>by simp[pw]at h;subst h;simp[Op.eqFields]
 | f::fs,b,h,w=>by
  simp only[pw]at h;cases hn:f.name == "_"
  ·rw[hn]at h;simp only[cond_false]at h;have hne:f.name ≠ "_" := by simpa using hn
   split at h
   ·rename_i k0 k a k' b' r hu hx hy hr;split at h
    case isFalse=>cases h
    rename_i e;subst e;simp only[Option.some.injEq]at h;subst h;have ih:=Cg (d:=d) fs r hr w;simp only[Op.eqFields,hne,ne_eq,not_false_eq_true,zT,Sem.run_bind,V9 hu rfl hx,V9 hu rfl hy,Result.andThen_ok,run_equalIn_int w d f.type k k0 a b' hu];cases hab:a==b'<;>simp[ih]
   ·rename_i a b' r hu hx hy hr;simp only[Option.some.injEq]at h;subst h;have ih:=Cg (d:=d) fs r hr w;simp only[Op.eqFields,hne,ne_eq,not_false_eq_true,zT,Sem.run_bind,V9 hu rfl hx,V9 hu rfl hy,Result.andThen_ok,run_equalIn_bool' w d f.type a b' hu];cases hab:a==b'<;>simp[ih]
   ·cases h
  ·rw[hn]at h;cases h
theorem CN {P:Program}{e:TypeId}(hC:P.cellsOf e=1){xs ys:Array Value}(d:Nat):∀(is:List Nat) (b:Bool),p7 P e xs.toList ys.toList is=some b->∀w,(Op.eqItems (d+1) e (P.cellsOf e) xs ys is).run P w=.ok b w
 | [],b,h,w=>by simp[p7]at h;subst h;simp[Op.eqItems]
 | i::is,b,h,w=>by
  simp only[p7]at h;split at h
  ·rename_i k0 k a k' b' r hu hx hy hr;split at h
   case isFalse=>cases h
   rename_i e';subst e';simp only[Option.some.injEq]at h;subst h;have ih:=CN hC d is r hr w;simp only[Op.eqItems,hC,nY,Sem.run_bind,V9 hu rfl hx,V9 hu rfl hy,Result.andThen_ok,run_equalIn_int w d e k k0 a b' hu];rw[hC]at ih;cases hab:a==b'<;>simp[ih]
  ·rename_i t0 p r hu hx hy hr;simp only[Option.some.injEq]at h;subst h;have ih:=CN hC d is r hr w;simp only[Op.eqItems,hC,nY,Sem.run_bind,V9 hu rfl hx,V9 hu rfl hy,Result.andThen_ok,EC hu p d w];rw[hC]at ih;cases hab:p.isNone<;>simp[ih]
  ·cases h
theorem Θ {P:Program}{op:BinOp}{t:Nat}{xs ys:Array Value}{K:Value->Prop}(h:oC P op t xs.toList ys.toList K)(x y:Operand)(w:World) :
 ∃v,(do eqGuard op t x y (.agg xs) (.agg ys);binOp op t (.agg xs) (.agg ys):Sem Value).run P w=.ok v w/\K v:=by
 have fin:∀b:Bool,(Op.equalIn 10000 t (.agg xs) (.agg ys)).run P w=.ok b w->P.eqGuardType P.depth t=false->nN op b K →
  ∃v,(do eqGuard op t x y (.agg xs) (.agg ys);binOp op t (.agg xs) (.agg ys):Sem Value).run P w=.ok v w/\K v:=by
  intro b a hgt h;have j:=run_eqGuard_agg (P:=P) w op t x y xs ys hgt;cases op<;>simp only[nN]at h
  ·exact⟨_,by simp only[Sem.run_bind,j,Result.andThen_ok,run_eql_struct,a],h⟩
  ·exact⟨_,by simp only[Sem.run_bind,j,Result.andThen_ok,run_neq_struct,a],h⟩
 unfold oC at h;split at h
 case h_1 fs hu=>
  rw[WG]at h;obtain⟨d,h⟩:=h;simp only[zF,mS]at d;split at h
  case h_2=>exact h.elim
  rename_i b hb;have g:P.fieldsOf t=fs:=by simp[Program.fieldsOf,hu]
  have a:(Op.equalIn 10000 t (.agg xs) (.agg ys)).run P w=.ok b w:=by
   have:=run_equalIn_struct (P:=P) w 9999 t xs ys (by rw[g];exact hu) d.1;rw[g]at this;exact this.trans (Cg 9998 fs.toList b hb w)
  exact fin b a d.2 h
 case h_2 n e hu=>
  rw[WG]at h;obtain⟨d,h⟩:=h;simp only[zF,mS,za]at d;split at h
  case h_2=>exact h.elim
  rename_i b hb;obtain⟨i,m⟩:=qh.1 d.2.1;exact fin b ((run_equalIn_array (P:=P) w 9999 xs ys hu m).trans (CN d.2.2 9998 _ b hb w)) d.1 h
 case h_3=>exact h.elim
theorem PF {P:Program}{op:BinOp}{t:Nat}{p q:Option Addr}{K:Value->Prop}{w:World}(h:q8 P op t p q w.heap K):∃v,(binOp op t (.pointer p) (.pointer q)).run P w=.ok v w/\K v:=by
 unfold q8 at h;split at h
 case h_2=>exact h.elim
 rename_i e hu;rw[WG]at h;obtain⟨s,h⟩:=h;simp only[zF,bne_iff_ne,ne_eq]at s;obtain⟨i,m⟩:=qh.1 s.1;have ir:i.size≠0:=by have:=s.2;simp only[Program.cellsOf,m]at this;exact this
 have key:∀(K:Bool->Prop),yW w.heap p q K->∃b,(∀d:Nat,(Op.equalIn (d+1) t (.pointer p) (.pointer q)).run P w=.ok b w)/\K b:=λK g=>by
  cases p with
  | none=>exact⟨_,λd=>by simp[Op.equalIn,run_underlying hu],g⟩
  | some a=>
   cases q with
   | none=>exact⟨_,λd=>by simp[Op.equalIn,run_underlying hu],g⟩
   | some b=>
    unfold yW at g;simp only at g;by_cases hab:a=b
    ·subst hab;rw[zB rfl]at g;exact⟨true,λd=>by simp[Op.equalIn,run_underlying hu,sizeOf,typeInfo,m,run_sameAddr_same,ir],g⟩
    ·rw[zA hab]at g;obtain⟨⟨⟨B,A,u⟩,z,y,x⟩,j⟩:=g;exact⟨false,λd=>by simp[Op.equalIn,run_underlying hu,sizeOf,typeInfo,m,ir,run_sameAddr_other w hab u x],j⟩
 cases op<;>simp only at h
 case eql=>
  obtain⟨b,r,j⟩:=key _ h;exact⟨_,by simp only[binOp];simp[Op.equal,Op.maxDepth,r 9999],j⟩
 case neq=>
  obtain⟨b,r,j⟩:=key _ h;exact⟨_,by simp only[binOp];simp[Op.equal,Op.maxDepth,r 9999],j⟩
theorem yq {P:Program}{ρ:Env}{K:Value->Prop}{a:Act}{w:World}(hf:∀x v,ev ρ x=some v->a.eval x=v)(o:Oper)(hk:qK P o.op ρ w.heap K) :
 ∃v,(execOp a.eval o).run P w=.ok (.value v) w/\K v:=by
 obtain⟨dst,op,ty,pos,Z,X⟩:=o;simp only at hk;have j:∀{s:Sem Value},(∃v,s.run P w=.ok v w/\K v)->∃v,(do pure (Next.value (←s)):Sem Next).run P w=.ok (.value v) w/\K v:=by
  rintro s ⟨v,p,g⟩;exact⟨v,by simp[p],g⟩
 unfold qK at hk;split at hk
 case h_1 x=>
  obtain⟨v,p,g⟩:=Ws hk;exact⟨v,by simp[execOp,hf _ _ p],g⟩
 case h_2 x=>
  obtain⟨v,p,g⟩:=Ws hk;exact⟨v,by simp[execOp,hf _ _ p],g⟩
 case h_3 c x y=>
  obtain⟨v,p,g⟩:=Ws hk;split at g
  ·obtain⟨u,B,g⟩:=Ws g;exact⟨u,by simp[execOp,hf _ _ p,asBool,hf _ _ B],g⟩
  ·obtain⟨u,B,g⟩:=Ws g;exact⟨u,by simp[execOp,hf _ _ p,asBool,hf _ _ B],g⟩
  ·exact g.elim
 case h_4 t x=>
  obtain⟨v,p,g⟩:=Ws hk;simp only[execOp,hf _ _ p];apply j;split at g
  case h_1 M c G=>
   rw[WG]at g;obtain⟨d,hd,J⟩:=JZ G;obtain⟨x,r,g⟩:=Bw g.2;exact⟨_,by simp only[Instr.loadAt,Instr.sureAddr,loadVar,Sem.run_bind,Sem.run_pure,Result.andThen_ok,Vq hd,J];simpa using BZ r,g⟩
  case h_2 M V G=>
   rw[WG,WG]at g;obtain⟨z,A,g⟩:=g;obtain⟨d,hd,J⟩:=E3 G;obtain⟨vs,hl,g,hr⟩:=Dy (P:=P) g;have Y:P.cellsOf t=V.length:=by simpa using z
   refine⟨_,?_,g⟩;simp only[Instr.loadAt,Instr.sureAddr,loadVar,Sem.run_bind,Sem.run_pure,Result.andThen_ok,Vq hd,J,zT,Kd A,loadCells,Y,hr];simp
  ·exact g.elim
 case h_5 x=>
  obtain⟨v,p,g⟩:=Ws hk;simp only[execOp,hf _ _ p];split at g
  ·obtain⟨M,rfl,g⟩:=g;exact⟨_,by simp,g⟩
  ·exact⟨_,by simp,g⟩
  ·exact g.elim
 case h_6 op t x y yt=>
  obtain⟨E,r,hk⟩:=Ws hk;obtain⟨vy,hy,hk⟩:=Ws hk;simp only[execOp,hf _ _ r,hf _ _ hy];apply j;unfold wz at hk;cases hn:tj y
  ·rw[hn]at hk;simp only[cond_false]at hk;split at hk
   ·exact Θ hk x y w
   ·obtain⟨v,p,g⟩:=PF hk;exact⟨v,by simp[DP (x:=x) (y:=y) (a:=.pointer _) (b:=.pointer _) w ⟨λV e=>(by cases e),λe=>(by cases e)⟩,p],g⟩
   obtain⟨v,p,g⟩:=Po hk w;exact⟨v,by simp[DP w (Wl3 hk),p],g⟩
  ·rw[hn]at hk;simp only[cond_true]at hk;obtain⟨v,p,g⟩:=R7 hk w;obtain⟨c,hc⟩:=PJ hn;have hg:=Ox (P:=P) (op:=op) (t:=t) (x:=x) (c:=c) (b:=vy) w (Nl hk);exact⟨v,by rw[hc];simp[hg,p],g⟩
 case h_7 op ty' x=>
  obtain⟨E,r,hk⟩:=Ws hk;simp only[execOp,hf _ _ r];apply j;split at hk
  ·exact⟨_,by simp[Op.unary],hk⟩
  ·exact⟨_,by simp[Op.unary,Op.intArith],hk⟩
  ·exact hk.elim
 case h_8 s d x=>
  obtain⟨E,r,hk⟩:=Ws hk;simp only[execOp,hf _ _ r];apply j;split at hk
  ·rename_i z A;exact⟨_,by simp[convert,run_underlying z,run_underlying A,Conv.intToInt],hk⟩
  ·rename_i z A;exact⟨_,by simp[convert,run_underlying z,run_underlying A],hk⟩
  ·rename_i z A;split at hk
   ·rename_i B;obtain⟨b,hr,g⟩:=Rb (P:=P) hk;exact⟨_,by simpa[convert,run_underlying z,run_underlying A,run_underlying B]using hr,g⟩
   ·exact hk.elim
  ·exact hk.elim
 case h_9 s x f=>
  obtain⟨E,r,hk⟩:=Ws hk;obtain⟨fs,fd,G,L,hk⟩:=xJ hk;simp only[execOp,hf _ _ r];apply j;split at hk
  ·rename_i M;rw[WG]at hk;have Q:P.cellsOf fd.type≠0:=by simpa using hk.1
   refine⟨_,?_,hk.2⟩;simp only[Instr.fieldAt,Sem.run_bind,run_underlying G,Result.andThen_ok,L,Instr.sureAddr,Sem.run_pure,fieldPlace,Kd (OY Q),Q,j4]
  ·exact hk.elim
 case h_10 s x f=>
  obtain⟨E,r,hk⟩:=Ws hk;obtain⟨fs,fd,G,L,hk⟩:=xJ hk;simp only[execOp,hf _ _ r];apply j;split at hk
  ·rename_i V;obtain⟨v,p,g⟩:=TG (w:=w) hk;refine⟨v,?_,g⟩;simp only[Instr.field,Sem.run_bind,run_underlying G,Result.andThen_ok,L,asAgg,Sem.run_pure,p]
  ·exact hk.elim
 case h_11 t x i=>
  obtain⟨E,r,hk⟩:=Ws hk;obtain⟨vi,F,hk⟩:=Ws hk;simp only[execOp,hf _ _ r,hf _ _ F];apply j;split at hk
  ·have B:=(by assumption:P.underlying t=some _);rw[WG]at hk;obtain⟨z,M,rfl,A,R,g⟩:=hk;refine⟨_,?_,g⟩;simp[Instr.indexAt,asIntOf,run_underlying B,Kd z,A,R]
  ·have B:=(by assumption:P.underlying t=some _);rw[WG]at hk;obtain⟨z,A,R,g⟩:=hk;refine⟨_,?_,g⟩;simp[Instr.indexAt,asIntOf,run_underlying B,Kd z,A,R,Instr.sureAddr]
  ·exact hk.elim
 case h_12 t x i=>
  obtain⟨E,r,hk⟩:=Ws hk;obtain⟨vi,F,hk⟩:=Ws hk;simp only[execOp,hf _ _ r,hf _ _ F];apply j;split at hk
  ·have B:=(by assumption:P.underlying t=some _);obtain⟨b,z,A,g⟩:=hk;refine⟨_,?_,g⟩;simp[Instr.index,asIntOf,run_underlying B,z,A]
  ·exact hk.elim
 case h_13 t x i ok=>
  obtain⟨E,r,hk⟩:=Ws hk;obtain⟨vi,F,hk⟩:=Ws hk;simp only[execOp,hf _ _ r,hf _ _ F];exact j (ψ hk)
 case h_14 t i=>
  obtain⟨E,r,hk⟩:=Ws hk;simp only[execOp,hf _ _ r];apply j;split at hk
  ·obtain⟨v,p,g⟩:=Ws hk;have S:=p;rw[yi]at S;exact⟨v,by simp[Instr.extract,S],g⟩
  ·exact hk.elim
 case h_15 fn x y=>
  split at hk
  ·rename_i va vb z A;have e1:=Qk hf z;have e2:=Qk hf A;refine⟨_,?_,hk⟩;have H:x.map a.eval=va.toArray:=by apply Array.ext';simpa using e1
   have W:y.map a.eval=vb.toArray:=by apply Array.ext';simpa using e2
   simp[execOp,Instr.makeFunc,H,W]
  ·exact hk.elim
 case h_16 t ps=>
  split at hk
  ·rename_i vs z;have e1:=UI hf z;have H:ps.map (λ(i,x)=>(i,a.eval x))=vs.toArray:=by apply Array.ext';simpa using e1
   simp only[execOp];apply j;rw[H];exact Wg2 (by simpa using hk)
  ·exact hk.elim
 case h_17 t x lo F mx=>
  obtain⟨E,r,hk⟩:=Ws hk;simp only[execOp,hf _ _ r];apply j;split at hk
  ·rename_i l h m z A R;rw[Ch hf z,Ch hf A,Ch hf R];exact WgR hk
  ·exact hk.elim
 case h_18 t x=>
  obtain⟨E,r,hk⟩:=Ws hk;rw[WG]at hk;simp only[execOp,hf _ _ r];exact⟨_,by simp[run_makeInterface w t E hk.1],hk.2⟩
 case h_19 x xt t=>
  obtain⟨E,r,hk⟩:=Ws hk;simp only[execOp,hf _ _ r];apply j;split at hk
  case h_2=>exact hk.elim
  rename_i fs ti V B F G;split at hk
  case h_2=>exact hk.elim
  rename_i zs hz;obtain⟨vs,b,p,g⟩:=hk.out;exact⟨_,LL B F (by simpa using hz) p w,g⟩
 case h_20 c=>
  obtain⟨U,D,N⟩:=c;simp only at hk;split at hk
  ·rename_i x t ha ht;have C:=Qk hf ha;have e1:D.map a.eval = #[x]:=by apply Array.ext';simpa using C
   have e2:N = #[t]:=by apply Array.ext';simpa using ht
   subst e2;obtain⟨v,p,g⟩:=O6 (ty:=ty) hk;refine⟨v,?_,g⟩;simp[execOp,resolve,e1,invoke,builtin,p]
  ·rename_i M l n t ha ht;have C:=Qk hf ha;have e1:D.map a.eval = #[.slice M l n]:=by apply Array.ext';simpa using C
   have e2:N = #[t]:=by apply Array.ext';simpa using ht
   subst e2;split at hk
   ·rename_i B;refine⟨_,?_,hk⟩;simp[execOp,resolve,e1,invoke,builtin,Builtin.cap_,run_underlying B,goInt]
   ·exact hk.elim
  ·rename_i x xs ha;have C:=Qk hf ha;have e1:D.map a.eval=(x::xs).toArray:=by apply Array.ext';simpa using C
   obtain⟨v,p,g⟩:=AB (P:=P) (w:=w) hk;refine⟨v,?_,g⟩;simp only[zT]at p;simp[execOp,resolve,e1,invoke,builtin,Builtin.max_,p]
  ·rename_i x xs ha;have C:=Qk hf ha;have e1:D.map a.eval=(x::xs).toArray:=by apply Array.ext';simpa using C
   obtain⟨v,p,g⟩:=AB (P:=P) (w:=w) hk;refine⟨v,?_,g⟩;simp only[zc,j4]at p;simp[execOp,resolve,e1,invoke,builtin,Builtin.min_,p]
  ·exact hk.elim
 ·exact hk.elim
def oA (P:Program):List TypeId->Option (List SK)
 | []=>some []
 | t::ts=>match kH P t,oA P ts with|some s,some ss=>some (s::ss)|_,_=>none
def Gn (P:Program)(f:Nat):Bool:=
 match P.funcs[f]? with
 | some fn=>!(fn.name == "runtime.NumGoroutine") && fn.body.isSome
 | none=>false
def tK (P:Program)(f:Nat)(args:List Value)(h:Hp)(K:aO):Prop:=
 ∀w:World,w.heap=h->∃b w',(callFunc f args.toArray).run P w=.ok (.value (.bool b)) w'/\ZT w w'/\K b w'.heap
def AQ (P:Program)(f:Nat)(args:List Value)(h:Hp)(K:Value->Hp->Prop):Prop:=
 match P.funcs[f]? with
 | some fn=>match oA P fn.resultTypes.toList with
  | some rs=>match Gn P f with
   | true=>We P f args.toArray rs h (lam (iO rs) λvs h'=>K (pack rs vs) h')
   | false=>match rs with
    | [.one .b]=>tK P f args h λb h'=>K (.bool b) h'
    | _=>False
  | none=>False
 | none=>False
def CY (P:Program)(v:Value)(name:String)(args:List Value)(ty:TypeId)(h:Hp)(K:Value->Hp->Prop):Prop:=
 match (match P.underlying ty with|some (.tuple ts)=>oA P ts.toList|_=>oA P [ty])with
 | some rs=>jB P v name args rs h (lam (iO rs) λvs h'=>K (pack rs vs) h')
 | none=>False
def CO (P:Program)(fv:Fv):Prop:=Gn P fv.f=true
def UE (P:Program)(fv:Fv)(args:List Value)(rs:List SK)(h:Hp)(R:eR (iO rs)):Prop:=
 CO P fv/\FZ P fv args rs h R
def DB (P:Program)(fv:Fv)(args:List Value)(ty:TypeId)(h:Hp)(K:Value->Hp->Prop):Prop:=
 match (match P.underlying ty with|some (.tuple ts)=>oA P ts.toList|_=>oA P [ty])with
 | some rs=>UE P fv args rs h (lam (iO rs) λvs h'=>K (pack rs vs) h')
 | none=>False
def Cw (a:Addr)(vs:List Value)(h:Hp)(K:aP):Prop:=
 match vs with
 | [v]=>eP a v h K
 | vs=>qH a h vs 0 K
def rX (P:Program)(t:TypeId)(K:IntKind->CK->Prop):Prop:=
 match P.underlying t with
 | some (.map kt et)=>match P.underlying kt,pV P et with
  | some (.int k),some (.one c)=>K k c
  | _,_=>False
 | _=>False
def C8 (P:Program)(t:TypeId)(len:Nat)(ps:List (Nat×Value))(K:TypeId->List Value->Prop):Prop:=
 match P.underlying t with
 | some (.slice e)=>match P.info? e with
  | some te=>match te.zero with
   | some z=>match len,ps with
    | 0,[]=>K e []
    | 0,_::_=>False
    | len+1,ps=>gT (Nat.ble ((len+1)*te.size) 16777216&&Nat.blt 0 ((len+1)*te.size)&&z.cells.size==te.size)
     (match r9 (λi=>some (i*te.size,te.size)) (List.replicate (len+1) z.cells.toList).flatten ps with
     | some cs=>K e cs
     | none=>False)
   | none=>False
  | none=>False
 | _=>False
def eK (P:Program)(o:Op)(ty:TypeId)(ρ:Env)(h:Hp)(K:Value->Hp->Prop):Prop:=
 match o with
 | .store t a x=>wv (ev ρ a) λva=>wv (ev ρ x) λvx=>match va with
  | .pointer (some a)=>bif wB P t then gT ((P.info? t).isSome&&P.cellsOf t==1) (iM vx/\eP a vx h λh'=>K undef h')
   else gT ((P.info? t).isSome&&vx.cells.size==P.cellsOf t) (yd vx.cells.toList (Cw a vx.cells.toList h λh'=>K undef h'))
  | _=>False
 | .alloc e=>match P.info? e with
  | some te=>match te.zero with
   | some z=>Nw (.cells z.cells e (0,0)) h λa h'=>K (.pointer (some a)) h'
   | none=>False
  | none=>False
 | .box e x=>wv (ev ρ x) λv=>bif wB P e then iM v/\Nw (.cells #[v] e (0,0)) h λa h'=>K (.pointer (some a)) h' else Nw (.cells v.cells e (0,0)) h λa h'=>K (.pointer (some a)) h'
 | .buildSlice t len ps=>match GN ρ ps.toList with
  | some vs=>C8 P t len vs λe cs=>Nw (.cells cs.toArray e (0,0)) h λa h'=>K (.slice (some a) len len) h'
  | none=>False
 | .makeMap t r=>match r with
  | none=>Nw (.map #[] 0) h λa h'=>K (.map (some a.block)) h'
  | some _=>False
 | .makeSlice t l c=>wv (ev ρ l) λvl=>wv (ev ρ c) λvc=>match P.underlying t,vl,vc with
  | some (.slice e),.int .i64 n,.int .i64 m=>match P.info? e with
   | some te=>match te.zero with
    | some z=>gT (z.cells.size==te.size&&Nat.blt 0 te.size) (Mk n m te.bytes e z.cells.toList h λs h'=>K (.slice s.a s.len s.cap) h')
    | none=>False
   | none=>False
  | _,_,_=>False
 | .range t x=>wv (ev ρ x) λv=>rX P t λki c=>match v with
  | .map m=>pG ki c m h λa h'=>K (.pointer (some a)) h'
  | _=>False
 | .mapUpdate t m k x=>wv (ev ρ m) λvm=>wv (ev ρ k) λvk=>wv (ev ρ x) λvx=>rX P t λki c=>match vm,vk with
  | .map m,.int k' n=>if ki=k' then p8 c vx λx=>jS ki c m n x h λh'=>K undef h' else False
  | _,_=>False
 | .call c=>match c.callee,rf ρ c.args.toList,c.argTypes.toList with
  | .value (.func f),some args,_=>AQ P f args h K
  | .value g,some args,_=>wv (ev ρ g) λvg=>p8 .fn vg λfv=>DB P fv args ty h K
  | .invoke r name,some args,_=>wv (ev ρ r) λvr=>CY P vr name args ty h K
  | .builtin .append,some [.slice sa sn sc,.slice xa xn xc],[t,t']=>match P.underlying t with
   | some (.slice e)=>match P.info? e with
    | some te=>match te.zero with
     | some z=>gT (Nat.beq t t'&&z.cells.size==te.size&&Nat.blt 0 te.size) (App ⟨sa,sn,sc⟩ te.size te.bytes e z.cells.toList ⟨xa,xn,xc⟩ h λs h'=>K (.slice s.a s.len s.cap) h')
     | none=>False
    | none=>False
   | _=>False
  | .builtin .delete,some [.map m,.int k' n],t::_=>rX P t λki c=>if ki=k' then nf ki c m n h λh'=>K (.tuple #[]) h' else False
  | .builtin .append,some [.slice sa sn sc,.int .i64 n],[t,t']=>match P.underlying t,P.underlying t' with
   | some (.slice e),some (.int _)=>match P.info? e with
    | some te=>match te.zero with
     | some z=>gT (z.cells.size==te.size&&Nat.blt 0 te.size) (tX ⟨sa,sn,sc⟩ te.size te.bytes e z.cells.toList n h λs h'=>K (.slice s.a s.len s.cap) h')
     | none=>False
    | none=>False
   | _,_=>False
  | .builtin .copy,some [.slice da dn dc,.slice xa xn xc],t::_=>match P.underlying t with
   | some (.slice e)=>match P.info? e with
    | some te=>rG ⟨da,dn,dc⟩ te.size ⟨xa,xn,xc⟩ h λz h'=>K (.int .i64 z) h'
    | none=>False
   | _=>False
  | .builtin .clear,some [.slice sa sn sc],[t]=>match P.underlying t with
   | some (.slice e)=>match P.info? e with
    | some te=>match te.zero with
     | some z=>gT (z.cells.size==te.size&&Nat.blt 0 te.size) (CL ⟨sa,sn,sc⟩ z.cells.toList h λh'=>K (.tuple #[]) h')
     | none=>False
    | none=>False
   | _=>False
  | _,_,_=>False
 | _=>False
def wk (P:Program)(o:Op)(ty:TypeId)(ρ:Env)(h:Hp)(K:Value->Hp->Prop):Prop:=
 bif s7 o then qK P o ρ h (λv=>K v h)else eK P o ty ρ h K
theorem EO:∀{vs:List Value} {A:Prop},yd vs A->A/\∀v∈vs,dJ v=true
 | [],A,h=>⟨h,by simp⟩
 | v::vs,A,h=>by
  have h1:dJ v=true/\yd vs A:=by cases v<;>first|exact h.elim|exact⟨rfl,h⟩
  obtain⟨b,d⟩:=EO h1.2;exact⟨b,λu a=>by
   rcases zW.1 a with rfl|a
   ·exact h1.1
   ·exact d u a⟩
theorem ZT.refl (w:World):ZT w w:=⟨rfl,rfl,rfl,zC _⟩
theorem ZT.trans {a b c:World}(h:ZT a b)(k:ZT b c):ZT a c:=⟨k.1.trans h.1,k.2.1.trans h.2.1,k.2.2.1.trans h.2.2.1,zP h.2.2.2 k.2.2.2⟩
theorem VS (h:Hp)(a:Addr)(v:Value):(kg h a v).size=h.size:=by simp[kg]
theorem Ex {P:Program}{w:World}{a:Addr}{v:Value}(ho:dJ v=true)(h1:(cell w.heap a).isSome=true)(h2:oW w.heap a=false):(store a v).run P w=.ok () (w.setCell a v):=by
 obtain⟨u,e⟩:=qh.1 h1;have b:w.cell? a=some u:=e;have d:w.frozen? a=false:=h2;cases v<;>simp[dJ]at ho<;>simp[store,Sem.run,b,d]
theorem GO {P:Program}:∀{vs:List Value} {w:World} {a:Addr} {i:Nat} {K:aP},(∀v∈vs,dJ v=true)->qH a w.heap vs i K →
 ∃w',(storeCells a vs i).run P w=.ok () w'/\ZT w w'/\K w'.heap
 | [],w,a,i,K,_,h=>⟨w,by simp[storeCells],.refl _,h⟩
 | v::vs,w,a,i,K,ho,h=>by
  obtain⟨h1,h2,h3⟩:=h;have g:=Ex (P:=P) (ho v aA) h1 h2;obtain⟨w',m,d,e⟩:=GO (P:=P) (w:=w.setCell (a.add i) v) (λu j=>ho u (by simp[j])) h3;refine⟨w',?_,ZT.trans (b:=w.setCell (a.add i) v) ⟨rfl,rfl,rfl,Nat.le_of_eq (VS w.heap (a.add i) v).symm⟩ d,e⟩;simp only[storeCells,Sem.run_bind,g,Result.andThen_ok,m]
theorem Ss {P:Program}{vs:List Value}{w:World}{a:Addr}{K:aP}(ho:∀v∈vs,dJ v=true)(h:Cw a vs w.heap K) :
 ∃w',(storeCells a vs).run P w=.ok () w'/\ZT w w'/\K w'.heap:=by
 refine GO ho ?_;unfold Cw at h;split at h
 ·simpa[qH,Addr.add_zero']using h
 ·exact h
def VK (P:Program)(s:Sem Next)(w:World)(K:Value->Hp->Prop):Prop:=
 (∃v w',s.run P w=.ok (.value v) w'/\ZT w w'/\K v w'.heap) ∨
 (∃w',s.run P w=.ok .skip w'/\ZT w w'/\K undef w'.heap) ∨
 (∃f args rs R,s.run P w=.ok (.enter f args) w/\We P f args rs w.heap R/\∀vs h',Sat (iO rs) R vs h'->K (pack rs vs) h')
theorem VK.upon {P:Program}{o:Oper}{a:Act}{w:World}{K:Value->Hp->Prop}{next:Act->World->Prop}{Q:Exit->Act->World->Prop}
 (h:VK P (execOp a.eval o) w K) (hn:∀v w',ZT w w'->K v w'.heap->next (a.put o.dst v) w'):o.wp P a w next Q:=by
 unfold Oper.wp;rcases h with⟨v,w',hr,b,hK⟩|⟨w',hr,b,hK⟩|⟨f,args,rs,R,hr,hc,hK⟩
 ·rw[hr];exact hn _ _ b hK
 ·rw[hr];exact hn _ _ b hK
 ·rw[hr];refine(hc w rfl).mono λe w' ⟨b,vs,d,g⟩=>?_;subst d;exact hn _ _ b (hK _ _ g)
theorem JD {P:Program}{f:Nat}(h:Gn P f=true)(args:Array Value)(w:World):(callFunc f args).run P w=.ok (.enter f args) w:=by
 unfold Gn at h;split at h
 ·rename_i fn hf;simp only[zF,mS,kR]at h;obtain⟨b,a⟩:=h;obtain⟨c,d⟩:=qh.1 a;simp[callFunc,hf,b,d]
 ·cases h
theorem Pb {P:Program}{f:Nat}{args:List Value}{w:World}{K:Value->Hp->Prop}(h:AQ P f args w.heap K):VK P (callFunc f args.toArray) w K:=by
 unfold AQ at h;split at h
 ·split at h
  ·rename_i rs hrs;split at h
   ·rename_i hc;exact .inr (.inr ⟨f,_,rs,_,JD hc _ _,h,λvs j e=>HR e⟩)
   ·split at h
    ·obtain⟨b,a,g,d,i⟩:=h w rfl;exact .inl ⟨_,a,g,d,i⟩
    ·exact h.elim
  ·exact h.elim
 ·exact h.elim
theorem OM {P:Program}{fv:Fv}{args:List Value}{ty:Nat}{w:World}{K:Value->Hp->Prop}(h:DB P fv args ty w.heap K) :
 VK P (callFunc fv.f (fv.first++args.toArray++fv.captured)) w K:=by
 unfold DB at h;split at h
 ·rename_i rs _;exact .inr (.inr ⟨_,_,rs,_,JD h.1 _ _,h.2,λvs b a=>HR a⟩)
 ·exact h.elim
theorem OO {P:Program}{v:Value}{name:String}{args:List Value}{ty:Nat}{w:World}{K:Value->Hp->Prop}(h:CY P v name args ty w.heap K) :
 VK P (callMethod v name args.toArray) w K:=by
 unfold CY at h;split at h
 ·rename_i rs _;obtain⟨t,u,f,rfl,a,d,h⟩:=h;refine .inr (.inr ⟨f,_,rs,_,?_,h,λvs e b=>HR b⟩);simp only[callMethod,Sem.run_bind,run_program,Result.andThen_ok,a,d];simp
 ·exact h.elim
theorem DF {P:Program}{t:Nat}{K:IntKind->CK->Prop}(h:rX P t K):∃kt et k c,P.underlying t=some (.map kt et)/\P.underlying kt=some (.int k)/\K k c:=by
 unfold rX at h;split at h
 ·split at h
  ·exact⟨_,_,_,_,by assumption,by assumption,h⟩
  ·exact h.elim
 ·exact h.elim
theorem UU (w:World)(o:Obj):ZT w {w with heap:=w.heap.push o}:=⟨rfl,rfl,rfl,by simp⟩
theorem HW (h:Hp)(r:Nat)(o:Obj):QT h (h.setIfInBounds r o) r:=⟨by simp,λb a=>by rw[xY (Ne.symm a)]⟩
theorem FL {es:List MapEntry}{k:IntKind}{c:CK}:∀(l:List (Int×c.T)) (es:List MapEntry) (j:Nat) (n:Int) (x:c.T),
 es.map (λe=>(e.key,e.val))=l.map (λx=>(Value.int k x.1,c.v x.2))->(l.map (·.1)).Nodup->l.findIdx? (λx=>x.1==n)=some j →
 (es.modify j λe=>{e with key:=.int k n,val:=c.v x}).map (λe=>(e.key,e.val))=(l.map λy=>if y.1==n then(n,x)else y).map (λx=>(Value.int k x.1,c.v x.2))
 | [],es,j,n,x,he,hn,hj=>by simp at hj
 | y::l,[],j,n,x,he,hn,hj=>by simp at he
 | y::l,e::es,j,n,x,he,hn,hj=>by
  simp only[zX,List.cons.injEq]at he;simp only[zX,zo]at hn;simp only[wN]at hj;cases hy:y.1==n
  ·rw[hy]at hj;simp only[zc,j4,qA]at hj;obtain⟨j',hj',rfl⟩:=hj;have:=FL (es:=es) l es j' n x he.2 hn.2 hj';simp only[List.modify_succ_cons,zX,this,hy,he.1];simp
  ·rw[hy]at hj;simp at hj;subst hj;have a:y.1=n:=by simpa using hy
   simp only[List.modify_zero_cons,zX,hy,zT,List.cons.injEq,uj,he.2]
   congr 1
   have:∀z∈l,(z.1==n)=false:=by
    intro z hz;have:z.1≠y.1:=λe=>hn.1 (by rw[←e];exact Af hz);simpa[a]using this
   have e:l=l.map λz=>if z.1==n then(n,x)else z:=by
    conv=>lhs;rw[←wE l]
    apply k5;intro z hz;simp[this z hz]
   exact e
theorem S6 {α:Type}{l:List (Int×α)}{n:Int}{j:Nat}(h:l.findIdx? (λx=>x.1==n)=some j):l.any (λx=>x.1==n)=true:=by
 obtain⟨x,a,rfl⟩:=U8 h;rw[kM];exact⟨x,zE a,by simp⟩
theorem TM {α:Type}{l:List (Int×α)}{n:Int}(h:l.findIdx? (λx=>x.1==n)=none):l.any (λx=>x.1==n)=false:=by
 rw[uD]at h;rw[mE];simpa using h
theorem ie {α:Type}{l:List (Int×α)}{n:Int}{x:α}(hn:(l.map (·.1)).Nodup):((dO l n x).map (·.1)).Nodup:=by
 unfold dO;split
 ·have:(l.map λy=>if y.1==n then(n,x)else y).map (·.1)=l.map (·.1):=by
   rw[mC];apply k5;intro y _;simp only[Function.comp];split
   ·rename_i h;simp at h;exact h.symm
   ·rfl
  rwa [this]
 ·rename_i h;rw[lr,n0];refine⟨hn,by simp,?_⟩;intro a ha b hb;simp at hb;subst hb;rintro rfl;obtain⟨y,d,rfl⟩:=zD.1 ha;exact h (kM.2 ⟨y,d,by simp⟩)
theorem OB {P:Program}{t kt et:Nat}{k:IntKind}{c:CK}(hu:P.underlying t=some (.map kt et))(hk:P.underlying kt=some (.int k)){r:Nat}{l:List (Int×c.T)}{n:Int}{x:c.T}{w:World}
 (hm:dD w.heap r k c l):∃w',(Instr.mapUpdate t (.map (some r)) (.int k n) (c.v x)).run P w=.ok () w'/\ZT w w'/\QT w.heap w'.heap r/\dD w'.heap r k c (dO l n x):=by
 obtain⟨es,d,z,i,D,hp,C⟩:=hm;have E:r<w.heap.size:=(lY.1 z).1;have g:∀o,(w.heap.setIfInBounds r o)[r]?=some o:=λo=>by simp[E]
 cases hf:l.findIdx? (λx=>x.1==n)with
 | some j=>
  obtain⟨y,F,B⟩:=U8 hf;have H:j<l.length:=(cV.1 F).1;have u:es.toList.length=l.length:=by simpa using congrArg List.length i
  have s:j<es.size:=by simp at u;omega
  have p:es[j].key=.int k n:=by
   have:=congrArg (λl=>l[j]?) i;simp only[zk,F,zh]at this;rw[yi,Array.getElem?_eq_getElem s]at this;simp at this;rw[this.1,B]
  refine⟨{w with heap:=w.heap.setIfInBounds r (.map (es.modify j λe=>{e with key:=.int k n,val:=c.v x}) d)},?_,⟨rfl,rfl,rfl,by simp⟩,HW _ _ _,?_⟩
  ·simp only[Instr.mapUpdate,Sem.run_bind,run_underlying hu,Result.andThen_ok,Kb hk,getObj,Sem.run,z,Vd hk i,hf];simp[Array.getElem?_eq_getElem s,p,Instr.keyThatStays,Instr.sameBits,setObj,Sem.run,z]
  ·refine⟨_,d,g _,?_,ie D,?_,?_⟩
   ·rw[C3,FL (es:=[]) l es.toList j n x i D hf];simp[dO,S6 hf]
   ·have:(es.modify j λe=>{e with key:=.int k n,val:=c.v x}).toList.map (·.born)=es.toList.map (·.born):=by
     rw[C3];apply zp;intro m;simp only[zk,tB];cases es.toList[m]?<;>simp
     split<;>rfl
    rw[this];exact hp
   ·intro e he';have:e.born∈(es.modify j λe=>{e with key:=.int k n,val:=c.v x}).toList.map (·.born):=Af he';have e2:(es.modify j λe=>{e with key:=.int k n,val:=c.v x}).toList.map (·.born)=es.toList.map (·.born):=by
     rw[C3];apply zp;intro m;simp only[zk,tB];cases es.toList[m]?<;>simp
     split<;>rfl
    rw[e2]at this;obtain⟨G,J,K⟩:=zD.1 this;rw[←K];exact C G J
 | none=>
  refine⟨{w with heap:=w.heap.setIfInBounds r (.map (es.push {key:=.int k n,val:=c.v x,born:=d}) (d+1))},?_,⟨rfl,rfl,rfl,by simp⟩,HW _ _ _,?_⟩
  ·simp only[Instr.mapUpdate,Sem.run_bind,run_underlying hu,Result.andThen_ok,Kb hk,getObj,Sem.run,z,Vd hk i,hf];simp[setObj,Sem.run,z]
  ·refine⟨_,d+1,g _,?_,ie D,?_,?_⟩
   ·simp[dO,TM hf,i]
   ·simp only[Array.toList_push,lr,zX,sx,pC];refine⟨hp,by simp,?_⟩;intro a ha b hb';simp at hb';subst hb';obtain⟨e,A,rfl⟩:=zD.1 ha;exact C e A
   ·intro e he';simp only[Array.toList_push,zS,zZ]at he';rcases he' with h|rfl
    ·have:=C e h;omega
    ·simp
theorem J6 {k:IntKind}{c:CK}:∀(l:List (Int×c.T)) (es:List MapEntry) (j:Nat) (n:Int),
 es.map (λe=>(e.key,e.val))=l.map (λx=>(Value.int k x.1,c.v x.2))->(l.map (·.1)).Nodup->l.findIdx? (λx=>x.1==n)=some j →
 (es.eraseIdx j).map (λe=>(e.key,e.val))=(dK l n).map (λx=>(Value.int k x.1,c.v x.2))
 | [],es,j,n,he,hn,hj=>by simp at hj
 | y::l,[],j,n,he,hn,hj=>by simp at he
 | y::l,e::es,j,n,he,hn,hj=>by
  simp only[zX,List.cons.injEq]at he;simp only[zX,zo]at hn;simp only[wN]at hj;cases hy:y.1==n
  ·rw[hy]at hj;simp only[zc,j4,qA]at hj;obtain⟨j',hj',rfl⟩:=hj;have:=J6 l es j' n he.2 hn.2 hj';simp only[List.eraseIdx_cons_succ,zX,this,dK,sK,hy,he.1];simp
  ·rw[hy]at hj;simp at hj;subst hj;have a:y.1=n:=by simpa using hy
   simp only[List.eraseIdx_zero,List.tail_cons,dK,sK,hy,Bool.not_true,zc,j4,he.2]
   congr 1
   symm
   rw[qF];intro z hz;have:z.1≠y.1:=λe=>hn.1 (by rw[←e];exact Af hz);simpa[a]using this
theorem Oi {α:Type}{l:List (Int×α)}{n:Int}(h:l.findIdx? (λx=>x.1==n)=none):dK l n=l:=by
 rw[uD]at h;unfold dK;rw[qF];intro z hz;have:=h z hz;simpa using this
theorem jQ {α:Type}{l:List (Int×α)}{n:Int}(hn:(l.map (·.1)).Nodup):((dK l n).map (·.1)).Nodup:=
 hn.sublist (List.Sublist.map _ rR)
theorem M6 {P:Program}{t kt et ty:Nat}{k:IntKind}{c:CK}(hu:P.underlying t=some (.map kt et))(hk:P.underlying kt=some (.int k)){m:Option Nat}{l:List (Int×c.T)}{n:Int}{w:World}{ats:List Nat}
 (hm:jO w.heap m k c l):∃w',(Builtin.delete_ (t::ats).toArray ty #[.map m,.int k n]).run P w=.ok (.tuple #[]) w'/\ZT w w'/\(∀r,m=some r->QT w.heap w'.heap r)/\(m=none->w'.heap=w.heap)/\jO w'.heap m k c (dK l n):=by
 cases m with
 | none=>
  simp only[jO]at hm;subst hm;exact⟨w,by simp[Builtin.delete_,run_underlying hu,Kb hk],.refl _,λr h=>(by cases h),λ_=>rfl,rfl⟩
 | some r=>
  obtain⟨d,a,p,g,i,hp,u⟩:=hm;have s:r<w.heap.size:=(lY.1 p).1;have b:∀o,(w.heap.setIfInBounds r o)[r]?=some o:=λo=>by simp[s]
  cases hf:l.findIdx? (λx=>x.1==n)with
  | some j=>
   refine⟨{w with heap:=w.heap.setIfInBounds r (.map (d.eraseIdxIfInBounds j) a)},?_,⟨rfl,rfl,rfl,by simp⟩,λy h=>(by cases h;exact HW _ _ _),(λh=>by cases h),?_⟩
   ·simp[Builtin.delete_,run_underlying hu,Kb hk,getObj,Sem.run,p,Vd hk g,hf,setObj]
   ·refine⟨_,a,b _,?_,jQ i,?_,?_⟩
    ·rw[DD];exact J6 l d.toList j n g i hf
    ·rw[DD];exact hp.sublist (List.Sublist.map _ (List.eraseIdx_sublist _ _))
    ·rw[DD];intro e he';exact u e ((List.eraseIdx_sublist _ _).mem he')
  | none=>
   refine⟨{w with heap:=w.heap.setIfInBounds r (.map d a)},?_,⟨rfl,rfl,rfl,by simp⟩,λy h=>(by cases h;exact HW _ _ _),(λh=>by cases h),?_⟩
   ·simp[Builtin.delete_,run_underlying hu,Kb hk,getObj,Sem.run,p,Vd hk g,hf,setObj]
   ·rw[Oi hf];exact⟨d,a,b _,g,i,hp,u⟩
theorem uu {P:Program}{w:World}{sz n:Nat}{s:Sl}{xs:List Value}(hl:xs.length=s.len*sz)(h:Rd w.heap s.a xs)(hn:n=s.len) :
 (Builtin.firstCells sz n (.slice s.a s.len s.cap)).run P w=.ok xs.toArray w:=by
 subst hn;obtain⟨a,len,cap⟩:=s;cases a with
 | none=>simp only[Rd]at h;subst h;simp[Builtin.firstCells]
 | some a=>
  simp only at hl h;simp only[Builtin.firstCells];rw[←hl];have:=run_loadCells_list (P:=P) (w:=w) a xs (λj v b=>h j v b);exact this
theorem V6 {z:Array Value}(hz:0<z.size):∀n,Builtin.zeroCells z n=(List.replicate n z.toList).flatten.toArray:=by
 intro n;apply Array.ext';simp only[Builtin.zeroCells,Array.toList_map,Array.toList_range]
 induction n with
 | zero=>simp
 | succ n ih=>
  rw[Ds,List.flatten_append];simp only[wV,List.flatten_nil,j7];rw[←ih];rw[Nat.succ_mul,List.range_add,lr,mC]
  congr 1
  apply List.ext_getElem
  ·simp
  ·intro i h1 h2;simp at h1 h2;simp[uE h1,h1]
theorem Eh (n c:Nat)(h:¬n<=c):Builtin.nextslicecap n c<=2*n:=by
 unfold Builtin.nextslicecap;split
 ·omega
 ·split
  ·omega
  ·have key:∀r c,c<=2*n->(Builtin.growBy n r c)<=2*n:=by
    intro r
    induction r with
    | zero=>intro c hc;simpa[Builtin.growBy]using hc
    | succ r ih=>
     intro c hc;simp only[Builtin.growBy];split
     ·exact hc
     ·exact ih _ O
   exact key _ _ O
theorem NV {P:Program}{t e ty:Nat}{te:TypeInfo}{z:Value}{s x:Sl}{K:Sl->Hp->Prop}{w:World}(hu:P.underlying t=some (.slice e))(hi:P.info? e=some te)(hz:te.zero=some z)(hzs:z.cells.size=te.size)(hpos:0<te.size)
 (h:App s te.size te.bytes e z.cells.toList x w.heap K) :
 ∃r w',(Builtin.append_ #[t,t] ty #[.slice s.a s.len s.cap,.slice x.a x.len x.cap]).run P w=.ok (.slice (Sl.a r) r.len r.cap) w'/\ZT w w'/\K r w'.heap:=by
 obtain⟨M,J,G,H,L,F,B,V,W,b,d⟩:=h;have p:=uu (P:=P) (n:=s.len) G L rfl;have i:=uu (P:=P) (n:=x.len) H F rfl;by_cases hroom:s.len+x.len<=s.cap
 ·have b:=b hroom;cases hsa:s.a with
  | some a=>
   rw[hsa]at b;obtain⟨w',S,R,A⟩:=GO (P:=P) B b;rw[hsa]at p;refine⟨⟨some a,s.len+x.len,s.cap⟩,w',?_,R,A⟩;simp[Builtin.append_,run_underlying hu,sizeOf,typeInfo,hi,Builtin.lenOf,hroom,i,S]
  | none=>
   rw[hsa]at b;rw[hsa]at p;refine⟨⟨none,s.len+x.len,s.cap⟩,w,?_,.refl _,b⟩;simp[Builtin.append_,run_underlying hu,sizeOf,typeInfo,hi,Builtin.lenOf,hroom,i]
 ·have d:=d hroom;have m:¬(2^48<Builtin.nextslicecap (s.len+x.len) s.cap*te.bytes):=by
   have:=Eh (s.len+x.len) s.cap hroom;have:Builtin.nextslicecap (s.len+x.len) s.cap*te.bytes<=2*(s.len+x.len)*te.bytes:=k7 _ this;rw[xD]at this;omega
  have N:¬(IntKind.i64.max<((s.len+x.len:Nat):Int)):=by
   have:IntKind.i64.max=9223372036854775807:=by decide
   rw[this];omega
  have C:¬(IntKind.i64.max<((s.len:Int)+(x.len:Int))):=by
   have:IntKind.i64.max=9223372036854775807:=by decide
   rw[this];omega
  have D:=V6 (z:=z.cells) O;have y:s.cap<s.len+x.len:=by omega
  have g:¬(281474976710656<Builtin.nextslicecap (s.len+x.len) s.cap*te.bytes):=by simpa using m
  let q:=Question.appendCap (s.len+x.len) s.cap e
  let c:=q.cut (w.tape w.drawn q)
  have U:s.len+x.len<=c:=by simp only[c,q,Question.cut];omega
  have A:=d c U;refine⟨⟨some ⟨w.heap.size,0,none⟩,s.len+x.len,c⟩,{w with drawn:=w.drawn+1,heap:=w.heap.push (.cells (M++J++(List.replicate (c-(s.len+x.len)) z.cells.toList).flatten).toArray e (0,0))},?_,⟨rfl,rfl,rfl,by simp⟩,A⟩;have Q:(Question.appendCap (s.len+x.len) s.cap e).forced=false:=rfl;have E:¬(9223372036854775807<(s.len:Int)+(x.len:Int)):=by omega
  have u:=uu (P:=P) (w:=w.drew) (n:=s.len) G (show Rd w.drew.heap s.a M from L) rfl;have j:=uu (P:=P) (w:=w.drew) (n:=x.len) H (show Rd w.drew.heap x.a J from F) rfl;simp[Builtin.append_,run_underlying hu,sizeOf,typeInfo,hi,Builtin.lenOf,hroom,E,Q,g,u,j,zeroValue,hz,D,newRow];refine⟨rfl,?_⟩;unfold World.alloc World.drew;simp[c,q]
theorem Τ {P:Program}{t t' e ty:Nat}{te:TypeInfo}{z:Value}{s:Sl}{n:Int}{ki:IntKind}{K:Sl->Hp->Prop}{w:World}(hu:P.underlying t=some (.slice e))(hu':P.underlying t'=some (.int ki))(hi:P.info? e=some te)(hz:te.zero=some z)(hzs:z.cells.size=te.size)(hpos:0<te.size)
 (h:tX s te.size te.bytes e z.cells.toList n w.heap K) :
 ∃r w',(Builtin.append_ #[t,t'] ty #[.slice s.a s.len s.cap,.int .i64 n]).run P w=.ok (.slice (Sl.a r) r.len r.cap) w'/\ZT w w'/\K r w'.heap:=by
 obtain⟨J,X,V,W,U,h5,h6,h7,i,j⟩:=h;obtain⟨n,rfl⟩:=zf J;simp only[dE]at h5 h6 h7 i j;have F:=uu (P:=P) (n:=s.len) V W rfl;have R:∀v∈(List.replicate n z.cells.toList).flatten,dJ v=true:=by
  intro v G;simp only[List.mem_flatten,yN]at G;obtain⟨l,⟨_,rfl⟩,G⟩:=G;exact U v G
 have A:IntKind.i64.wrap (n:Int)=n:=by unfold IntKind.wrap;simp[IntKind.bits,IntKind.signed];omega
 have C:IntKind.i64.wrap 0=0:=by decide
 have u:=V6 (z:=z.cells) O;have y:¬((n:Int)<0):=by omega
 have H:¬((n:Int)*(te.bytes:Int)>2^48):=by
  have:(2:Int)^46<=2^48:=by decide
  omega
 have p:¬(281474976710656<(n:Int)*(te.bytes:Int)):=by simpa using H
 have M:n*te.size=0->(List.replicate n z.cells.toList).flatten=[]:=by
  intro h0;rcases uB.1 h0 with h|h
  ·subst h;simp
  ·omega
 by_cases hroom:s.len+n<=s.cap
 ·have i:=i hroom;cases hsa:s.a with
  | some a=>
   rw[hsa]at i;obtain⟨w',S,io,L⟩:=GO (P:=P) R i;rw[hsa]at F;refine⟨⟨some a,s.len+n,s.cap⟩,w',?_,io,L⟩;by_cases hn:n*te.size=0
   ·have:=M hn;rw[this]at S;rcases uB.1 hn with hn'|hn'
    ·subst hn';have b:s.len<=s.cap:=by simpa using hroom
     simp[Builtin.append_,run_underlying hu,run_underlying hu',sizeOf,typeInfo,hi,Builtin.lenOf,b,asInt,asIntOf,C,S]
    ·omega
   ·have d:¬n=0:=λe=>hn (by rw[e];simp);have g:¬te.size=0:=by omega
    simp[Builtin.append_,run_underlying hu,run_underlying hu',sizeOf,typeInfo,hi,Builtin.lenOf,hroom,S,asInt,asIntOf,A,y,p,hn,d,g,zeroValue,hz,u]
  | none=>
   rw[hsa]at i;rw[hsa]at F;refine⟨⟨none,s.len+n,s.cap⟩,w,?_,.refl _,i⟩;by_cases hn:n*te.size=0
   ·rcases uB.1 hn with hn'|hn'
    ·subst hn';have b:s.len<=s.cap:=by simpa using hroom
     simp[Builtin.append_,run_underlying hu,run_underlying hu',sizeOf,typeInfo,hi,Builtin.lenOf,b,asInt,asIntOf,C]
    ·omega
   ·have d:¬n=0:=λe=>hn (by rw[e];simp);have g:¬te.size=0:=by omega
    simp[Builtin.append_,run_underlying hu,run_underlying hu',sizeOf,typeInfo,hi,Builtin.lenOf,hroom,asInt,asIntOf,A,y,p,hn,d,g,zeroValue,hz,u]
 ·have j:=j hroom;have D:¬(2^48<Builtin.nextslicecap (s.len+n) s.cap*te.bytes):=by
   have:=Eh (s.len+n) s.cap hroom;have:Builtin.nextslicecap (s.len+n) s.cap*te.bytes<=2*(s.len+n)*te.bytes:=k7 _ this;rw[xD]at this;omega
  have m:¬(281474976710656<Builtin.nextslicecap (s.len+n) s.cap*te.bytes):=by simpa using D
  let q:=Question.appendCap (s.len+n) s.cap e
  let c:=q.cut (w.tape w.drawn q)
  have Z:s.len+n<=c:=by simp only[c,q,Question.cut];omega
  have L:=j c Z;refine⟨⟨some ⟨w.heap.size,0,none⟩,s.len+n,c⟩,{w with drawn:=w.drawn+1,heap:=w.heap.push (.cells (X++(List.replicate n z.cells.toList).flatten++(List.replicate (c-(s.len+n)) z.cells.toList).flatten).toArray e (0,0))},?_,⟨rfl,rfl,rfl,by simp⟩,L⟩;have Y:(Question.appendCap (s.len+n) s.cap e).forced=false:=rfl;have N:¬(9223372036854775807<(s.len:Int)+(n:Int)):=by omega
  have x:=uu (P:=P) (w:=w.drew) (n:=s.len) V (show Rd w.drew.heap s.a X from W) rfl;by_cases hn:n*te.size=0
  ·rcases uB.1 hn with hn'|hn'
   ·subst hn';have b:¬s.len<=s.cap:=by simpa using hroom
    have B:¬(281474976710656<Builtin.nextslicecap s.len s.cap*te.bytes):=by simpa using m
    have Q:(Question.appendCap s.len s.cap e).forced=false:=rfl;have E:¬(9223372036854775807<(s.len:Int)):=by omega
    simp[Builtin.append_,run_underlying hu,run_underlying hu',sizeOf,typeInfo,hi,Builtin.lenOf,b,E,Q,B,x,zeroValue,hz,u,newRow,asInt,asIntOf,C];refine⟨rfl,?_⟩;unfold World.alloc World.drew;simp[c,q]
   ·omega
  ·have d:¬n=0:=λe=>hn (by rw[e];simp);have g:¬te.size=0:=by omega
   simp[Builtin.append_,run_underlying hu,run_underlying hu',sizeOf,typeInfo,hi,Builtin.lenOf,hroom,N,Y,m,x,zeroValue,hz,u,newRow,asInt,asIntOf,A,y,p,hn,d,g];refine⟨rfl,?_⟩;unfold World.alloc World.drew;simp[c,q]
theorem MT {P:Program}{t e ty:Nat}{ats:List TypeId}{te:TypeInfo}{d s:Sl}{K:aN}{w:World}(hu:P.underlying t=some (.slice e))(hi:P.info? e=some te)
 (h:rG d te.size s w.heap K):∃z w',(Builtin.copy_ (t::ats).toArray ty #[.slice d.a d.len d.cap,.slice s.a s.len s.cap]).run P w=.ok (.int .i64 z) w'/\ZT w w'/\K z w'.heap:=by
 obtain⟨r,p,m,A,i⟩:=h;have g:(Builtin.firstCells te.size (min s.len d.len) (.slice s.a s.len s.cap)).run P w=.ok r.toArray w:=by
  obtain⟨a,len,cap⟩:=s;cases a with
  | none=>simp only[Rd]at m;subst m;simp[Builtin.firstCells]
  | some a=>
   simp only at p m;simp only[Builtin.firstCells];rw[←p];exact run_loadCells_list (P:=P) (w:=w) a r (λj v x=>m j v x)
 have b:Nat.min s.len d.len=min s.len d.len:=rfl;cases hda:d.a with
 | none=>
  rw[hda]at i;refine⟨_,w,?_,.refl _,i⟩;simp[Builtin.copy_,run_underlying hu,sizeOf,typeInfo,hi,Builtin.lenOf,g,b,goInt]
 | some a=>
  rw[hda]at i;obtain⟨w',y,u,B⟩:=GO (P:=P) A i;refine⟨_,w',?_,u,B⟩;simp[Builtin.copy_,run_underlying hu,sizeOf,typeInfo,hi,Builtin.lenOf,g,b,y,goInt]
theorem OT {P:Program}{t e ty:Nat}{te:TypeInfo}{z:Value}{s:Sl}{K:aP}{w:World}(hu:P.underlying t=some (.slice e))(hi:P.info? e=some te)(hz:te.zero=some z)(hzs:z.cells.size=te.size)(hpos:0<te.size)
 (h:CL s z.cells.toList w.heap K):∃w',(Builtin.clear_ #[t] ty #[.slice s.a s.len s.cap]).run P w=.ok (.tuple #[]) w'/\ZT w w'/\K w'.heap:=by
 obtain⟨j,h⟩:=h;have d:=V6 (z:=z.cells) O;obtain⟨a,len,cap⟩:=s;cases a with
 | none=>exact⟨w,by simp[Builtin.clear_,run_underlying hu],.refl _,h⟩
 | some a=>
  simp only at h;cases len with
  | zero=>
   simp[qH]at h;exact⟨w,by simp[Builtin.clear_,run_underlying hu],.refl _,h⟩
  | succ n=>
   obtain⟨w',i,g,m⟩:=GO (P:=P) (λv b=>by
    simp only[List.mem_flatten,yN]at b;obtain⟨l,⟨_,rfl⟩,b⟩:=b;exact j v b) h
   refine⟨w',?_,g,m⟩;simp[Builtin.clear_,run_underlying hu,zeroValue,typeInfo,hi,hz,d,i]
theorem SV {P:Program}{t len:Nat}{ps:List (Nat×Value)}{K:TypeId->List Value->Prop}(h:C8 P t len ps K):∃e te z cs,P.underlying t=some (.slice e)/\P.info? e=some te/\te.zero=some z/\K e cs ∧
 ((len=0/\ps=[]/\cs=[])\/(len*te.size<=16777216/\0<len*te.size/\z.cells.size=te.size/\r9 (λi=>some (i*te.size,te.size)) (List.replicate len z.cells.toList).flatten ps=some cs)):=by
 unfold C8 at h;split at h
 case h_2=>exact h.elim
 rename_i e hu;split at h
 case h_2=>exact h.elim
 rename_i te hi;split at h
 case h_2=>exact h.elim
 rename_i z hz;split at h
 ·exact⟨e,te,z,[],hu,hi,hz,h,.inl ⟨rfl,rfl,rfl⟩⟩
 ·exact h.elim
 ·rw[WG]at h;obtain⟨a,h⟩:=h;simp only[zF,za]at a;split at h
  case h_2=>exact h.elim
  rename_i cs hf;exact⟨e,te,z,cs,hu,hi,hz,h,.inr ⟨Nat.le_of_ble_eq_true a.1.1,Nat.blt_eq.mp a.1.2,a.2,hf⟩⟩
theorem JJ {z:Array Value}(hz:0<z.size)(n:Nat):((Array.range (n*z.size)).map (z[· % z.size]!))=(List.replicate n z.toList).flatten.toArray:=V6 hz n
theorem Sr {P:Program}{ρ:Env}{K:Value->Hp->Prop}{a:Act}{w:World}(hf:∀x v,ev ρ x=some v->a.eval x=v)(o:Oper)(hk:eK P o.op o.type ρ w.heap K) :
 VK P (execOp a.eval o) w K:=by
 obtain⟨dst,op,ty,pos,after,guard⟩:=o;simp only at hk;have p:∀{s:Sem Value},(∃v B,s.run P w=.ok v B/\ZT w B/\K v B.heap)->VK P (do pure (Next.value (←s)):Sem Next) w K:=by
  rintro s ⟨v,B,hv,J,D⟩;exact .inl ⟨v,B,by simp[hv],J,D⟩
 have M:∀{s:Sem Unit},(∃B,s.run P w=.ok () B/\ZT w B/\K undef B.heap)->VK P (do s;pure Next.skip:Sem Next) w K:=by
  rintro s ⟨B,hv,J,D⟩;exact .inr (.inl ⟨B,by simp[hv],J,D⟩)
 unfold eK at hk;split at hk
 case h_1 t x y=>
  obtain⟨va,L,hk0⟩:=Ws hk;clear hk;obtain⟨Y,hx,hk⟩:=Ws hk0;clear hk0;simp only[execOp,hf _ _ L,hf _ _ hx];split at hk
  ·rename_i ad;cases hraw:wB P t
   case true=>
    rw[hraw]at hk;simp only[cond_true]at hk;rw[WG]at hk;obtain⟨hc,hif,s1,s2,D⟩:=hk;simp only[zF,za]at hc;obtain⟨Z,h2⟩:=hc;apply M;have hone:dJ Y=true:=by rcases hif with rfl|⟨t',u,rfl⟩<;>rfl
    have F:Y.cells = #[Y]:=by rcases hif with rfl|⟨t',u,rfl⟩<;>rfl
    have C:=Ex (P:=P) (w:=w) hone s1 s2;refine⟨w.setCell ad Y,?_,⟨rfl,rfl,rfl,Nat.le_of_eq (VS w.heap ad Y).symm⟩,D⟩;have hr':(storeCells ad #[Y].toList).run P w=.ok () (w.setCell ad Y):=by
     simp only[storeCells,Addr.add_zero',Sem.run_bind,C,Result.andThen_ok];rfl
    simp only[Instr.storeAt,Instr.sureAddr,Sem.run_bind,Sem.run_pure,Result.andThen_ok,storeVar,Kd Z,h2,F,ne_eq,j4];simpa using hr'
   rw[hraw]at hk;simp only[cond_false]at hk;rw[WG]at hk;obtain⟨hc,hk⟩:=hk;simp only[zF,za]at hc;obtain⟨Z,h2⟩:=hc;obtain⟨hk,h3⟩:=EO hk;apply M;obtain⟨B,C,J,D⟩:=Ss (P:=P) h3 hk;refine⟨B,?_,J,D⟩;simp only[Instr.storeAt,Instr.sureAddr,Sem.run_bind,Sem.run_pure,Result.andThen_ok,storeVar,Kd Z,h2,ne_eq,not_true_eq_false,j4];simpa using C
  ·exact hk.elim
 case h_2 e=>
  split at hk
  case h_2=>exact hk.elim
  rename_i N H;split at hk
  case h_2=>exact hk.elim
  rename_i z S;apply p;refine⟨_,_,?_,UU _ _,hk⟩;simp[Instr.alloc,V2 H S,newVar,newRow,newObj,Sem.run]
 case h_3 e x=>
  obtain⟨v,hv,hk⟩:=Ws hk;simp only[execOp,hf _ _ hv];apply p;cases hraw:wB P e
  case true=>
   rw[hraw]at hk;simp only[cond_true]at hk;have F:v.cells = #[v]:=by rcases hk.1 with rfl|⟨t',u,rfl⟩<;>rfl
   refine⟨_,_,?_,UU _ _,hk.2⟩;simp[Instr.box,newVar,newRow,newObj,Sem.run,F]
  rw[hraw]at hk;refine⟨_,_,?_,UU _ _,hk⟩;simp[Instr.box,newVar,newRow,newObj,Sem.run]
 case h_4 t len ps=>
  split at hk
  case h_2=>exact hk.elim
  rename_i vs hps;have e1:=UI hf hps;have d:ps.map (λ(i,x)=>(i,a.eval x))=vs.toArray:=by apply Array.ext';simpa using e1
  obtain⟨e,N,z,cs,E,H,S,hk,hcase⟩:=SV hk;simp only[execOp,d];apply p;refine⟨_,_,?_,UU _ _,hk⟩;rcases hcase with⟨rfl,rfl,rfl⟩|⟨hle,X,hzs,hfl⟩
  ·simp only[Instr.buildSlice,Sem.run_bind,run_underlying E,Result.andThen_ok,sizeOf,UA H,Sem.run_pure,u6];simp[Instr.fill,newRow,newObj,Sem.run,Array.range_zero']
  have hts:0<N.size:=Nat.pos_of_mul_pos_left X;have hfill:=Hr _ _ _ _ hfl;have V:=JJ (z:=z.cells) O len;rw[hzs]at V;have hne:¬(len*N.size=0):=by omega
  have hle':¬(len*N.size>2^24):=by
   have:(2:Nat)^24=16777216:=by decide
   omega
  simp only[Instr.buildSlice,Sem.run_bind,run_underlying E,Result.andThen_ok,sizeOf,UA H,Sem.run_pure,hle',j4,hne,V2 H S,V,hzs,hfill,newRow,newObj,Sem.run]
 case h_5 t r=>
  split at hk
  ·apply p;refine⟨_,_,?_,UU _ _,hk⟩;simp[Instr.makeMap,newObj,Sem.run]
  ·exact hk.elim
 case h_6 t l c=>
  obtain⟨vl,hl,hk⟩:=Ws hk;obtain⟨vc,hc,hk⟩:=Ws hk;simp only[execOp,hf _ _ hl,hf _ _ hc];split at hk
  case h_2=>exact hk.elim
  rename_i e n m E _;split at hk
  case h_2=>exact hk.elim
  rename_i N H;split at hk
  case h_2=>exact hk.elim
  rename_i z S;rw[WG]at hk;obtain⟨j,h0,Z,h2,h3,hk⟩:=hk;simp only[zF,za]at j;have X:0<N.size:=Nat.blt_eq.mp j.2;apply p;refine⟨_,_,?_,UU _ _,hk⟩;have hwn:IntKind.i64.wrap n=n:=by unfold IntKind.wrap;simp[IntKind.bits,IntKind.signed];omega
  have hwm:IntKind.i64.wrap m=m:=by unfold IntKind.wrap;simp[IntKind.bits,IntKind.signed];omega
  have hbig:¬((N.bytes:Int)*m>2^48):=by
   have:(2:Int)^46<=2^48:=by decide
   omega
  have hm0:¬m<0:=by omega
  have hn0:¬n<0:=by omega
  have hnm:¬n>m:=by omega
  have hnm':¬m<n:=by omega
  have V:=JJ (z:=z.cells) O m.toNat;have hrz2:Array.map (λx=>z.cells[x%z.cells.size]!) (Array.range (m.toNat*N.size))=(List.replicate m.toNat z.cells.toList).flatten.toArray:=by rw[←j.1];exact V
  have R:¬(281474976710656<(N.bytes:Int)*m):=by simpa using hbig
  by_cases hz0:m.toNat*N.size=0
  ·have hmz:m.toNat=0:=by
    rcases uB.1 hz0 with h|h
    ·exact h
    ·omega
   simp[Instr.makeSlice,run_underlying E,UA H,asInt,asIntOf,hwn,hwm,R,hm0,hn0,hnm,hnm',askRoom,mark,sizeOf,hmz,newRow];rw[show Array.range 0 = #[]from rfl];simp
  ·simp[Instr.makeSlice,run_underlying E,UA H,asInt,asIntOf,hwn,hwm,R,hm0,hn0,hnm,hnm',askRoom,mark,sizeOf,hz0,V2 H S,newRow,hrz2];intro _;rfl
 case h_7 t x=>
  obtain⟨v,hv,G⟩:=Ws hk;obtain⟨kt,et,ki,c,E,W,Q⟩:=DF G;clear hk G;simp only[execOp,hf _ _ hv];split at Q
  case h_2=>exact Q.elim
  rename_i m;apply p;obtain⟨l,hm,D⟩:=Q;cases m with
  | none=>
   refine⟨_,{w with heap:=w.heap.push (.mapIter none 0 #[] 0)},?_,UU _ _,D _ aA (λb hb=>by simp[yF,vG hb]) ?_⟩
   ·simp[Instr.range,run_underlying E,newObj,Sem.run]
   ·simp only[jO]at hm;exact⟨hm,hm,rfl,0,#[],0,by simp⟩
  | some b=>
   obtain⟨es,clk,C,he,hn,hp,hb⟩:=hm;have hlt:b<w.heap.size:=(lY.1 C).1;refine⟨_,{w with heap:=w.heap.push (.mapIter (some b) clk #[] clk)},?_,UU _ _,D _ aA (λb hb=>by simp[yF,vG hb]) ?_⟩
   ·simp[Instr.range,run_underlying E,newObj,getObj,Sem.run,C]
   ·exact⟨es,clk,#[],by simp,by simp[yF,vG hlt,C],he,hn,hp,hb,by rw[qF.2 (λe _=>by simp)];exact he,λx hx=>by cases hx⟩
 case h_8 t m k x=>
  obtain⟨vm,hm,G⟩:=Ws hk;obtain⟨vk,hkk,Q⟩:=Ws G;obtain⟨Y,hx,hk3⟩:=Ws Q;obtain⟨kt,et,ki,c,E,W,U⟩:=DF hk3;clear hk G Q hk3;simp only[execOp,hf _ _ hm,hf _ _ hkk,hf _ _ hx];split at U
  ·split at U
   ·rename_i e;subst e;obtain⟨x,rfl,r,l,rfl,hl,D⟩:=UZ U;apply M;obtain⟨B,C,J,ho,hl'⟩:=OB (P:=P) E W (x:=x) hl;exact⟨B,C,J,D _ ho hl'⟩
   ·exact U.elim
  ·exact U.elim
 case h_9 c=>
  obtain⟨callee,A,ats⟩:=c;simp only at hk;split at hk
  ·rename_i f args' L;have e1:=Qk hf L;have d:A.map a.eval=args'.toArray:=by apply Array.ext';simpa using e1
   have:=Pb hk;simpa[execOp,resolve,d,Act.eval,Deferred.ofValue,invoke]using this
  ·rename_i g args' _ L;obtain⟨vg,hg,hk⟩:=Ws hk;obtain⟨fv,rfl,hk⟩:=UZ hk;have e1:=Qk hf L;have d:A.map a.eval=args'.toArray:=by apply Array.ext';simpa using e1
   have:=OM hk;simpa[execOp,resolve,d,hf _ _ hg,CK.v,Deferred.ofValue,invoke]using this
  ·rename_i r name args' L;obtain⟨vr,C,hk⟩:=Ws hk;have e1:=Qk hf L;have d:A.map a.eval=args'.toArray:=by apply Array.ext';simpa using e1
   have:=OO hk;simpa[execOp,resolve,d,hf _ _ C,invoke]using this
  ·rename_i sa sn sc xa xn xc t t' L ht;have e1:=Qk hf L;have d:A.map a.eval = #[.slice sa sn sc,.slice xa xn xc]:=by apply Array.ext';simpa using e1
   have e2:ats = #[t,t']:=by apply Array.ext';simpa using ht
   subst e2;split at hk
   case h_2=>exact hk.elim
   rename_i e E;split at hk
   case h_2=>exact hk.elim
   rename_i N H;split at hk
   case h_2=>exact hk.elim
   rename_i z S;rw[WG]at hk;obtain⟨j,hk⟩:=hk;simp only[zF,za]at j;obtain⟨⟨Z,h2⟩,h3⟩:=j;have ett:t=t':=lJ Z;subst ett;obtain⟨r,B,C,J,D⟩:=NV (P:=P) (ty:=ty) E H S h2 (Nat.blt_eq.mp h3) hk;refine .inl ⟨_,B,?_,J,D⟩;simp only at C;simp[execOp,resolve,d,invoke,builtin,C]
  ·rename_i m k' n t ats' L ht;have e1:=Qk hf L;have d:A.map a.eval = #[.map m,.int k' n]:=by apply Array.ext';simpa using e1
   have e2:ats=(t::ats').toArray:=by apply Array.ext';simpa using ht
   subst e2;obtain⟨kt,et,ki,c,E,W,G⟩:=DF hk;clear hk;split at G
   ·rename_i e;subst e;obtain⟨l,hl,D⟩:=G;obtain⟨B,C,J,Z,h2,h3⟩:=M6 (P:=P) (ty:=ty) (ats:=ats') E W (n:=n) hl;refine .inl ⟨_,B,?_,J,D _ Z h2 h3⟩;simp[execOp,resolve,d,invoke,builtin,C]
   ·exact G.elim
  ·rename_i sa sn sc n t t' L ht;have e1:=Qk hf L;have d:A.map a.eval = #[.slice sa sn sc,.int .i64 n]:=by apply Array.ext';simpa using e1
   have e2:ats = #[t,t']:=by apply Array.ext';simpa using ht
   subst e2;split at hk
   case h_2=>exact hk.elim
   rename_i e ki E hu';split at hk
   case h_2=>exact hk.elim
   rename_i N H;split at hk
   case h_2=>exact hk.elim
   rename_i z S;rw[WG]at hk;obtain⟨j,hk⟩:=hk;simp only[zF,za]at j;obtain⟨r,B,C,J,D⟩:=Τ (P:=P) (ty:=ty) E hu' H S j.1 (Nat.blt_eq.mp j.2) hk;refine .inl ⟨_,B,?_,J,D⟩;simp only at C;simp[execOp,resolve,d,invoke,builtin,C]
  ·rename_i da dn dc xa xn xc t ats' L ht;have e1:=Qk hf L;have d:A.map a.eval = #[.slice da dn dc,.slice xa xn xc]:=by apply Array.ext';simpa using e1
   have e2:ats=(t::ats').toArray:=by apply Array.ext';simpa using ht
   subst e2;split at hk
   case h_2=>exact hk.elim
   rename_i e E;split at hk
   case h_2=>exact hk.elim
   rename_i N H;obtain⟨r,B,C,J,D⟩:=MT (P:=P) (ty:=ty) (ats:=ats') E H hk;refine .inl ⟨_,B,?_,J,D⟩;simp only at C;simp[execOp,resolve,d,invoke,builtin,C]
  ·rename_i sa sn sc t L ht;have e1:=Qk hf L;have d:A.map a.eval = #[.slice sa sn sc]:=by apply Array.ext';simpa using e1
   have e2:ats = #[t]:=by apply Array.ext';simpa using ht
   subst e2;split at hk
   case h_2=>exact hk.elim
   rename_i e E;split at hk
   case h_2=>exact hk.elim
   rename_i N H;split at hk
   case h_2=>exact hk.elim
   rename_i z S;rw[WG]at hk;obtain⟨j,hk⟩:=hk;simp only[zF,za]at j;obtain⟨B,C,J,D⟩:=OT (P:=P) (ty:=ty) E H S j.1 (Nat.blt_eq.mp j.2) hk;refine .inl ⟨_,B,?_,J,D⟩;simp only at C;simp[execOp,resolve,d,invoke,builtin,C]
  ·exact hk.elim
 ·exact hk.elim
theorem FX {k:IntKind}{c:CK}(p:MapEntry->Bool)(q:Int×c.T->Bool):∀(L:List MapEntry) (T:List (Int×c.T)),L.map (λe=>(e.key,e.val))=T.map (λx=>(Value.int k x.1,c.v x.2)) →
 (∀(j:Nat) (e:MapEntry) (y:Int×c.T),L[j]?=some e->T[j]?=some y->p e=q y)->(L.filter p).map (λe=>(e.key,e.val))=(T.filter q).map (λx=>(Value.int k x.1,c.v x.2))
 | [],T,h,_=>by
  cases T with
  | nil=>rfl
  | cons y T=>simp at h
 | e::L,[],h,_=>by simp at h
 | e::L,y::T,h,hpq=>by
  simp only[zX,List.cons.injEq]at h;have h0:=hpq 0 e y rfl rfl;have a:=FX p q L T h.2 (λj b g d i=>hpq (j+1) b g (by simpa using d) (by simpa using i));simp only[sK,h0];cases q y
  ·simpa using a
  ·simp[h.1,a]
theorem It.oe {P:Program}{r:Nat}{k:IntKind}{c:CK}{m:Option Nat}{l todo:List (Int×c.T)}{cur:Option (Int×c.T)}{w:World}(hit:It w.heap r k c m l todo cur)(ty:Nat) :
 (todo=[]/\∃w',(Instr.next (.pointer (some ⟨r,0,none⟩)) false ty).run P w=.ok (.tuple #[.bool false]) w'/\ZT w w'/\w'.heap=w.heap) ∨
 (∃n x w',(n,x)∈todo/\(Instr.next (.pointer (some ⟨r,0,none⟩)) false ty).run P w=.ok (.tuple #[.bool true,.int k n,c.v x]) w'/\ZT w w'/\QT w.heap w'.heap r ∧
  It w'.heap r k c m l (todo.filter λy=>!(y.1==n)) (some (n,x))):=by
 cases m with
 | none=>
  obtain⟨rfl,rfl,rfl,s,q,y,hr⟩:=hit;exact .inl ⟨rfl,w,by simp[Instr.next,getObj,Sem.run,hr],.refl _,rfl⟩
 | some b=>
  obtain⟨es,clk,seen,hr,hb,he,hn,hp,hlt,htodo,hcur⟩:=hit;have hrlt:r<w.heap.size:=(lY.1 hr).1;have hrb:r≠b:=λe=>by rw[e,hb]at hr;cases hr
  have hchk:¬((!seen.isEmpty && !es.isEmpty&&es.all (·.born≥clk))=true):=by
   intro h;simp only[zF,mS,Array.all_eq_true',zU]at h;obtain⟨⟨_,h2⟩,h3⟩:=h;have h2':es ≠ #[]:=by simpa[Array.isEmpty_iff]using h2
   obtain⟨e,hme⟩:=Array.exists_mem_of_ne_empty es h2';have:=h3 e hme;have:=hlt e (by simpa using hme);omega
  have hold:((es.filter λe=>!seen.contains e.born).filter (·.born<clk))=es.filter λe=>!seen.contains e.born:=by
   rw[Array.filter_eq_self];intro e hme;have:e∈es:=(Array.mem_filter.1 hme).1;simpa using hlt e (by simpa using this)
  have hnew:((es.filter λe=>!seen.contains e.born).filter (·.born≥clk)) = #[]:=by
   rw[Array.filter_eq_empty_iff];intro e hme;have:e∈es:=(Array.mem_filter.1 hme).1;have:=hlt e (by simpa using this);simp;omega
  have hlist:(es.filter λe=>!seen.contains e.born).toList=es.toList.filter λe=>!seen.contains e.born:=Array.toList_filter;have hrun:∀(cand:Array (Option MapEntry)),cand=(if(es.filter λe=>!seen.contains e.born).isEmpty then #[none]else #[])++(es.filter λe=>!seen.contains e.born).map some →
   (Instr.next (.pointer (some ⟨r,0,none⟩)) false ty).run P w=(do
    match cand[←choose (.mapNext cand.size)]? with
    | some (some e)=>do
     setObj r (.mapIter (some b) clk (seen.push e.born) clk)
     pure (.tuple #[.bool true,e.key,e.val])
    | some none=>pure (.tuple #[.bool false])
    | none=>stuck "Next: no such candidate" : Sem Value).run P w := by
   rintro cand rfl;simp only[Instr.next,getObj,Sem.run_bind,Sem.run,hr,Result.andThen_ok,hb,hchk,j4,hold,hnew,Array.append_empty,zc,Sem.run_bind]
   try rfl
  cases htd:todo with
  | nil=>
   left;subst htd;have hnil:(es.filter λe=>!seen.contains e.born) = #[]:=by
    apply Array.ext';rw[hlist];have:=congrArg List.length htodo;simpa using this
   refine⟨rfl,w,?_,.refl _,rfl⟩;rw[hrun #[none] (by rw[hnil];simp)];simp[choose,Sem.run,Question.forced]
  | cons y ys=>
   right;have hlen:(es.filter λe=>!seen.contains e.born).size=todo.length:=by
    rw[←wP,hlist];simpa using congrArg List.length htodo
   have hne:(es.filter λe=>!seen.contains e.born).isEmpty=false:=by
    rw[htd]at hlen;simp only[zV]at hlen;cases hce:(es.filter λe=>!seen.contains e.born).isEmpty
    ·rfl
    ·rw[Array.isEmpty_iff]at hce;rw[hce]at hlen;simp at hlen
   have key:∀(i:Nat),i<todo.length->∀w1:World,w1.heap=w.heap->ZT w w1->∃n x w',(n,x)∈todo ∧
    ((match ((es.filter λe=>!seen.contains e.born).map some)[i]? with
     | some (some e)=>do
      setObj r (.mapIter (some b) clk (seen.push e.born) clk)
      pure (.tuple #[.bool true,e.key,e.val])
     | some none=>pure (.tuple #[.bool false])
     | none=>stuck "Next: no such candidate" : Sem Value)).run P w1 = .ok (.tuple #[.bool true, .int k n, c.v x]) w' /\ ZT w w' /\ QT w.heap w'.heap r ∧
    It w'.heap r k c (some b) l (todo.filter λy=>!(y.1==n)) (some (n,x)):=by
    intro i hi w1 hw1 io;have hi':i<(es.filter λe=>!seen.contains e.born).size:=by omega
    let e:=(es.filter λe=>!seen.contains e.born)[i]
    have hei:(es.filter λe=>!seen.contains e.born)[i]?=some e:=by simp[e,hi']
    have hti:(es.toList.filter λe=>!seen.contains e.born)[i]?=some e:=by rw[←hlist,yi];exact hei
    have hty:todo[i]?=some todo[i]:=by simp[hi]
    have hkv:(e.key,e.val)=(Value.int k todo[i].1,c.v todo[i].2):=by
     have:=congrArg (λl=>l[i]?) htodo;simp only[zk,hti,hty,zh,Option.some.injEq]at this;exact this
    simp only[Prod.mk.injEq]at hkv;have hmemF:e∈es.toList.filter λe=>!seen.contains e.born:=zE hti;have hme:e∈es.toList:=(zH.1 hmemF).1;have hns:seen.contains e.born=false:=by simpa using(zH.1 hmemF).2
    refine⟨todo[i].1,todo[i].2,{w1 with heap:=w1.heap.setIfInBounds r (.mapIter (some b) clk (seen.push e.born) clk)},zb _,?_,?_,?_,?_⟩
    ·have hr1:w1.heap[r]?=some (.mapIter (some b) clk seen clk):=by rw[hw1];exact hr
     simp only[Array.getElem?_map,hei,zh,setObj,Sem.run_bind,Sem.run,hr1,Result.andThen_ok,Sem.run_pure,hkv.1,hkv.2]
    ·exact⟨io.1,io.2.1,io.2.2.1,by simp only[Array.size_setIfInBounds];exact io.2.2.2⟩
    ·rw[hw1];exact HW _ _ _
    ·rw[hw1];refine⟨es,clk,seen.push e.born,by simp[hrlt],?_,he,hn,hp,hlt,?_,λx hx=>?_⟩
     ·rw[xY hrb];exact hb
     ·-- the rest
      have hinj:∀e'∈es.toList,(e'.born==e.born)=true->e'=e:=by
       intro e' h1 h2;have h2':e'.born=e.born:=by simpa using h2
       obtain⟨p,hp1,kJ⟩:=uL h1;obtain⟨q,hq1,hq2⟩:=uL hme;have hpw:=zr.1 hp;rcases pa p q with h|h|h
       ·have:=hpw p q (by simpa using hp1) (by simpa using hq1) h;simp[kJ,hq2,h2']at this
       ·subst h;rw[←kJ,hq2]
       ·have:=hpw q p (by simpa using hq1) (by simpa using hp1) h;simp[kJ,hq2,h2']at this
      have hf1:(es.toList.filter λe'=>!(seen.push e.born).contains e'.born)=(es.toList.filter λe'=>!seen.contains e'.born).filter λe'=>!(e'.born==e.born):=by
       rw[Cb];apply wL;intro e' _;simp[Array.contains_eq_mem,Array.mem_push];rw[Bool.and_comm]
       congr 1
      rw[hf1];refine FX _ _ _ _ htodo λj e' y h1 h2=>?_;have hm':e'∈es.toList:=(zH.1 (zE h1)).1;have hkv':(e'.key,e'.val)=(Value.int k y.1,c.v y.2):=by
       have:=congrArg (λl=>l[j]?) htodo;simp only[zk,h1,h2,zh,Option.some.injEq]at this;exact this
      simp only[Prod.mk.injEq]at hkv'
      congr 1
      rw[nP];constructor
      ·intro hb';have:=hinj e' hm' hb';subst this;have:=hkv'.1.symm.trans hkv.1;simp only[Value.int.injEq,uj]at this;simpa using this
      ·intro hy;have hy':y.1=todo[i].1:=by simpa using hy
       have hkk:e'.key=e.key:=by rw[hkv'.1,hkv.1,hy']
       obtain⟨p,hp1,kJ⟩:=uL hm';obtain⟨q,hq1,hq2⟩:=uL hme;have hll:es.toList.length=l.length:=by simpa using congrArg List.length he
       have hk1:∀(p:Nat) (hp:p<es.toList.length),es.toList[p].key=.int k (l[p]' O).1:=by
        intro p hp;have:=congrArg (λl=>l[p]?) he;simp only[zk,cQ hp,cQ (show p<l.length by omega),zh,Option.some.injEq,Prod.mk.injEq]at this;exact this.1
       have e1:=hk1 p hp1;have e2:=hk1 q hq1;rw[kJ]at e1;rw[hq2]at e2;rw[hkk,e2]at e1;simp only[Value.int.injEq,uj]at e1;have:p=q:=by
        have hnn:=zr.1 hn;rcases pa p q with h|h|h
        ·exact absurd (by rw[qU,qU];exact e1.symm) (hnn p q aE aE h)
        ·exact h
        ·exact absurd (by rw[qU,qU];exact e1) (hnn q p aE aE h)
       subst this;rw[←kJ,←hq2];simp
     ·cases hx;refine⟨e,hme,by simp,hkv.1,hkv.2⟩
   have ir:((if(es.filter λe=>!seen.contains e.born).isEmpty then #[none]else #[])++(es.filter λe=>!seen.contains e.born).map some:Array (Option MapEntry))=(es.filter λe=>!seen.contains e.born).map some:=by
    rw[hne];simp
   rw[←htd];rw[hrun _ ir.symm];have hpos:0<todo.length:=by rw[htd];simp
   simp only[Sem.run_bind,choose,Sem.run,Array.size_map,hlen];cases hfo:(Question.mapNext todo.length).forced
   ·simp only[zc,j4,Result.andThen_ok];exact key _ (by simp only[Question.cut];exact uX _ hpos) _ rfl ⟨rfl,rfl,rfl,zC _⟩
   ·simp only[zT,Result.andThen_ok];exact key 0 hpos w rfl (.refl _)
theorem It.MK {P:Program}{r:Nat}{k:IntKind}{c:CK}{m:Option Nat}{l todo:List (Int×c.T)}{n:Int}{x:c.T}{w:World}(hit:It w.heap r k c m l todo (some (n,x))) :
 (Instr.entry (.pointer (some ⟨r,0,none⟩))).run P w=.ok (.tuple #[.int k n,c.v x]) w:=by
 cases m with
 | none=>obtain⟨_,_,h,_⟩:=hit;cases h
 | some b=>
  obtain⟨A,B,z,G,D,K,J,hp,H,s,i⟩:=hit;obtain⟨e,u,a,E,F⟩:=i _ rfl;have g:A.find? (·.born==e.born)=some e:=by
   rw[←Array.find?_toList,List.find?_eq_some_iff_getElem];obtain⟨p,d,kJ⟩:=uL u;refine⟨by simp,p,d,kJ,λj C=>?_⟩;have y:=zr.1 hp j p (by simp;simp at d;omega) (by simpa using d) C;rw[qU,qU,kJ]at y;rw[mS];cases hb2:(A.toList[j].born==e.born)
   ·rfl
   ·have:=za.1 hb2;omega
  simp[Instr.entry,getObj,Sem.run,G,D,a,g,E,F]
def As (k:IntKind)(c:CK)(o:Op)(ρ:Env)(h:Hp)(K:Value->Hp->Prop):Prop:=
 match o with
 | .next x false=>wv (ev ρ x) λv=>match v with
  | .pointer (some a)=>pN k c a h (K (.tuple #[.bool false]) h) λn y h'=>K (.tuple #[.bool true,.int k n,c.v y]) h'
  | _=>False
 | .entry x=>wv (ev ρ x) λv=>match v with
  | .pointer (some a)=>qf k c a h λn y=>K (.tuple #[.int k n,c.v y]) h
  | _=>False
 | _=>False
theorem It.spot {a:Addr}(h:a.off=0):∃s,a=⟨a.block,0,s⟩:=⟨a.spot,by cases a;simp at h;subst h;rfl⟩
theorem θ {P:Program}{k:IntKind}{c:CK}{ρ:Env}{K:Value->Hp->Prop}{a:Act}{w:World}(hf:∀x v,ev ρ x=some v->a.eval x=v)(o:Oper)(hk:As k c o.op ρ w.heap K):VK P (execOp a.eval o) w K:=by
 obtain⟨A,op,u,pos,i,p⟩:=o;simp only at hk;unfold As at hk;split at hk
 ·rename_i x;obtain⟨v,r,hk⟩:=Ws hk;simp only[execOp,hf _ _ r];split at hk
  case h_2=>exact hk.elim
  rename_i ad;obtain⟨g,m,l,e,z,d,D,B⟩:=hk;obtain⟨s,j⟩:=It.spot g;have b:∀w:World,(Instr.next (.pointer (some ad)) false u).run P w=(Instr.next (.pointer (some ⟨ad.block,0,none⟩)) false u).run P w:=by
   intro w;rw[j];rfl
  rcases d.oe (P:=P) u with⟨ht,w',hr,io,hh⟩|⟨n,y,w',hm,hr,io,ho,hi'⟩
  ·exact .inl ⟨.tuple #[.bool false],w',by simp[b,hr],io,by rw[hh];exact D ht⟩
  ·exact .inl ⟨.tuple #[.bool true,.int k n,c.v y],w',by simp[b,hr],io,B n y hm _ ho hi'⟩
 ·rename_i x;obtain⟨v,r,hk⟩:=Ws hk;simp only[execOp,hf _ _ r];split at hk
  case h_2=>exact hk.elim
  rename_i ad;obtain⟨g,m,l,e,n,y,d,C⟩:=hk;obtain⟨s,j⟩:=It.spot g;have b:(Instr.entry (.pointer (some ad))).run P w=(Instr.entry (.pointer (some ⟨ad.block,0,none⟩))).run P w:=by
   rw[j];rfl
  exact .inl ⟨.tuple #[.int k n,c.v y],w,by simp[b,d.MK (P:=P)],.refl _,C⟩
 ·exact hk.elim
structure Fits (N:Nat) (ρ:Env) (a:Act):Prop where
 defers:a.defers=[]
 size:a.tmps.size=N
 at_:∀i v,ρ i=some v->a.tmps[i]?=some v
theorem Fits.ev {N:Nat}{ρ:Env}{a:Act}(h:Fits N ρ a):∀x v,ev ρ x=some v->a.eval x=v:=by
 intro x v hx;cases x with
 | tmp t=>
  have:=h.at_ t v hx;simp[Act.eval,se,this]
 | const u=>simp only[Vc.ev,Option.some.injEq]at hx;exact hx
 | global g=>simp only[Vc.ev,Option.some.injEq]at hx;exact hx
 | func f=>simp only[Vc.ev,Option.some.injEq]at hx;exact hx
def ug (N:Nat):Option Nat->Bool
 | some d=>Nat.blt d N
 | none=>true
theorem Fits.put {N:Nat}{ρ:Env}{a:Act}(h:Fits N ρ a){d:Option Nat}(hd:ug N d=true)(v:Value):Fits N (ρ.iV d v) (a.put d v):=by
 cases d with
 | none=>exact h
 | some d=>
  have g:d<N:=Nat.blt_eq.mp hd;refine⟨h.defers,by simp[Act.put,h.size],λi u b=>?_⟩;simp only[Env.iV,Env.put]at b;cases hi:Nat.beq i d
  ·rw[hi]at b;have j:i≠d:=λe=>by subst e;simp at hi
   simp only[Act.put];rw[xY (Ne.symm j)];exact h.at_ i u b
  ·rw[hi]at b;have e:i=d:=lJ hi;subst e;simp only[cond_true,Option.some.injEq]at b;subst b;simp[Act.put,h.size,g]
theorem Fits.weaken {N:Nat}{ρ ρ':Env}{a:Act}(h:Fits N ρ a)(hw:∀i v,ρ' i=some v->ρ i=some v):Fits N ρ' a:=
 ⟨h.defers,h.size,λi v b=>h.at_ i v (hw i v b)⟩
theorem C7 (ρ:Env)(ds:List Nat):∀i v,ρ.fD ds i=some v->ρ i=some v:=by
 intro i v h;simp only[Env.fD]at h;cases hc:ds.contains i<;>rw[hc]at h<;>simp at h
 exact h
theorem Fits.lit {N:Nat}{ρ:Env}{a:Act}(h:Fits N ρ a){c:Nat}{b b':Bool}(hc:ρ c=some (.bool b))(e:b=b'):Fits N (ρ.put c (.bool b')) a:=by
 subst e;refine h.weaken λi v d=>?_;simp only[Env.put]at d;cases hi:Nat.beq i c
 ·rw[hi]at d;exact d
 ·rw[hi]at d;have e:i=c:=lJ hi;subst e;rw[hc];exact d
def pI (ops:Array Oper)(o:Oper)(ρ:Env):Bool:=
 match o.guard with
 | none=>true
 | some (j,want)=>match (ops[j]?).bind (·.dst)with
  | some c=>match ρ c with
   | some (.bool b)=>b==want
   | _=>false
  | none=>false
def sX (ops:Array Oper)(o:Oper)(ρ:Env):Bool:=
 match o.guard with
 | none=>false
 | some (j,want)=>match (ops[j]?).bind (·.dst)with
  | some c=>match ρ c with
   | some (.bool b)=>!(b==want)
   | some (.tuple _)=>true
   | _=>false
  | none=>false
theorem Qu {N:Nat}{ops:Array Oper}{o:Oper}{ρ:Env}{a:Act}(hf:Fits N ρ a)(h:pI ops o ρ=true):Region.wanted o (yielded ops a.tmps)=true:=by
 unfold pI at h;unfold Region.wanted;cases hg:o.guard with
 | none=>rfl
 | some jw=>
  obtain⟨j,d⟩:=jw;rw[hg]at h;simp only at h ⊢;cases hc:(ops[j]?).bind (·.dst)with
  | none=>rw[hc]at h;cases h
  | some c=>
   rw[hc]at h;simp only at h;split at h
   ·rename_i b hb;have:=hf.at_ c _ hb;simp only[yielded,hc,Option.bind_some,this];simpa using h
   ·cases h
theorem V3 {N:Nat}{ops:Array Oper}{o:Oper}{ρ:Env}{a:Act}(hf:Fits N ρ a)(h:sX ops o ρ=true):Region.wanted o (yielded ops a.tmps)=false:=by
 unfold sX at h;unfold Region.wanted;cases hg:o.guard with
 | none=>rw[hg]at h;cases h
 | some jw=>
  obtain⟨j,d⟩:=jw;rw[hg]at h;simp only at h ⊢;cases hc:(ops[j]?).bind (·.dst)with
  | none=>rw[hc]at h;cases h
  | some c=>
   rw[hc]at h;simp only at h;split at h
   ·rename_i b hb;have:=hf.at_ c _ hb;simp only[yielded,hc,Option.bind_some,this];simpa using h
   ·rename_i b hb;have:=hf.at_ c _ hb;simp only[yielded,hc,Option.bind_some,this];rfl
   ·cases h
def G5 (N:Nat)(ops:Array Oper):List Oper->Env->Bool
 | [],_=>true
 | o::os,ρ=>sX ops o ρ&&(ug N o.dst&&G5 N ops os (ρ.iV o.dst undef))
theorem Jj {P:Program}{N:Nat}{ops:Array Oper}{Q:Exit->Act->World->Prop}{tail:List Oper}{w:World}:∀{os:List Oper} {ρ:Env} {a:Act},G5 N ops os ρ=true->Fits N ρ a →
 (∀a',Fits N (ρ.fD (os.filterMap (·.dst))) a'->wpList P ops Q tail a' w)->wpList P ops Q (os++tail) a w
 | [],ρ,a,_,hf,h=>h a (hf.weaken (C7 _ _))
 | o::os,ρ,a,hs,hf,h=>by
  simp only[G5,zF]at hs;obtain⟨h1,h2,h3⟩:=hs;have m:=V3 hf h1;simp only[lT,wpList,m];refine Jj h3 (hf.put h2 _) λa' g=>h a' (g.weaken λi v b=>?_);simp only[Env.fD]at b ⊢;cases hc:(List.filterMap (·.dst) (o::os)).contains i
  ·rw[hc]at b;simp only[cond_false]at b;have j:(List.filterMap (·.dst) os).contains i=false:=by
    cases hd:o.dst<;>simp_all
   have e:∀d,o.dst=some d->i≠d:=by
    intro d hd;simp_all
   rw[j];simp only[cond_false];cases hd:o.dst with
   | none=>exact b
   | some d=>
    have:=e d hd;simp only[Env.iV,Env.put];have:Nat.beq i d=false:=by
     cases hb:Nat.beq i d
     ·rfl
     ·exact absurd (lJ hb) this
    rw[this];exact b
  ·rw[hc]at b;cases b
theorem Ew {P:Program}{N:Nat}{ops:Array Oper}{Q:Act->Prop}{tail:List Oper}{w:World}:∀{os:List Oper} {ρ:Env} {a:Act},G5 N ops os ρ=true->Fits N ρ a →
 (∀a',Fits N (ρ.fD (os.filterMap (·.dst))) a'->wpStill P ops w Q tail a')->wpStill P ops w Q (os++tail) a
 | [],ρ,a,_,hf,h=>h a (hf.weaken (C7 _ _))
 | o::os,ρ,a,hs,hf,h=>by
  simp only[G5,zF]at hs;obtain⟨h1,h2,h3⟩:=hs;have m:=V3 hf h1;simp only[lT,wpStill,m];refine Ew h3 (hf.put h2 _) λa' g=>h a' (g.weaken λi v b=>?_);simp only[Env.fD]at b ⊢;cases hc:(List.filterMap (·.dst) (o::os)).contains i
  ·rw[hc]at b;simp only[cond_false]at b;have j:(List.filterMap (·.dst) os).contains i=false:=by
    cases hd:o.dst<;>simp_all
   have e:∀d,o.dst=some d->i≠d:=by
    intro d hd;simp_all
   rw[j];simp only[cond_false];cases hd:o.dst with
   | none=>exact b
   | some d=>
    have:=e d hd;simp only[Env.iV,Env.put];have:Nat.beq i d=false:=by
     cases hb:Nat.beq i d
     ·rfl
     ·exact absurd (lJ hb) this
    rw[this];exact b
  ·rw[hc]at b;cases b
def bW (K:aO)(body:(Bool->Hp->Prop)->Prop):Prop:=∃J:Bool->Hp->Prop,(∀r h,J r h->K r h)/\body J
theorem bW.intro {K:aO}{body:(Bool->Hp->Prop)->Prop}(h:body K):bW K body:=⟨K,λ_ _ h=>h,h⟩
inductive RI where
 | op
 | it (k:IntKind) (c:CK)
 | cY (and:Bool) (n:Nat) (inner:List RI)
def AJ (b:Bool):Operand->Bool
 | .const (.bool b')=>b'==b
 | _=>false
def HY (ρ:Env)(x:Operand)(K:Bool->Prop):Prop:=match ev ρ x with
 | some (.bool r)=>K r
 | _=>False
def sY (ρ:Env)(c:Nat)(b:Bool):Bool:=match ρ c with
 | some (.bool b')=>b'==b
 | _=>false
def fQ (P:Program)(N:Nat)(ops:Array Oper):Nat->List RI->List Oper->Env->Hp->(Env->Hp->Prop)->Prop
 | 0,_,_,_,_,_=>False
 | _+1,[],[],ρ,h,K=>K ρ h
 | n+1,.op::hs,o::os,ρ,h,K=>gT (pI ops o ρ&&ug N o.dst) (wk P o.op o.type ρ h λv h'=>fQ P N ops n hs os (ρ.iV o.dst v) h' K)
 | n+1,.it ki c::hs,o::os,ρ,h,K=>gT (pI ops o ρ&&ug N o.dst) (As ki c o.op ρ h λv h'=>fQ P N ops n hs os (ρ.iV o.dst v) h' K)
 | n+1,.cY and m inner::hs,os,ρ,h,K=>
  match os.drop m with
  | pk::rest=>match pk.op,pk.dst with
   | .pick (.tmp c) x y,some d=>match ρ c with
    | some (.bool b)=>gT (Nat.blt d N&&(AJ (!and) (bif and then y else x)&&(pI ops pk (ρ.fD ((os.take m).filterMap (·.dst)))&&(sY ((ρ.put c (.bool (!and))).fD ((os.take m).filterMap (·.dst))) c (!and)&&G5 N ops (os.take m) (ρ.put c (.bool (!and)))))))
     (bW (λr h'=>fQ P N ops n hs rest ((ρ.fD ((os.take m).filterMap (·.dst))).put d (.bool r)) h' K) λJ=>
      bif and then If b (fQ P N ops n inner (os.take m) (ρ.put c (.bool true)) h λρ' h'=>gT (pI ops pk ρ'&&sY ρ' c true) (HY ρ' x λr=>J r h')) (J false h)
      else If b (J true h) (fQ P N ops n inner (os.take m) (ρ.put c (.bool false)) h λρ' h'=>gT (pI ops pk ρ'&&sY ρ' c false) (HY ρ' y λr=>J r h')))
    | _=>False
   | _,_=>False
  | []=>False
 | _,_,_,_,_,_=>False
theorem DX {P:Program}{ρ:Env}{K:Value->Hp->Prop}{a:Act}{w:World}(hf:∀x v,ev ρ x=some v->a.eval x=v)(o:Oper)(hk:wk P o.op o.type ρ w.heap K) :
 VK P (execOp a.eval o) w K:=by
 unfold wk at hk;cases hq:s7 o.op
 ·rw[hq]at hk;exact Sr hf o hk
 ·rw[hq]at hk;obtain⟨v,d,b⟩:=yq hf o hk;exact .inl ⟨v,w,d,.refl _,b⟩
theorem Hj {ρ:Env}{x:Operand}{K:Bool->Prop}(h:HY ρ x K):∃r,ev ρ x=some (.bool r)/\K r:=by
 unfold HY at h;split at h
 ·exact⟨_,by assumption,h⟩
 ·exact h.elim
theorem F8 {b:Bool}{x:Operand}(h:AJ b x=true)(ρ:Operand->Value)(hc:∀v,ρ (.const v)=v):ρ x=.bool b:=by
 unfold AJ at h;split at h
 ·rw[hc];simp at h;rw[h]
 ·cases h
theorem TQ {P:Program}{a:Act}{w:World}{o:Oper}{c x y:Operand}{b r:Bool}{K:Value->Hp->Prop}(ho:o.op=.pick c x y)(hc:a.eval c=.bool b)(hr:a.eval (bif b then x else y)=.bool r)(hK:K (.bool r) w.heap) :
 VK P (execOp a.eval o) w K:=by
 obtain⟨g,op,i,pos,e,d⟩:=o;simp only at ho;subst ho;refine .inl ⟨_,w,?_,.refl _,hK⟩;cases b<;>simp at hr<;>simp[execOp,hc,asBool,hr]
def Hx (os:List Oper)(ρ ρ':Env):Prop:=∀i,(os.filterMap (·.dst)).contains i=false->∀v,ρ i=some v->ρ' i=some v
theorem Hx.cons {o:Oper}{os:List Oper}{ρ ρ':Env}{v:Value}(h:Hx os (ρ.iV o.dst v) ρ'):Hx (o::os) ρ ρ':=by
 intro i hi u hu;cases hd:o.dst with
 | none=>rw[hd]at h;exact h i (by simpa[hd]using hi) u hu
 | some d=>
  rw[hd]at h;simp[hd]at hi;refine h i (by simpa using hi.2) u ?_;simp only[Env.iV,Env.put];have:Nat.beq i d=false:=by
   cases hb:Nat.beq i d
   ·rfl
   ·exact absurd (lJ hb) hi.1
  rw[this];exact hu
theorem Hx.cY {os rest:List Oper}{pk:Oper}{m d:Nat}{ρ ρ':Env}{r:Bool}(hd:pk.dst=some d)(hdrop:os.drop m=pk::rest)(h:Hx rest ((ρ.fD ((os.take m).filterMap (·.dst))).put d (.bool r)) ρ'):Hx os ρ ρ':=by
 intro i hi u hu;rw[←mZ m os,hdrop,xw,AO,hd]at hi;simp only[sN,zS,zW,decide_eq_false_iff_not,not_or]at hi;refine h i (by simpa using hi.2.2) u ?_;simp only[Env.put,Env.fD];have:Nat.beq i d=false:=by
  cases hb:Nat.beq i d
  ·rfl
  ·exact absurd (lJ hb) hi.2.1
 rw[this];have a:((os.take m).filterMap (·.dst)).contains i=false:=by simpa using hi.1
 rw[a];exact hu
theorem Fits.xK {N:Nat}{os:List Oper}{ρ ρ':Env}{a:Act}{c:Nat}{b b':Bool}(h:Fits N ρ' a)(hc:ρ c=some (.bool b))(e:b=b')(k:Hx os (ρ.put c (.bool b')) ρ'):Fits N (ρ.fD (os.filterMap (·.dst))) a:=by
 refine h.weaken λi v d=>?_;simp only[Env.fD]at d;cases hci:(os.filterMap (·.dst)).contains i
 ·rw[hci]at d;refine k i hci v ?_;simp only[Env.put];cases hb:Nat.beq i c
  ·exact d
  ·have e2:i=c:=lJ hb;subst e2;simp only[cond_false]at d;rw[hc]at d;simp only[cond_true];rw[←e];exact d
 ·rw[hci]at d;cases d
theorem yl {ρ:Env}{c:Nat}{b:Bool}(h:sY ρ c b=true):ρ c=some (.bool b):=by
 unfold sY at h;split at h
 ·rename_i b' hb;simp at h;rw[hb,h]
 ·cases h
theorem VE {P:Program}{N:Nat}{ops:Array Oper}{Q:Exit->Act->World->Prop}:∀(n:Nat) {hs:List RI} {os:List Oper} {tail:List Oper} {ρ:Env} {a:Act} {w:World} {K:Env->Hp->Prop},
 fQ P N ops n hs os ρ w.heap K->Fits N ρ a->(∀ρ' a' w',Fits N ρ' a'->ZT w w'->Hx os ρ ρ'->K ρ' w'.heap->wpList P ops Q tail a' w')->wpList P ops Q (os++tail) a w
 | 0,_,_,_,_,_,_,_,h,_,_=>(by simp only[fQ]at h)
 | n+1,[],[],tail,ρ,a,w,K,h,hf,hK=>by
  simp only[fQ]at h;exact hK ρ a w hf (.refl _) (λ_ _ _ h=>h) h
 | n+1,[],o::os,tail,ρ,a,w,K,h,hf,hK=>(by simp only[fQ]at h)
 | n+1,.op::hs,[],tail,ρ,a,w,K,h,hf,hK=>(by simp only[fQ]at h)
 | n+1,.op::hs,o::os,tail,ρ,a,w,K,h,hf,hK=>by
  simp only[fQ]at h;rw[WG]at h;obtain⟨hc,h⟩:=h;simp only[zF]at hc;have S:=Qu hf hc.1;simp only[lT,wpList,S,zT];refine .inl (VK.upon (DX hf.ev o h) λv w' D p=>?_);exact VE n p (hf.put hc.2 v) λρ' a' A g s E j=>hK ρ' a' A g (D.trans s) E.cons j
 | n+1,.it ki c::hs,[],tail,ρ,a,w,K,h,hf,hK=>(by simp only[fQ]at h)
 | n+1,.it ki c::hs,o::os,tail,ρ,a,w,K,h,hf,hK=>by
  simp only[fQ]at h;rw[WG]at h;obtain⟨hc,h⟩:=h;simp only[zF]at hc;have S:=Qu hf hc.1;simp only[lT,wpList,S,zT];refine .inl (VK.upon (θ hf.ev o h) λv w' D p=>?_);exact VE n p (hf.put hc.2 v) λρ' a' A g s E j=>hK ρ' a' A g (D.trans s) E.cons j
 | n+1,.cY and m inner::hs,os,tail,ρ,a,w,K,h,hf,hK=>by
  simp only[fQ]at h;split at h
  case h_2=>exact h.elim
  rename_i pk rest hdrop;split at h
  case h_2=>exact h.elim
  rename_i c x y d hop hd;split at h
  case h_2=>exact h.elim
  rename_i b hb;rw[WG]at h;obtain⟨hc,J,hJ,h⟩:=h;simp only[zF]at hc;obtain⟨mF,G,U,V,C⟩:=hc;have ab:ug N pk.dst=true:=by rw[hd];exact mF
  have W:os++tail=os.take m++(pk::rest++tail):=by
   rw[←hdrop,←zm,mZ]
  rw[W];have u:∀(r b':Bool) (z:Operand) a' w',b=b'->(bif b' then x else y)=z->Fits N (ρ.fD ((os.take m).filterMap (·.dst))) a'->ZT w w'->J r w'.heap->Region.wanted pk (yielded ops a'.tmps)=true →
   a'.eval (.tmp c)=.bool b'->a'.eval z=.bool r->wpList P ops Q (pk::rest++tail) a' w':=by
   intro r b' z a' w' e ez g D F S B hez;simp only[lT,wpList,S,zT];refine .inl (VK.upon (K:=λv X=>v=.bool r/\X=w'.heap) (TQ hop B (by rw[ez];exact hez) ⟨rfl,rfl⟩) λv A s p=>?_);obtain⟨rfl,hh⟩:=p;have Z:=g.put (d:=some d) mF (.bool r);rw[hd];have L:=hJ _ _ F;rw[←hh]at L;exact VE n L Z λρ' Y w3 R M E j=>hK ρ' Y w3 R ((D.trans s).trans M) (Hx.cY hd hdrop E) j
  have run:∀(b':Bool) (z:Operand),b=b'->(bif b' then x else y)=z →
   fQ P N ops n inner (os.take m) (ρ.put c (.bool b')) w.heap (λρ' X=>gT (pI ops pk ρ'&&sY ρ' c b') (HY ρ' z λr=>J r X))->wpList P ops Q (os.take m++(pk::rest++tail)) a w:=by
   intro b' z e ez hseg;refine VE n hseg (hf.lit hb e) λρ' a' w' g D E p=>?_;rw[WG]at p;simp only[zF]at p;obtain⟨⟨hg,aa⟩,p⟩:=p;obtain⟨r,hr,F⟩:=Hj p;exact u r b' z a' w' e ez (g.xK hb e E) D F (Qu g hg) (g.ev _ _ (yl aa)) (g.ev _ _ hr)
  have skip:∀(b':Bool),b=b'->b' = !and->J (!and) w.heap->wpList P ops Q (os.take m++(pk::rest++tail)) a w:=by
   intro b' e eb F;subst eb;refine Jj C (hf.lit hb e) λa' g=>?_;have H:Fits N (ρ.fD ((os.take m).filterMap (·.dst))) a':=g.xK (ρ':=(ρ.put c (.bool (!and))).fD ((os.take m).filterMap (·.dst))) hb e (λi hi v hv=>by simp only[Env.fD,hi];exact hv);have B:=g.ev (.tmp c) _ (yl V);refine u (!and) (!and) (bif (!and)then x else y) a' w e rfl H (.refl _) F (Qu H U) B ?_;refine F8 ?_ _ (λv=>rfl);cases and<;>exact G
  cases and
  ·simp only[cond_false]at h;cases b
   ·exact run false y rfl rfl (h.f rfl)
   ·exact skip true rfl rfl (h.t rfl)
  ·simp only[cond_true]at h;cases b
   ·exact skip false rfl rfl (h.f rfl)
   ·exact run true x rfl rfl (h.t rfl)
variable {P:Program}{ops:Array Oper}{Q:Exit->Act->World->Prop}
def xv (ops:Array Oper)(k i:Nat):Bool:=match ops[k]? with
 | none=>false
 | some o=>o.after.toList.any λe=>Region.binds .any e&&Nat.beq e.on i
def TS (S:World->Prop)(C:List Nat)(listed:Array Bool)(w:World):Prop:=S w\/∃k∈C,listed.getD k false=true
def anyS (P:Program)(ops:Array Oper)(Q:Exit->Act->World->Prop)(S:World->Prop)(C:List Nat):Nat->Array Bool->Act->World->Prop
 | 0,listed,a,w=>Region.ready .any ops listed=[]/\Q .normal a w
 | m+1,listed,a,w=>(Region.ready .any ops listed=[]->Q .normal a w) ∧
  ∀i,i∈Region.ready .any ops listed->wpOp P ops Q i (λa' w'=>TS S C (listed.setIfInBounds i true) w'/\anyS P ops Q S C m (listed.setIfInBounds i true) a' w') a w
theorem EF {S:World->Prop}{C:List Nat}:∀(m:Nat) (listed:Array Bool) (a:Act) (w:World),anyS P ops Q S C m listed a w->wpAny P .any ops Q m listed a w
 | 0,_,_,_,h=>h
 | m+1,_,_,_,h=>⟨h.1,λi hi=>wpOp_mono (λ_ _ h'=>EF m _ _ _ h'.2) (h.2 i hi)⟩
theorem TS.out {S:World->Prop}{C:List Nat}{listed:Array Bool}{w:World}(h:TS S C listed w)(hn:∀k∈C,listed.getD k false=false):S w:=by
 rcases h with h|⟨k,hk,hl⟩
 ·exact h
 ·rw[hn k hk]at hl;cases hl
theorem PZ {k i:Nat}{o:Oper}(ho:ops[k]?=some o)(hno:∀e∈o.after,Region.binds .any e=true->e.on≠i):xv ops k i=false:=by
 unfold xv;rw[ho];simp only;rw[mE];intro e he hb;simp only[zF]at hb;exact hno e (by simpa using he) hb.1 (lJ hb.2)
theorem TS.drop {S:World->Prop}{C:List Nat}{listed:Array Bool}{w:World}{i j:Nat}(hij:i≠j)(hi:∀k∈C,k≠i)(h:TS S C ((listed.setIfInBounds i true).setIfInBounds j true) w):TS S C (listed.setIfInBounds j true) w:=by
 refine h.imp id ?_;rintro⟨k,hk,hl⟩;refine⟨k,hk,?_⟩;rw[Array.setIfInBounds_comm _ _ hij,getD_set_ne false (Ne.symm (hi k hk))]at hl;exact hl
theorem TK {S T:World->Prop}{C:List Nat}{i:Nat}{oi:Oper}{v:Value}(hi:ops[i]?=some oi)(hsel:∀(j:Nat) (o:Oper) cs b,ops[j]?=some o->o.op≠.select cs b)
 (hQ:∀c a w,Q (.panic c) (a.put oi.dst v) w->Q (.panic c) a w) (hiC:∀k∈C,k≠i) (hT:(∀w,T w)\/((∀w,S w->T w)/\∀k∈C,xv ops k i=true)) :
 ∀(m:Nat) (listed:Array Bool) (a:Act) (w:World),
  (∀j oj,ops[j]?=some oj->j≠i->listed.getD j true=false->(∀e∈oj.after,Region.binds .any e=true->e.on≠i)->oi.apart ops oj=true) →
  i∈Region.ready .any ops listed->((∀w,T w)\/∀k∈C,listed.getD k false=false)->YieldsIf P ops T oi v a->TS S C listed w →
  anyS P ops Q S C m (listed.setIfInBounds i true) (a.put oi.dst v) w->anyS P ops Q S C (m+1) listed a w:=by
 have s:∀{listed:Array Bool} {a:Act} {w:World} {K:Act->World->Prop},((∀w,T w)\/∀k∈C,listed.getD k false=false)->YieldsIf P ops T oi v a->TS S C listed w->K (a.put oi.dst v) w →
  wpOp P ops Q i (λG D=>TS S C (listed.setIfInBounds i true) D/\K G D) a w:=by
  intro listed a w K g hy hS hK;refine hy.wpOp hi ?_ ⟨?_,hK⟩
  ·rcases hT with hT|⟨hT,_⟩
   ·exact hT w
   ·rcases g with g|g
    ·exact g w
    ·exact hT w (hS.out g)
  ·refine hS.imp id ?_;rintro⟨k,u,hl⟩;exact⟨k,u,by rw[getD_set_ne false (Ne.symm (hiC k u))];exact hl⟩
 intro m
 induction m with
 | zero=>
  intro listed a w _ hr g hy hS H;refine⟨λh=>by rw[h]at hr;simp at hr,λj B=>?_⟩;by_cases hji:j=i
  ·rw[hji];exact s g hy hS H
  ·have p:=ready_mono B hji;rw[H.1]at p;simp at p
 | succ m ih=>
  intro listed a w hfree hr g hy hS H;refine⟨λh=>by rw[h]at hr;simp at hr,λj B=>?_⟩;by_cases hji:j=i
  ·rw[hji];exact s g hy hS H
  ·obtain⟨x,oj,r,z⟩:=mem_ready.1 B;have d:=(mem_ready.1 hr).1;have y:∀e∈oj.after,Region.binds .any e=true->e.on≠i:=by
    intro e he hb heq;have p:=z e he hb;rw[heq]at p;rw[se]at p d;cases hg:listed[i]? with
    | none=>rw[hg]at p;cases p
    | some b=>rw[hg]at p d;simp only[oZ]at p d;rw[d]at p;cases p
   have M:=wpOp_putIf r (hfree j oj r hji x y) (λcs b=>hsel i oi cs b hi) (λcs b=>hsel j oj cs b r) hQ hy (H.2 j (ready_mono B hji));refine wpOp_mono (λG D E=>?_) M;have A:=E.2.1.drop (Ne.symm hji) hiC;refine⟨A,ih _ G D (λk ok u J L F=>?_) (ready_mono hr (Ne.symm hji)) ?_ E.1 A ?_⟩
   ·refine hfree k ok u J ?_ F;by_cases hjk:j=k
    ·rw[←hjk];exact x
    ·rwa [getD_set_ne true hjk]at L
   ·rcases hT with hT|⟨_,hw⟩
    ·exact .inl hT
    refine g.imp id λg k u=>?_;by_cases hjk:j=k
    ·exfalso;have:=hw k u;rw[←hjk,PZ r y]at this;cases this
    ·rw[getD_set_ne false hjk];exact g k u
   ·rw[Array.setIfInBounds_comm _ _ hji];exact E.2.2
theorem Dh {S T:World->Prop}{C:List Nat}{i m:Nat}{oi:Oper}{v:Value}{listed:Array Bool}{a:Act}{w:World}(hi:ops[i]?=some oi)(hs:Region.noSelect ops=true)(hf:Region.free .any ops listed i=true)
 (hr:i∈Region.ready .any ops listed) (hQ:∀c a w,Q (.panic c) (a.put oi.dst v) w->Q (.panic c) a w) (hiC:C.contains i=false)
 (hT:(∀w,T w)\/((∀w,S w->T w)/\∀k∈C,xv ops k i=true)) (hn:(∀w,T w)\/∀k∈C,listed.getD k false=false) (hy:YieldsIf P ops T oi v a) (hS:TS S C listed w)
 (h:anyS P ops Q S C m (listed.setIfInBounds i true) (a.put oi.dst v) w):anyS P ops Q S C (m+1) listed a w:=
 TK hi (Region.noSelect_spec hs) hQ (λk b e=>by subst e;rw[tf.2 b]at hiC;cases hiC) hT m listed a w (Region.free_spec hi hf) hr hn hy hS h
theorem SO {S:World->Prop}{C:List Nat}{rs:List Nat}{m:Nat}{listed:Array Bool}{a:Act}{w:World}(hr:Region.ready .any ops listed=rs)(hne:rs≠[])
 (h:∀i∈rs,wpOp P ops Q i (λa' w'=>TS S C (listed.setIfInBounds i true) w'/\anyS P ops Q S C m (listed.setIfInBounds i true) a' w') a w):anyS P ops Q S C (m+1) listed a w:=
 ⟨λb=>absurd (hr▸b) hne,hr▸h⟩
theorem Pv {S:World->Prop}{C:List Nat}{listed:Array Bool}{a:Act}{w:World}(hr:Region.ready .any ops listed=[])(h:Q .normal a w):∀m,anyS P ops Q S C m listed a w
 | 0=>⟨hr,h⟩
 | _+1=>⟨λ_=>h,by rw[hr];simp⟩
theorem Hz {S:World->Prop}{C:List Nat}{id:Nat}{a:Act}{w:World}(hm:P.follows .mixedOrders=true)
 (h:anyS P ops Q S C ops.size (Array.replicate ops.size false) a {w with drawn:=w.drawn+1}):(Code.region id ops true).wp P Q a w:=
 wp_region_any hm (EF _ _ _ _ h)
end Go.Vc
namespace Go.Vc
open Go
def rY (P:Program):Op->Bool
 | .load _ _=>false
 | .lookup .. => false
 | .typeAssert .. => false
 | .binOp _ t _ y _=>match P.underlying t with
  | some (.pointer _)=>tj y
  | _=>true
 | .convert s _ _=>match P.underlying s with
  | some (.slice _)=>false
  | _=>true
 | .call c=>match c.callee,c.argTypes.toList with
  | .builtin .len,[t]=>match P.underlying t with
   | some (.map _ _)=>false
   | some _=>true
   | none=>false
  | .builtin .cap,_=>true
  | .builtin .max,_=>true
  | .builtin .min,_=>true
  | _,_=>false
 | o=>s7 o
theorem C6 {op:BinOp}{k:IntKind}{x y:Int}{K:Value->Prop}(h:qC op k x y K):∃v,K v/\qC op k x y (· = v):=by
 cases op<;>simp only[qC,Ar,Nz,Nn]at h ⊢
 all_goals first
  | exact⟨_,h,rfl⟩
  | exact⟨_,h.2,h.1,rfl⟩
theorem GC {op:BinOp}{b:Bool}{K:Value->Prop}(h:nN op b K):∃v,K v/\nN op b (· = v):=by
 cases op<;>simp only[nN]at h ⊢ <;> first|exact h.elim|exact⟨_,h,rfl⟩
theorem χ {P:Program}{op:BinOp}{t:Nat}{x y:Value}{K:Value->Prop}(h:mh P op t x y K):∃v,K v/\mh P op t x y (· = v):=by
 unfold mh at h ⊢;split at h
 ·obtain⟨v,a,b⟩:=GC h;exact⟨v,a,by simp only[*]⟩
 ·obtain⟨v,a,b⟩:=GC h;exact⟨v,a,by simp only[*]⟩
 ·obtain⟨v,a,b⟩:=GC h;exact⟨v,a,by simp only[*]⟩
 ·obtain⟨d,h⟩:=h;obtain⟨v,a,b⟩:=GC h;exact⟨v,a,by simp only[*];trivial⟩
 ·exact h.elim
theorem MV {P:Program}{op:BinOp}{t:Nat}{x y:Value}{K:Value->Prop}(h:mq P op t x y K):∃v,K v/\mq P op t x y (· = v):=by
 unfold mq at h ⊢;split at h
 ·split at h
  ·obtain⟨v,a,b⟩:=C6 h;exact⟨v,a,by simpa[*]using b⟩
  ·rename_i hne;cases op<;>simp only at h
   all_goals try exact h.elim
   ·obtain⟨v,a,b⟩:=C6 h;exact⟨v,a,by simpa[hne]using b⟩
   ·obtain⟨v,a,b⟩:=C6 h;exact⟨v,a,by simpa[hne]using b⟩
 ·split at h
  ·obtain⟨v,a,b⟩:=GC h;exact⟨v,a,by simp only[*]⟩
  ·exact h.elim
 ·cases op<;>simp only at h ⊢ <;> first|exact h.elim|exact⟨_,h,rfl⟩
 ·exact h.elim
theorem RX {P:Program}{op:BinOp}{t:Nat}{xs ys:List Value}{K:Value->Prop}(h:oC P op t xs ys K):∃v,K v/\oC P op t xs ys (· = v):=by
 unfold oC at h ⊢;split at h
 case h_3=>exact h.elim
 all_goals
  rename_i hu;rw[WG]at h;obtain⟨e,h⟩:=h;split at h
  case h_2=>exact h.elim
  rename_i b hb;obtain⟨v,d,a⟩:=GC h;exact⟨v,d,by simp only[hu,WG,hb];exact⟨e,a⟩⟩
theorem LV {P:Program}{op:BinOp}{t:Nat}{y:Operand}{vx vy:Value}{hp:Hp}{K:Value->Prop}(hpure:(match P.underlying t with|some (.pointer _)=>tj y|_=>true)=true)(h:wz P op t y vx vy hp K):∃v,K v/\∀hp',wz P op t y vx vy hp' (· = v):=by
 unfold wz at h ⊢;cases hn:tj y
 ·rw[hn]at h;simp only[cond_false]at h ⊢;split at h
  ·obtain⟨v,a,b⟩:=RX h;exact⟨v,a,λ_=>b⟩
  ·exfalso;unfold q8 at h;split at h
   ·rename_i e hu;rw[hu]at hpure;simp only[hn]at hpure;cases hpure
   ·exact h
  ·obtain⟨v,a,b⟩:=MV h;exact⟨v,a,λ_=>by simpa only using b⟩
 ·rw[hn]at h;obtain⟨v,a,b⟩:=χ h;exact⟨v,a,λ_=>b⟩
theorem u7 {o:Option Value}{K:Value->Prop}(h:wv o K):∃v,K v/\wv o (· = v):=by
 obtain⟨v,rfl,a⟩:=Ws h;exact⟨v,a,rfl⟩
theorem NY {P:Program}{t off:Nat}{cs:List Value}{K:Value->Prop}(h:uy P t cs off K):∃v,K v/\uy P t cs off (· = v):=by
 unfold uy at h ⊢;split at h
 case h_2=>exact h.elim
 rename_i d ti hu hi;cases hd:UO d
 ·rw[hd]at h;obtain⟨v,b,a⟩:=u7 h;exact⟨v,b,by simpa[hd]using a⟩
 ·rw[hd]at h;exact⟨_,h,by simp⟩
theorem Mb {P:Program}{t:Nat}{ps:List (Nat×Value)}{K:Value->Prop}(h:oB P t ps K):∃v,K v/\oB P t ps (· = v):=by
 unfold oB at h ⊢;split at h
 ·split at h
  ·rename_i z hz;have key:∀{ps:List (Nat×Value)} {raw:Nat->Bool} {A:Prop},mg raw ps A->A/\∀B:Prop,B->mg raw ps B:=by
    intro ps raw
    induction ps with
    | nil=>intro A h;exact⟨h,λB b=>b⟩
    | cons x ps ih=>
     intro A h;simp only[mg]at h ⊢;cases hr:raw x.1
     ·rw[hr]at h;exact ih h
     ·rw[hr]at h;simp only[cond_true]at h ⊢;exact⟨(ih h.2).1,λB b=>⟨h.1,(ih h.2).2 B b⟩⟩
   obtain⟨h,a⟩:=key h;split at h
   ·rename_i cs hf;rw[WG]at h;refine⟨_,h.2,?_⟩;simp only[*];refine a _ ?_;rw[WG]
    first|exact⟨h.1,trivial⟩|exact⟨rfl,trivial⟩
   ·exact h.elim
  ·exact h.elim
 ·split at h
  ·split at h
   ·refine⟨_,h,?_⟩;simp only[*]
   ·exact h.elim
  ·exact h.elim
 ·exact h.elim
theorem OP {P:Program}{t:Nat}{x:Value}{lo hi mx:Option Value}{K:Value->Prop}(h:ou P t x lo hi mx K):∃v,K v/\ou P t x lo hi mx (· = v):=by
 unfold ou at h ⊢;split at h
 case h_2=>exact h.elim
 rename_i e a n c hu;split at h
 case h_2=>exact h.elim
 rename_i ti hi';simp only at h ⊢;split at h
 case h_2=>exact h.elim
 rename_i l hh m hlo hhi hmx;obtain⟨i,b,j,d,g⟩:=h;refine⟨_,g,?_⟩;simp only[hu,hi',hlo,hhi,hmx];exact⟨i,b,j,d,rfl⟩
theorem Du:∀{vs:List Value} {v:Value} {b:Bool} {K:Value->Prop},qk b v vs K->∃z,K z/\qk b v vs (· = z)
 | [],v,b,K,h=>⟨v,by simpa[qk]using h,by simp[qk]⟩
 | u::vs,v,b,K,h=>by
  cases v<;>cases u<;>simp only[qk]at h ⊢ <;> try exact h.elim
  exact Du h
theorem Ml {P:Program}{o:Op}(hp:rY P o=true){ρ:Env}{h:Hp}{K:Value->Prop}(hk:qK P o ρ h K):∃v,K v/\∀h',qK P o ρ h' (· = v):=by
 unfold qK at hk;split at hk
 case h_1 x=>obtain⟨v,a,e⟩:=u7 hk;exact⟨v,a,λ_=>e⟩
 case h_2 x=>obtain⟨v,a,e⟩:=u7 hk;exact⟨v,a,λ_=>e⟩
 case h_3 c x y=>
  obtain⟨v,B,hk⟩:=Ws hk;split at hk
  ·obtain⟨u,a,e⟩:=u7 hk;exact⟨u,a,λ_=>by simpa only[qK,B,wv]using e⟩
  ·obtain⟨u,a,e⟩:=u7 hk;exact⟨u,a,λ_=>by simpa only[qK,B,wv]using e⟩
  ·exact hk.elim
 case h_4=>simp[rY]at hp
 case h_5 x=>
  obtain⟨v,B,hk⟩:=Ws hk;split at hk
  ·obtain⟨C,rfl,r⟩:=hk;exact⟨_,r,λ_=>by simp only[qK,B,wv];exact⟨C,rfl,rfl⟩⟩
  ·exact⟨_,hk,λ_=>by simp only[qK,B,wv]⟩
  ·exact hk.elim
 case h_6 op t x y yt=>
  obtain⟨j,g,hk⟩:=Ws hk;obtain⟨N,F,D⟩:=Ws hk;obtain⟨v,a,e⟩:=LV hp D;exact⟨v,a,λ_=>by simpa only[qK,g,F,wv]using e _⟩
 case h_7 op t x=>
  obtain⟨j,g,hk⟩:=Ws hk;split at hk
  ·exact⟨_,hk,λ_=>by simp only[qK,g,wv]⟩
  ·exact⟨_,hk,λ_=>by simp only[qK,g,wv,Ar]⟩
  ·exact hk.elim
 case h_8 s d x=>
  obtain⟨j,g,hk⟩:=Ws hk;split at hk
  ·rename_i a e;exact⟨_,hk,λ_=>by simp only[qK,g,wv,a,e,Ar]⟩
  ·rename_i a e;exact⟨_,hk,λ_=>by simp only[qK,g,wv,a,e]⟩
  ·rename_i a e;simp[rY,a]at hp
  ·exact hk.elim
 case h_9 s x f=>
  obtain⟨j,g,hk⟩:=Ws hk;obtain⟨L,M,E,z,hk⟩:=xJ hk;split at hk
  ·rw[WG]at hk;exact⟨_,hk.2,λ_=>by simp only[qK,g,wv,oK,E,z,WG];exact⟨hk.1,trivial⟩⟩
  ·exact hk.elim
 case h_10 s x f=>
  obtain⟨j,g,hk⟩:=Ws hk;obtain⟨L,M,E,z,hk⟩:=xJ hk;split at hk
  ·obtain⟨v,a,e⟩:=NY hk;exact⟨v,a,λ_=>by simpa only[qK,g,wv,oK,E,z]using e⟩
  ·exact hk.elim
 case h_11 t x i=>
  obtain⟨j,g,hk⟩:=Ws hk;obtain⟨J,A,hk⟩:=Ws hk;split at hk
  ·have p:=(by assumption:P.underlying t=some _);rw[WG]at hk;obtain⟨a,C,rfl,e,w,r⟩:=hk;exact⟨_,r,λ_=>by simp only[qK,g,A,wv,p,WG];exact⟨a,C,rfl,e,w,rfl⟩⟩
  ·have p:=(by assumption:P.underlying t=some _);rw[WG]at hk;obtain⟨a,e,w,r⟩:=hk;exact⟨_,r,λ_=>by simp only[qK,g,A,wv,p,WG];exact⟨a,e,w,rfl⟩⟩
  ·exact hk.elim
 case h_12 t x i=>
  obtain⟨j,g,hk⟩:=Ws hk;obtain⟨J,A,hk⟩:=Ws hk;split at hk
  ·have p:=(by assumption:P.underlying t=some _);obtain⟨b,a,e,r⟩:=hk;exact⟨_,r,λ_=>by simp only[qK,g,A,wv,p];exact⟨b,a,e,rfl⟩⟩
  ·exact hk.elim
 case h_13=>simp[rY]at hp
 case h_14 t i=>
  obtain⟨j,g,hk⟩:=Ws hk;split at hk
  ·obtain⟨v,a,e⟩:=u7 hk;exact⟨v,a,λ_=>by simpa only[qK,g,wv]using e⟩
  ·exact hk.elim
 case h_15 fn x y=>
  split at hk
  ·rename_i va vb a e;exact⟨_,hk,λ_=>by simp only[qK,a,e]⟩
  ·exact hk.elim
 case h_16 t ps=>
  split at hk
  ·rename_i vs a;obtain⟨v,e,w⟩:=Mb hk;exact⟨v,e,λ_=>by simpa only[qK,a]using w⟩
  ·exact hk.elim
 case h_17 t x lo A mx=>
  obtain⟨j,g,hk⟩:=Ws hk;split at hk
  ·rename_i l h m a e w;obtain⟨v,H,G⟩:=OP hk;exact⟨v,H,λ_=>by simpa only[qK,g,wv,a,e,w]using G⟩
  ·exact hk.elim
 case h_18 t x=>
  obtain⟨j,g,hk⟩:=Ws hk;rw[WG]at hk;exact⟨_,hk.2,λ_=>by simp only[qK,g,wv,WG];exact⟨hk.1,trivial⟩⟩
 case h_19=>simp[rY]at hp
 case h_20 c=>
  split at hk
  ·rename_i x t hc ha ht;unfold l8 at hk;split at hk
   ·exact⟨_,hk,λ_=>by simp only[qK,hc,ha,ht,l8, *]⟩
   ·exact⟨_,hk,λ_=>by simp only[qK,hc,ha,ht,l8, *]⟩
   ·exact⟨_,hk,λ_=>by simp only[qK,hc,ha,ht,l8, *]⟩
   ·rename_i p;simp only[rY,hc,ht,p]at hp;cases hp
   ·exact hk.elim
  ·rename_i hc ha ht;split at hk
   ·exact⟨_,hk,λ_=>by simp only[qK,hc,ha,ht, *]⟩
   ·exact hk.elim
  ·rename_i hc ha;obtain⟨v,a,e⟩:=Du hk;exact⟨v,a,λ_=>by simpa only[qK,hc,ha]using e⟩
  ·rename_i hc ha;obtain⟨v,a,e⟩:=Du hk;exact⟨v,a,λ_=>by simpa only[qK,hc,ha]using e⟩
  ·exact hk.elim
 ·exact hk.elim
def fR (S:aP)(c:CK)(a:Addr)(K:c.T->Prop):Prop:=∃x,(∀h,S h->cell h a=some (c.v x))/\K x
def tG (S:aP):List CK->Addr->Nat->(List Value->Prop)->Prop
 | [],_,_,K=>K []
 | c::cs,a,i,K=>fR S c (a.add i) λx=>tG S cs a (i+1) λvs=>K (c.v x::vs)
def Nu (S:aP)(k:IntKind)(c:CK)(m:Option Nat)(n:Int)(K:Option c.T->Prop):Prop:=∃l,(∀h,S h->jO h m k c l)/\K (cB l n)
def PN (S:aP)(k:IntKind)(c:CK)(m:Option Nat)(K:Int->Prop):Prop:=∃l,(∀h,S h->jO h m k c l)/\K (l.length:Int)
def qS (P:Program)(S:aP)(o:Op)(ρ:Env)(K:Value->Prop):Prop:=
 match o with
 | .load t a=>wv (ev ρ a) λv=>match v,kH P t with
  | .pointer (some a),some (.one c)=>gT (P.info? t).isSome (fR S c a λx=>K (c.v x))
  | .pointer (some a),some (.agg cs)=>gT (P.cellsOf t==cs.length) (gT (P.info? t).isSome (tG S cs a 0 λvs=>K (.agg vs.toArray)))
  | _,_=>False
 | .lookup t x i ok=>wv (ev ρ x) λvx=>wv (ev ρ i) λvi=>match P.underlying t,vx,vi with
  | some (.map kt et),.map m,.int k n=>match P.underlying kt,pV P et,P.info? et with
   | some (.int k'),some (.one c),some ti=>match ti.zero with
    | some z=>if k=k' then p8 c z λz=>Nu S k c m n λo=>K (bif ok then .tuple #[c.v (o.getD z),.bool o.isSome]else c.v (o.getD z))else False
    | none=>False
   | _,_,_=>False
  | _,_,_=>False
 | .call c=>match c.callee,rf ρ c.args.toList,c.argTypes.toList with
  | .builtin .len,some [.map m],[t]=>rX P t λk c=>PN S k c m λz=>K (.int .i64 z)
  | _,_,_=>False
 | _=>False
theorem IS {S:aP}:∀{cs:List CK} {a:Addr} {i:Nat} {K:List Value->Prop},tG S cs a i K->∃vs,K vs/\∀h,S h->ot cs a i h (· = vs)
 | [],a,i,K,hk=>⟨[],hk,λh _=>rfl⟩
 | c::cs,a,i,K,⟨x,hx,hk⟩=>by
  obtain⟨vs,hK,hall⟩:=IS hk;refine⟨c.v x::vs,hK,λh b=>?_⟩;have g:ot cs a (i+1) h λus=>c.v x::us=c.v x::vs:=by
   have key:∀{cs:List CK} {i:Nat} {K K':List Value->Prop},(∀vs,K vs->K' vs)->ot cs a i h K->ot cs a i h K':=by
    intro cs
    induction cs with
    | nil=>intro i K K' hh hk;exact hh _ hk
    | cons c cs ih=>
     intro i K K' hh hk;simp only[ot]at hk ⊢;cases c<;>(obtain⟨y,e,hk⟩:=hk;exact⟨y,e,ih (λvs j=>hh _ j) hk⟩)
   exact key (λus d=>by rw[d]) (hall h b)
  simp only[ot];have m:=hx h b;cases c<;>exact⟨x,m,g⟩
theorem Mg {P:Program}{t:Nat}{K:IntKind->CK->Prop}(h:rX P t K):∃kt et k c,P.underlying t=some (.map kt et)/\P.underlying kt=some (.int k)/\pV P et=some (.one c)/\K k c:=by
 unfold rX at h;split at h
 ·split at h
  ·exact⟨_,_,_,_,by assumption,by assumption,by assumption,h⟩
  ·exact h.elim
 ·exact h.elim
theorem Lw {P:Program}{S:aP}{o:Op}{ρ:Env}{K:Value->Prop}(hk:qS P S o ρ K):∃v,K v/\∀h,S h->qK P o ρ h (· = v):=by
 unfold qS at hk;split at hk
 ·obtain⟨N,r,hk⟩:=Ws hk;split at hk
  ·rename_i ad c hs;rw[WG]at hk;obtain⟨s,x,A,b⟩:=hk;refine⟨_,b,λh d=>?_⟩;simp only[qK,r,wv,hs,WG];refine⟨s,?_⟩;have u:=A h d;cases c<;>exact⟨x,u,rfl⟩
  ·rename_i ad cs hs;rw[WG,WG]at hk;obtain⟨s,F,hk⟩:=hk;obtain⟨vs,b,j⟩:=IS hk;refine⟨_,b,λh d=>?_⟩;simp only[qK,r,wv,hs,WG];refine⟨s,F,?_⟩;have key:∀{cs:List CK} {i:Nat} {K K':List Value->Prop},(∀vs,K vs->K' vs)->ot cs ad i h K->ot cs ad i h K':=by
    intro cs
    induction cs with
    | nil=>intro i K K' hh hk;exact hh _ hk
    | cons c cs ih=>
     intro i K K' hh hk;simp only[ot]at hk ⊢;cases c<;>(obtain⟨y,H,hk⟩:=hk;exact⟨y,H,ih (λvs L=>hh _ L) hk⟩)
   exact key (λus g=>by rw[g]) (j h d)
  ·exact hk.elim
 ·obtain⟨R,A,p⟩:=Ws hk;obtain⟨Q,D,a⟩:=Ws p;clear hk p;split at a
  case h_2=>exact a.elim
  rename_i E G m k n g;split at a
  case h_2=>exact a.elim
  rename_i k' c ti hkk hs hti;split at a
  case h_2=>exact a.elim
  rename_i z hz;split at a
  case isFalse=>exact a.elim
  rename_i e;subst e;obtain⟨M,rfl,l,C,b⟩:=UZ a;refine⟨_,b,λh d=>?_⟩;simp only[qK,A,D,wv,Am,g,hkk,hs,hti,hz,zT];have J:=C h d;rw[Mp];exact⟨l,J,rfl⟩
 ·split at hk
  ·rename_i m t u r ht;obtain⟨E,G,k,c,g,B,w,l,C,b⟩:=Mg hk;refine⟨_,b,λh d=>?_⟩;simp only[qK,u,r,ht,l8,g,B,w];exact⟨l,C h d,rfl⟩
  ·exact hk.elim
 ·exact hk.elim
structure iS (ops:Array Oper) (listed:Array Bool) (D:List Nat):Prop where
 size:listed.size=ops.size
 at_:∀j,j<ops.size->listed[j]?=some (D.contains j)
 lt:∀j∈D,j<ops.size
theorem iS.getD {ops:Array Oper}{listed:Array Bool}{D:List Nat}(h:iS ops listed D){j:Nat}(hj:j<ops.size)(b:Bool):listed.getD j b=D.contains j:=by
 rw[se,h.at_ j hj];rfl
theorem iS.nE {ops:Array Oper}{listed:Array Bool}{D:List Nat}(h:iS ops listed D)(j:Nat):listed.getD j false=D.contains j:=by
 rcases zq j ops.size with hj|hj
 ·exact h.getD hj false
 ·rw[se,Array.getElem?_eq_none (by rw[h.size];exact hj)]
  symm
  simp only[Option.getD_none,sN,decide_eq_false_iff_not];exact λa=>by have:=h.lt j a;omega
theorem iS.start (ops:Array Oper):iS ops (Array.replicate ops.size false) []:=
 ⟨by simp,λj a=>by simp[a],λj a=>by simp at a⟩
theorem iS.cons {ops:Array Oper}{listed:Array Bool}{D:List Nat}(h:iS ops listed D){i:Nat}(hi:i<ops.size):iS ops (listed.setIfInBounds i true) (i::D):=by
 refine⟨by simp[h.size],λj a=>?_,λj a=>?_⟩
 ·by_cases hij:i=j
  ·subst hij;simp[h.size,a]
  ·rw[xY hij,h.at_ j a];have:(j==i)=false:=by simpa using λe=>hij e.symm
   simp only[List.contains_cons,this,ra]
 ·rcases zW.1 a with rfl|h'
  ·exact hi
  ·exact h.lt j h'
def m9 (ops:Array Oper)(D:List Nat)(i:Nat):Bool:=match ops[i]? with
 | none=>false
 | some o=>!D.contains i&&o.after.toList.all λe=>!Region.binds .any e||D.contains e.on
def B2 (ops:Array Oper)(D:List Nat)(i:Nat):Bool:=match ops[i]? with
 | none=>false
 | some oi=>(List.range ops.size).all λj=>Nat.beq j i||(D.contains j||match ops[j]? with
  | some oj=>oj.after.toList.any (λe=>Region.binds .any e&&Nat.beq e.on i)||oi.apart ops oj
  | none=>true)
theorem A3 {ops:Array Oper}{D:List Nat}{i:Nat}(h:m9 ops D i=true):i<ops.size:=by
 unfold m9 at h;split at h
 ·cases h
 ·rename_i o ho;exact(lY.1 ho).1
theorem yR {ops:Array Oper}{listed:Array Bool}{D:List Nat}(h:iS ops listed D)(i:Nat):i∈Region.ready .any ops listed↔m9 ops D i=true:=by
 rw[mem_ready];unfold m9;cases ho:ops[i]? with
 | none=>simp
 | some o=>
  have d:i<ops.size:=(lY.1 ho).1;simp only[h.getD d,Option.some.injEq,exists_eq_left',zF,mS,kK,mQ];constructor
  ·rintro⟨h1,h2⟩;refine⟨h1,λe a=>?_⟩;cases b:Region.binds .any e
   ·exact .inl rfl
   ·right;have:=h2 e (by simpa using a) b
    rwa [h.nE]at this
  ·rintro⟨h1,h2⟩;refine⟨h1,λe a b=>?_⟩;have:=h2 e (by simpa using a);rw[b]at this;rw[h.nE];simpa using this
theorem GW {ops:Array Oper}{listed:Array Bool}{D:List Nat}(h:iS ops listed D){i:Nat}(hf:B2 ops D i=true):Region.free .any ops listed i=true:=by
 unfold B2 at hf;unfold Region.free;cases ho:ops[i]? with
 | none=>rw[ho]at hf;cases hf
 | some oi=>
  rw[ho]at hf;simp only[kK,ze]at hf ⊢;intro j hj;have:=hf j hj;rw[h.getD hj];simp only[mQ]at this ⊢;rcases this with h1|h1|h1
  ·exact .inl (.inl (by simpa using lJ h1))
  ·exact .inl (.inr h1)
  ·right;split at h1
   ·rename_i oj hoj;simp only[hoj,mQ]at h1 ⊢;rcases h1 with h1|h1
    ·left;rw[kM]at h1;obtain⟨e,b,a⟩:=h1;simp only[zF]at a;rw[Array.any_eq_true'];exact⟨e,by simpa using b,by simp[a.1,lJ a.2]⟩
    ·exact .inr h1
   ·rename_i hoj;simp[hoj]
inductive SH where
 | done
 | take (i:Nat) (r:SH)
 | split (c:Nat) (t f:SH)
 | all (l:List (Nat×SH))
def SH.tk:List Nat->SH->SH
 |[],s=>s
 |i::l,s=>.take i (SH.tk l s)
def Sx (sm:Bool)(S:aP)(h:Hp)(X:Prop):Prop:=match sm with
 | true=>S h/\X
 | false=>X
def shut (C D:List Nat):Bool:=C.any λk=>D.contains k
def tW (f:Nat->SH->Prop):List (Nat×SH)->Prop
 | []=>True
 | [x]=>f x.1 x.2
 | x::y::l=>f x.1 x.2/\tW f (y::l)
def UP (P:Program)(N:Nat)(ops:Array Oper)(sm:Bool)(C:List Nat)(S:aP)(K:Env->Hp->Prop):Nat->Nat->SH->List Nat->Env->Hp->Prop
 | 0,_,_,_,_,_=>False
 | n+1,_,.done,D,ρ,h=>gT ((List.range ops.size).all λj=>D.contains j) (K ρ h)
 | n+1,m+1,.take i r,D,ρ,h=>match ops[i]? with
  | some o=>gT (m9 ops D i&&(B2 ops D i&&(ug N o.dst && !C.contains i)))
   (bif sX ops o ρ then UP P N ops sm C S K n m r (i::D) (ρ.iV o.dst undef) h
    else gT (pI ops o ρ) (bif rY P o.op then qK P o.op ρ h λv=>UP P N ops sm C S K n m r (i::D) (ρ.iV o.dst v) h
     else gT (sm&&((C.all λk=>xv ops k i) && !shut C D)) (qS P S o.op ρ λv=>UP P N ops sm C S K n m r (i::D) (ρ.iV o.dst v) h)))
  | none=>False
 | n+1,m,.split c t f,D,ρ,h=>HY ρ (.tmp c) λb=>If b (UP P N ops sm C S K n m t D (ρ.put c (.bool true)) h) (UP P N ops sm C S K n m f D (ρ.put c (.bool false)) h)
 | n+1,m+1,.all l,D,ρ,h=>gT ((!l.isEmpty&&l.all λx=>Nat.blt x.1 ops.size)&&((List.range ops.size).all λj=>m9 ops D j==l.any λx=>Nat.beq x.1 j))
  (tW (λi r=>match ops[i]? with
   | some o=>gT (ug N o.dst) (bif sX ops o ρ then Sx (sm && !shut C (i::D)) S h (UP P N ops sm C S K n m r (i::D) (ρ.iV o.dst undef) h)
    else gT (pI ops o ρ) (wk P o.op o.type ρ h λv h'=>Sx (sm && !shut C (i::D)) S h' (UP P N ops sm C S K n m r (i::D) (ρ.iV o.dst v) h')))
   | none=>False) l)
 | _,_,_,_,_,_=>False
def dP (h:Hp)(body:(Hp->Prop)->Prop):Prop:=∃S:Hp->Prop,S h/\body S
theorem IP {f:Nat->SH->Prop}:∀{l:List (Nat×SH)},tW f l->∀x∈l,f x.1 x.2
 | [],_,x,hx=>by simp at hx
 | [y],h,x,hx=>by simp at hx;subst hx;exact h
 | y::z::l,h,x,hx=>by
  rcases zW.1 hx with rfl|hx
  ·exact h.1
  ·exact IP h.2 x hx
theorem xA {ds:List Nat}{ρ ρ':Env}{ops:Array Oper}{i:Nat}{o:Oper}(ho:ops[i]?=some o){v:Value}
 (k:∀j,(ops.toList.filterMap (·.dst)).contains j=false->∀u,(ρ.iV o.dst v) j=some u->ρ' j=some u):∀j,(ops.toList.filterMap (·.dst)).contains j=false->∀u,ρ j=some u->ρ' j=some u:=by
 intro j hj u hu;refine k j hj u ?_;cases hd:o.dst with
 | none=>exact hu
 | some d=>
  simp only[Env.iV,Env.put];cases hb:Nat.beq j d
  ·exact hu
  ·have e:j=d:=lJ hb;subst e;exfalso;simp only[sN,decide_eq_false_iff_not,vj,not_exists,not_and]at hj;refine hj o ?_ hd;have:=DL ho;simpa using this
def TD (S:aP)(C D:List Nat)(h:Hp):Prop:=S h\/shut C D=true
theorem TD.ts {S:aP}{C D:List Nat}{ops:Array Oper}{listed:Array Bool}{w:World}(hD:iS ops listed D)(h:TD S C D w.heap):TS (λw=>S w.heap) C listed w:=by
 refine h.imp id λa=>?_;unfold shut at a;rw[kM]at a;obtain⟨k,d,b⟩:=a;exact⟨k,d,by rw[hD.nE];exact b⟩
theorem P1 {C D:List Nat}{ops:Array Oper}{listed:Array Bool}(hD:iS ops listed D)(h:shut C D=false):∀k∈C,listed.getD k false=false:=by
 intro k hk;unfold shut at h;rw[mE]at h;rw[hD.nE];simpa using h k hk
theorem Rn {C D:List Nat}{i:Nat}(h:shut C D=true):shut C (i::D)=true:=by
 unfold shut at *;rw[kM]at *;obtain⟨k,b,a⟩:=h;refine⟨k,b,?_⟩;rw[tf]at *;exact mM _ a
theorem Fe {sm:Bool}{S:aP}{C D:List Nat}{h:Hp}{X:Prop}(hs:sm=false->∀h,S h)(hx:Sx (sm && !shut C D) S h X):TD S C D h/\X:=by
 cases hc:shut C D
 ·rw[hc]at hx;simp only[Ab,ub]at hx;cases sm
  ·exact⟨.inl (hs rfl h),hx⟩
  ·exact⟨.inl hx.1,hx.2⟩
 ·rw[hc]at hx;simp only[Bool.not_true,sL]at hx;exact⟨.inr hc,hx⟩
theorem QQ {P:Program}{N:Nat}{ops:Array Oper}{sm:Bool}{C:List Nat}{S:aP}{K:Env->Hp->Prop}{Qn:Act->World->Prop}(hsel:Region.noSelect ops=true)(hsm:sm=false->∀h,S h):∀(n m:Nat) {sh:SH} {D:List Nat} {ρ:Env} {a:Act} {w:World} {listed:Array Bool},
 UP P N ops sm C S K n m sh D ρ w.heap->Fits N ρ a->iS ops listed D->TD S C D w.heap->(∀ρ' a' w',Fits N ρ' a'->ZT w w'->Hx ops.toList ρ ρ'->K ρ' w'.heap->Qn a' w') →
 anyS P ops (λe a w=>match e with | .normal=>Qn a w|_=>False) (λw=>S w.heap) C m listed a w
 | 0,m,sh,D,ρ,a,w,listed,h,hf,hD,hS,hK=>(by simp only[UP]at h)
 | n+1,m,.done,D,ρ,a,w,listed,h,hf,hD,hS,hK=>by
  have h':gT ((List.range ops.size).all λj=>D.contains j) (K ρ w.heap):=by cases m<;>exact h
  rw[WG]at h';refine Pv ?_ (hK ρ a w hf (.refl _) (λ_ _ _ h=>h) h'.2) m;rw[List.eq_nil_iff_forall_not_mem];intro j Y;have B:=(yR hD j).1 Y;have:=kK.1 h'.1 j (ze.2 (A3 B));unfold m9 at B;split at B
  ·cases B
  ·rw[this]at B;simp at B
 | n+1,0,.take i r,D,ρ,a,w,listed,h,hf,hD,hS,hK=>(by simp only[UP]at h)
 | n+1,m+1,.take i r,D,ρ,a,w,listed,h,hf,hD,hS,hK=>by
  simp only[UP]at h;split at h
  case h_2=>exact h.elim
  rename_i o ho;rw[WG]at h;obtain⟨Z,h⟩:=h;simp only[zF,mS]at Z;obtain⟨ac,Q,s,L⟩:=Z;have H:=A3 ac;have z:i∈Region.ready .any ops listed:=(yR hD i).2 ac;have p:TD S C (i::D) w.heap:=hS.imp id Rn;cases hg:sX ops o ρ
  ·rw[hg]at h;simp only[cond_false]at h;rw[WG]at h;obtain⟨U,h⟩:=h;have hw:=Qu hf U;cases hp:rY P o.op
   ·rw[hp]at h;simp only[cond_false]at h;rw[WG]at h;obtain⟨R,h⟩:=h;simp only[zF,mS,kK]at R;obtain⟨v,J,F⟩:=Lw h;refine Dh (T:=λw=>S w.heap) ho hsel (GW hD Q) z (λ_ _ _ h=>h) L (.inr ⟨λ_ h=>h,R.2.1⟩) (.inr (P1 hD R.2.2)) (v:=v) (.inl ⟨hw,λw' p=>?_⟩) (hS.ts hD) ?_
    ·obtain⟨u,B,rfl⟩:=yq hf.ev o (F w'.heap p);exact B
    ·exact QQ hsel hsm n m J (hf.put s v) (hD.cons H) p λρ' a' w' g G E d=>hK ρ' a' w' g G (xA (ds:=[]) ho E) d
   ·rw[hp]at h;simp only[cond_true]at h;obtain⟨v,J,F⟩:=Ml hp h;refine Dh (T:=λ_=>True) ho hsel (GW hD Q) z (λ_ _ _ h=>h) L (.inl λ_=>trivial) (.inl λ_=>trivial) (v:=v) (.inl ⟨hw,λw' _=>?_⟩) (hS.ts hD) ?_
    ·obtain⟨u,B,rfl⟩:=yq hf.ev o (F w'.heap);exact B
    ·exact QQ hsel hsm n m J (hf.put s v) (hD.cons H) p λρ' a' w' g G E d=>hK ρ' a' w' g G (xA (ds:=[]) ho E) d
  ·rw[hg]at h;simp only[cond_true]at h;refine Dh (T:=λ_=>True) ho hsel (GW hD Q) z (λ_ _ _ h=>h) L (.inl λ_=>trivial) (.inl λ_=>trivial) (v:=undef) (.inr ⟨V3 hf hg,rfl⟩) (hS.ts hD) ?_;exact QQ hsel hsm n m h (hf.put s undef) (hD.cons H) p λρ' a' w' g G E d=>hK ρ' a' w' g G (xA (ds:=[]) ho E) d
 | n+1,m,.split c t f,D,ρ,a,w,listed,h,hf,hD,hS,hK=>by
  have h':HY ρ (.tmp c) λb=>If b (UP P N ops sm C S K n m t D (ρ.put c (.bool true)) w.heap) (UP P N ops sm C S K n m f D (ρ.put c (.bool false)) w.heap):=by cases m<;>exact h
  obtain⟨b,hb,ab⟩:=Hj h';have A:=λe=>ab.t e;have h2:=λe=>ab.f e;have W:ρ c=some (.bool b):=hb;have kk:∀(b':Bool),b=b'->∀ρ',Hx ops.toList (ρ.put c (.bool b')) ρ'->Hx ops.toList ρ ρ':=by
   intro b' e ρ' k i H u hu;refine k i H u ?_;simp only[Env.put];cases hic:Nat.beq i c
   ·exact hu
   ·have e2:i=c:=lJ hic;subst e2;rw[W]at hu;simp only[cond_true];rw[←e];exact hu
  cases b
  ·exact QQ hsel hsm n m (h2 rfl) (hf.lit W rfl) hD hS λρ' a' w' g G E d=>hK ρ' a' w' g G (kk false rfl ρ' E) d
  ·exact QQ hsel hsm n m (A rfl) (hf.lit W rfl) hD hS λρ' a' w' g G E d=>hK ρ' a' w' g G (kk true rfl ρ' E) d
 | n+1,0,.all l,D,ρ,a,w,listed,h,hf,hD,hS,hK=>(by simp only[UP]at h)
 | n+1,m+1,.all l,D,ρ,a,w,listed,h,hf,hD,hS,hK=>by
  simp only[UP]at h;rw[WG]at h;obtain⟨Z,h⟩:=h;simp only[zF,mS,kK,ze,za]at Z;obtain⟨⟨hne,hlt⟩,ad⟩:=Z;have X:∀j,j∈Region.ready .any ops listed->∃r,(j,r)∈l:=by
   intro j Y;have B:=(yR hD j).1 Y;have:=ad j (A3 B);rw[B]at this;have:=kM.1 this.symm;obtain⟨x,hx,hb⟩:=this;have e:x.1=j:=lJ hb;exact⟨x.2,by rw[←e];exact hx⟩
  refine SO (rs:=Region.ready .any ops listed) rfl ?_ λj Y=>?_
  ·intro hnil
   match l,hne with
   | x::l',_=>
    have hx:=Nat.blt_eq.mp (hlt x aA);have:=ad x.1 hx;have aa:(x::l').any (λy=>Nat.beq y.1 x.1)=true:=kM.2 ⟨x,by simp,by simp⟩;rw[aa]at this;have:=(yR hD x.1).2 this;rw[hnil]at this;simp at this
  ·obtain⟨r,B⟩:=X j Y;have A:=IP h (j,r) B;simp only at A;split at A
   case h_2=>exact A.elim
   rename_i o ho;have H:j<ops.size:=(lY.1 ho).1;rw[WG]at A;obtain⟨s,A⟩:=A;unfold wpOp;simp only[ho];cases hg:sX ops o ρ
   ·rw[hg]at A;simp only[cond_false]at A;rw[WG]at A;obtain⟨U,A⟩:=A;rw[zB (Qu hf U)];refine .inl (VK.upon (DX hf.ev o A) λv w' G J=>?_);obtain⟨p,J⟩:=Fe hsm J;exact⟨p.ts (hD.cons H),QQ hsel hsm n m J (hf.put s v) (hD.cons H) p λρ' a' M g V E d=>hK ρ' a' M g (G.trans V) (xA (ds:=[]) ho E) d⟩
   ·rw[hg]at A;simp only[cond_true]at A;rw[V3 hf hg];simp only[zc,j4];obtain⟨p,J⟩:=Fe hsm A;exact⟨p.ts (hD.cons H),QQ hsel hsm n m J (hf.put s undef) (hD.cons H) p λρ' a' M g V E d=>hK ρ' a' M g V (xA (ds:=[]) ho E) d⟩
def Bh (P:Program)(N:Nat)(sm:Bool)(C:List Nat)(sh:SH)(ops:Array Oper)(ρ:Env)(h:Hp)(K:Env->Hp->Prop):Prop:=
 match sm with
 | true=>dP h λS=>UP P N ops true C S K 400 ops.size sh [] ρ h
 | false=>UP P N ops false C (λ_=>True) K 400 ops.size sh [] ρ h
theorem U1 {P:Program}{N id:Nat}{ops:Array Oper}{sm:Bool}{C:List Nat}{sh:SH}{K:Env->Hp->Prop}{ρ:Env}{a:Act}{w:World}{Q:Exit->Act->World->Prop}
 (hm:P.follows .mixedOrders=true) (hsel:Region.noSelect ops=true) (h:Bh P N sm C sh ops ρ w.heap K)
 (hf:Fits N ρ a) (hK:∀ρ' a' w',Fits N ρ' a'->ZT w w'->Hx ops.toList ρ ρ'->K ρ' w'.heap->Q .normal a' w'):(Code.region id ops true).wp P Q a w:=by
 refine wp_mono (Q:=λe a w=>match e with | .normal=>Q .normal a w|_=>False) ?_ (λe a w j=>by cases e<;>first|exact j|exact j.elim)
 have hd:ZT w {w with drawn:=w.drawn+1}:=⟨rfl,rfl,rfl,zC _⟩;cases sm
 ·exact Hz (S:=λw=>True) hm (QQ (S:=λ_=>True) (w:={w with drawn:=w.drawn+1}) (Qn:=Q .normal) hsel (λ_ _=>trivial) 400 ops.size h hf (iS.start ops) (.inl trivial) λρ' a' w' b g i d=>hK ρ' a' w' b (hd.trans g) i d)
 ·obtain⟨S,m,h⟩:=h;exact Hz hm (QQ (S:=S) (w:={w with drawn:=w.drawn+1}) (Qn:=Q .normal) hsel (λe=>by cases e) 400 ops.size h hf (iS.start ops) (.inl m) λρ' a' w' b g i d=>hK ρ' a' w' b (hd.trans g) i d)
abbrev Js:=List (Nat×SK)
def pe (js:Js):List CK:=iO (js.map (·.2))
def tu (ρ:Env):Js->Option (List Value)
 | []=>some []
 | (i,.one _)::js=>match ρ i,tu ρ js with|some v,some vs=>some (v::vs)|_,_=>none
 | (i,.agg cs)::js=>match ρ i,tu ρ js with
  | some (.agg a),some vs=>bif a.size==cs.length then some (a.toList++vs)else none
  | _,_=>none
def uT (js:Js)(ρ:Env)(J:eR (pe js))(h:Hp):Prop:=match tu ρ js with
 | some vs=>vD (pe js) J vs h
 | none=>False
def jf:Env->Js->List Value->Env
 | ρ,[],_=>ρ
 | ρ,(i,.one _)::js,v::vs=>jf (ρ.put i v) js vs
 | ρ,(i,.one _)::js,[]=>jf ρ js []
 | ρ,(i,.agg cs)::js,vs=>jf (ρ.put i (.agg (vs.take cs.length).toArray)) js (vs.drop cs.length)
def Jn (ks:List CK)(K:eR ks)(body:eR ks->Prop):Prop:=∃J:eR ks,eR.le ks J K/\body J
theorem eR.le_refl:∀(ks:List CK) (R:eR ks),eR.le ks R R
 | [],_=>λ_ h=>h
 | _::cs,_=>λ_=>eR.le_refl cs _
theorem Jn.intro {ks:List CK}{K:eR ks}{body:eR ks->Prop}(h:body K):Jn ks K body:=⟨K,eR.le_refl ks K,h⟩
def od (ds:List Nat)(i:Nat):Bool:=ds.contains i
def VV (ds:List Nat)(ρ ρ':Env):Prop:=∀i,ds.contains i=false->∀v,ρ i=some v->ρ' i=some v
theorem VV.trans {d1 d2:List Nat}{a b c:Env}(h:VV d1 a b)(k:VV d2 b c):VV (d1++d2) a c:=by
 intro i hi v hv;simp only[sN,zS,decide_eq_false_iff_not,not_or]at hi;exact k i (by simpa using hi.2) v (h i (by simpa using hi.1) v hv)
theorem VV.mono {d1 d2:List Nat}{a b:Env}(h:VV d1 a b)(hs:∀i,i∈d1->i∈d2):VV d2 a b:=by
 intro i hi v hv;refine h i ?_ v hv;simp only[sN,decide_eq_false_iff_not]at hi ⊢;exact λd=>hi (hs i d)
theorem VV.refl (ds:List Nat)(a:Env):VV ds a a:=λ_ _ _ h=>h
theorem VD (ds:List Nat):∀(js:Js) (ρ:Env) (vs:List Value),(js.all λs=>od ds s.1)=true->VV ds ρ (jf ρ js vs)
 | [],ρ,vs,_=>by simp only[jf];exact .refl _ _
 | (i,.one c)::js,ρ,[],h=>by
  simp only[uR,zF]at h;simp only[jf];exact VD ds js ρ [] h.2
 | (i,.one c)::js,ρ,v::vs,h=>by
  simp only[uR,zF]at h;simp only[jf];intro j hj u hu;refine VD ds js _ vs h.2 j hj u ?_;simp only[Env.put];cases hb:Nat.beq j i
  ·exact hu
  ·have e:j=i:=lJ hb;subst e;simp only[od]at h;rw[hj]at h;cases h.1
 | (i,.agg cs)::js,ρ,vs,h=>by
  simp only[uR,zF]at h;simp only[jf];intro j hj u hu;refine VD ds js _ _ h.2 j hj u ?_;simp only[Env.put];cases hb:Nat.beq j i
  ·exact hu
  ·have e:j=i:=lJ hb;subst e;simp only[od]at h;rw[hj]at h;cases h.1
theorem Ui {N:Nat}:∀(js:Js) {ρ ρ':Env} {a:Act} {vs:List Value},Fits N ρ a->Fits N ρ' a->tu ρ' js=some vs->Fits N (jf ρ js vs) a
 | [],ρ,ρ',a,vs,h,_,_=>h
 | (i,.one c)::js,ρ,ρ',a,vs,h,h',hv=>by
  simp only[tu]at hv;split at hv
  ·rename_i v vs' h1 h2;cases hv;simp only[jf];refine Ui js ⟨h.defers,h.size,λj u hu=>?_⟩ h' h2;simp only[Env.put]at hu;cases hb:Nat.beq j i
   ·rw[hb]at hu;exact h.at_ j u hu
   ·have e:j=i:=lJ hb;subst e;rw[hb]at hu;simp only[cond_true,Option.some.injEq]at hu;subst hu;exact h'.at_ j _ h1
  ·cases hv
 | (i,.agg cs)::js,ρ,ρ',a,vs,h,h',hv=>by
  simp only[tu]at hv;split at hv
  ·rename_i ar vs' h1 h2;cases hs:(ar.size==cs.length)
   ·rw[hs]at hv;cases hv
   ·rw[hs]at hv;simp only[cond_true,Option.some.injEq]at hv;subst hv;have b:ar.toList.length=cs.length:=by simpa using hs
    simp only[jf];rw[←b,List.take_left,List.drop_left];refine Ui js ⟨h.defers,h.size,λj u hu=>?_⟩ h' h2;simp only[Env.put]at hu;cases hb:Nat.beq j i
    ·rw[hb]at hu;exact h.at_ j u hu
    ·have e:j=i:=lJ hb;subst e;rw[hb]at hu;simp only[cond_true,Option.some.injEq]at hu;subst hu;simpa using h'.at_ j _ h1
  ·cases hv
theorem xN {js:Js}{ρ:Env}{J:eR (pe js)}{h:Hp}(hj:uT js ρ J h):∃vs,tu ρ js=some vs/\Sat (pe js) J vs h:=by
 unfold uT at hj;split at hj
 ·exact⟨_,by assumption,xG hj⟩
 ·exact hj.elim
theorem GG {N:Nat}{ds:List Nat}{ρ ρ':Env}{a:Act}(h:Fits N ρ' a)(k:VV ds ρ ρ'):Fits N (ρ.fD ds) a:=by
 refine h.weaken λi v b=>?_;simp only[Env.fD]at b;cases hc:ds.contains i
 ·rw[hc]at b;exact k i hc v b
 ·rw[hc]at b;cases b
theorem G8 (ds:List Nat)(ρ:Env):VV ds ρ (ρ.fD ds):=by
 intro i hi v hv;simp only[Env.fD,hi];exact hv
def yM:Op->Bool
 | .pick .. => true
 | _=>false
def k6 (os:List Oper):Bool:=os.all λo=>s7 o.op||yM o.op
theorem Uo {P:Program}{N:Nat}{ops:Array Oper}{Q:Act->Prop}{w:World}:∀(n:Nat) {hs:List RI} {os:List Oper} {tail:List Oper} {ρ:Env} {a:Act} {K:Env->Hp->Prop},
 fQ P N ops n hs os ρ w.heap K->k6 os=true->Fits N ρ a->(∀ρ' a',Fits N ρ' a'->Hx os ρ ρ'->K ρ' w.heap->wpStill P ops w Q tail a')->wpStill P ops w Q (os++tail) a
 | 0,_,_,_,_,_,_,h,_,_,_=>(by simp only[fQ]at h)
 | n+1,[],[],tail,ρ,a,K,h,hq,hf,hK=>by
  simp only[fQ]at h;exact hK ρ a hf (λ_ _ _ h=>h) h
 | n+1,[],o::os,tail,ρ,a,K,h,hq,hf,hK=>(by simp only[fQ]at h)
 | n+1,.op::hs,[],tail,ρ,a,K,h,hq,hf,hK=>(by simp only[fQ]at h)
 | n+1,.it ki c::hs,[],tail,ρ,a,K,h,hq,hf,hK=>(by simp only[fQ]at h)
 | n+1,.it ki c::hs,o::os,tail,ρ,a,K,h,hq,hf,hK=>by
  simp only[fQ]at h;rw[WG]at h;simp only[k6,uR,zF,mQ]at hq;have h2:=h.2;unfold As at h2;split at h2
  ·rename_i heq;rw[heq]at hq;simp[s7,yM]at hq
  ·rename_i heq;rw[heq]at hq;simp[s7,yM]at hq
  ·exact h2.elim
 | n+1,.op::hs,o::os,tail,ρ,a,K,h,hq,hf,hK=>by
  simp only[fQ]at h;rw[WG]at h;obtain⟨B,h⟩:=h;simp only[zF]at B;have hw:=Qu hf B.1;simp only[k6,uR,zF,mQ]at hq;have W:s7 o.op=true:=by
   rcases hq.1 with h1|h1
   ·exact h1
   ·unfold yM at h1;split at h1
    ·rename_i heq;rw[heq];rfl
    ·cases h1
  unfold wk at h;rw[W]at h;obtain⟨v,Z,s⟩:=yq hf.ev o h;simp only[lT,wpStill,hw,zT,Oper.still,Z,Oper.stillUpon];exact⟨trivial,Uo n s (by simpa[k6]using hq.2) (hf.put B.2 v) λρ' a' g H p=>hK ρ' a' g H.cons p⟩
 | n+1,.cY and m inner::hs,os,tail,ρ,a,K,h,hq,hf,hK=>by
  simp only[fQ]at h;split at h
  case h_2=>exact h.elim
  rename_i pk rest hdrop;split at h
  case h_2=>exact h.elim
  rename_i c x y d hop hd;split at h
  case h_2=>exact h.elim
  rename_i b hb;rw[WG]at h;obtain⟨B,J,hJ,h⟩:=h;simp only[zF]at B;obtain⟨mF,D,R,S,A⟩:=B;have V:os++tail=os.take m++(pk::rest++tail):=by
   rw[←hdrop,←zm,mZ]
  have U:k6 (os.take m)=true:=by
   rw[k6,kK]at hq ⊢;exact λo ho=>hq o (qp ho)
  have L:k6 rest=true:=by
   rw[k6,kK]at hq ⊢;exact λo ho=>hq o (qW (i:=m) (by rw[hdrop];exact mM _ ho))
  rw[V];have j:∀(r b':Bool) (z:Operand) a',b=b'->(bif b' then x else y)=z->Fits N (ρ.fD ((os.take m).filterMap (·.dst))) a'->J r w.heap->Region.wanted pk (yielded ops a'.tmps)=true →
   a'.eval (.tmp c)=.bool b'->a'.eval z=.bool r->wpStill P ops w Q (pk::rest++tail) a':=by
   intro r b' z a' e ez g C hw u hez;have F:(execOp a'.eval pk).run P w=.ok (.value (.bool r)) w:=by
    obtain⟨dst,op,ty,pos,aft,M⟩:=pk;simp only at hop;subst hop;subst ez;cases b'<;>simp at hez<;>simp[execOp,u,asBool,hez]
   simp only[lT,wpStill,hw,zT,Oper.still,F,Oper.stillUpon];have Y:=g.put (d:=some d) mF (.bool r);rw[hd];exact⟨trivial,Uo n (hJ _ _ C) L Y λρ' X G H p=>hK ρ' X G (Hx.cY hd hdrop H) p⟩
  have run:∀(b':Bool) (z:Operand),b=b'->(bif b' then x else y)=z →
   fQ P N ops n inner (os.take m) (ρ.put c (.bool b')) w.heap (λρ' h'=>gT (pI ops pk ρ'&&sY ρ' c b') (HY ρ' z λr=>J r h'))->wpStill P ops w Q (os.take m++(pk::rest++tail)) a:=by
   intro b' z e ez hseg;refine Uo n hseg U (hf.lit hb e) λρ' a' g H s=>?_;rw[WG]at s;simp only[zF]at s;obtain⟨⟨hg,hci⟩,s⟩:=s;obtain⟨r,Z,C⟩:=Hj s;exact j r b' z a' e ez (g.xK hb e H) C (Qu g hg) (g.ev _ _ (yl hci)) (g.ev _ _ Z)
  have skip:∀(b':Bool),b=b'->b' = !and->J (!and) w.heap->wpStill P ops w Q (os.take m++(pk::rest++tail)) a:=by
   intro b' e eb C;subst eb;refine Ew A (hf.lit hb e) λa' g=>?_;have E:Fits N (ρ.fD ((os.take m).filterMap (·.dst))) a':=g.xK (ρ':=(ρ.put c (.bool (!and))).fD ((os.take m).filterMap (·.dst))) hb e (λi hi v hv=>by simp only[Env.fD,hi];exact hv);have u:=g.ev (.tmp c) _ (yl S);refine j (!and) (!and) (bif (!and)then x else y) a' e rfl E C (Qu E R) u ?_;refine F8 ?_ _ (λv=>rfl);cases and<;>exact D
  cases and
  ·simp only[cond_false]at h;cases b
   ·exact run false y rfl rfl (h.f rfl)
   ·exact skip true rfl rfl (h.t rfl)
  ·simp only[cond_true]at h;cases b
   ·exact skip false rfl rfl (h.f rfl)
   ·exact run true x rfl rfl (h.t rfl)
inductive RH where
 | seq (hs:List RI)
 | quiet (hs:List RI)
 | tail (n:Nat) (hs1 hs2:List RI)
 | held (sm:Bool) (C:List Nat) (sh:SH)
 | gM (sm:Bool) (C:List Nat) (js:Js) (sh:SH)
def uM (ops:Array Oper):List Nat:=ops.toList.filterMap (·.dst)
def sP (P:Program)(N:Nat)(r:RH)(ops:Array Oper)(draw:Bool)(ρ:Env)(h:Hp)(K:Env->Hp->Prop):Prop:=
 match r,draw with
 | .seq hs,false=>fQ P N ops 400 hs ops.toList ρ h K
 | .quiet hs,true=>gT (P.follows .mixedOrders&&(Region.lexB .any ops&&k6 ops.toList)) (fQ P N ops 400 hs ops.toList ρ h K)
 | .tail n hs1 hs2,true=>gT (P.follows .mixedOrders&&(Region.lexTailB .any ops n&&k6 (ops.toList.take n)))
  (fQ P N ops 400 hs1 (ops.toList.take n) ρ h λρ' h'=>fQ P N ops 400 hs2 (ops.toList.drop n) ρ' h' K)
 | .held sm C sh,true=>gT (P.follows .mixedOrders&&Region.noSelect ops) (Bh P N sm C sh ops ρ h K)
 | .gM sm C js sh,true=>gT (P.follows .mixedOrders&&(Region.noSelect ops&&js.all λs=>od (uM ops) s.1))
  (Jn (pe js) (lam (pe js) λvs h'=>K (jf (ρ.fD (uM ops)) js vs) h') λJ=>Bh P N sm C sh ops ρ h λρ' h'=>uT js ρ' J h')
 | _,_=>False
theorem PM {P:Program}{N id:Nat}{r:RH}{ops:Array Oper}{draw:Bool}{ρ:Env}{a:Act}{w:World}{K:Env->Hp->Prop}{Q:Exit->Act->World->Prop}
 (h:sP P N r ops draw ρ w.heap K) (hf:Fits N ρ a) (hK:∀ρ' a' w',Fits N ρ' a'->ZT w w'->Hx ops.toList ρ ρ'->K ρ' w'.heap->Q .normal a' w'):(Code.region id ops draw).wp P Q a w:=by
 unfold sP at h;split at h
 ·rename_i E;refine wp_region_list ?_;have:=VE (Q:=Q) (tail:=[]) 400 h hf λρ' a' w' d u j g=>hK ρ' a' w' d u j g;simpa using this
 ·rename_i E;rw[WG]at h;simp only[zF]at h;obtain⟨⟨s,A,x⟩,h⟩:=h;refine wp_region_still s A ?_;have:=Uo (w:={w with drawn:=w.drawn+1}) (Q:=λa'=>Q .normal a' {w with drawn:=w.drawn+1}) (tail:=[]) 400 h x hf λρ' a' d j g=>hK ρ' a' _ d ⟨rfl,rfl,rfl,zC _⟩ j g;simpa using this
 ·rename_i n hs1 hs2;rw[WG]at h;simp only[zF]at h;obtain⟨⟨s,A,x⟩,h⟩:=h;obtain⟨l,rfl⟩:∃l:List Oper,ops=l.toArray:=⟨ops.toList,by simp⟩;refine wp_region_still_tail n s A ?_;have:=Uo (w:={w with drawn:=w.drawn+1}) (ops:=l.toArray) (Q:=λa'=>wpList P l.toArray Q (l.drop n) a' {w with drawn:=w.drawn+1}) (tail:=[]) 400 h (by simpa using x) hf (λρ' a' d j g=>by
   have:=VE (Q:=Q) (tail:=[]) (w:={w with drawn:=w.drawn+1}) 400 g d λB z C p u H y=>hK B z C p (ZT.trans (b:={w with drawn:=w.drawn+1}) ⟨rfl,rfl,rfl,zC _⟩ u) (λi e v G=>?_) y
   ·simpa[wpStill]using this
   ·rw[show l.toArray.toList=l.take n++l.drop n by simp,xw]at e;simp only[sN,zS,decide_eq_false_iff_not,not_or]at e;exact H i (by simpa using e.2) v (j i (by simpa using e.1) v G))
  simpa using this
 ·rename_i sm sh;rw[WG]at h;simp only[zF]at h;exact U1 h.1.1 h.1.2 h.2 hf hK
 ·rename_i sm js sh;rw[WG]at h;simp only[zF]at h;obtain⟨⟨s,m,F⟩,J,L,h⟩:=h;refine U1 s m h hf λρ' a' w' d u j g=>?_;obtain⟨vs,G,E⟩:=xN g;have D:=HR (E.mono L);refine hK _ a' w' (Ui js (GG d j) d G) u ?_ D;exact((G8 (uM ops) ρ).trans (VD (uM ops) js (ρ.fD (uM ops)) vs F)).mono λi e=>by
   simp only[zS]at e;rcases e with h|h<;>exact h
 ·exact h.elim
def gZ:Code->List Nat
 | .region _ ops _=>uM ops
 | .seq a b=>gZ a++gZ b
 | .cond _ a b=>gZ a++gZ b
 | .block _ b=>gZ b
 | .loop b=>gZ b
 | .scope b=>gZ b
 | _=>[]
def tL:(ks:List CK)->eR ks->pW ks->(Nat->Prop)->eR ks
 | [],I,μ,p=>λh=>I h/\p (μ h)
 | c::cs,I,μ,p=>λx=>tL cs (I x) (μ x) p
def WU (ks:List CK)(start:eR ks->Prop)(round:eR ks->eR ks):Prop:=
 ∃(I:eR ks) (μ:pW ks),start I/\∀m:Nat,eR.le ks (tL ks I μ (· = m)) (round (tL ks I μ (· < m)))
inductive Hn where
 | leaf
 | cW (r:RH)
 | seq (a b:Hn)
 | j8 (js:Js) (a b:Hn)
 | cond (a b:Hn)
 | block (b:Hn)
 | loop (js:Js) (b:Hn)
 | scope (b:Hn)
def RI.ops:Nat->List RI
 | 0=>[]
 | n+1=>.op::RI.ops n
abbrev Hn.l:Hn:=.leaf
abbrev Hn.q (a b:Hn):Hn:=.seq a b
abbrev Hn.c (a b:Hn):Hn:=.cond a b
abbrev Hn.k (a:Hn):Hn:=.block a
def Hn.o (n:Nat):Hn:=.cW (.seq (RI.ops n))
abbrev Hn.o1:Hn:=.o 1
abbrev Hn.o2:Hn:=.o 2
abbrev Hn.aJ:Hn:=.c (.q .o2 .l) .l
abbrev Hn.aK:Hn:=.c (.q .o1 .l) .l
abbrev Hn.aL:Hn:=.q .o2 .l
abbrev Hn.aM:Hn:=.q .o1 .l
abbrev Hn.o3:Hn:=.o 3
abbrev Hn.o4:Hn:=.o 4
abbrev Hn.o5:Hn:=.o 5
abbrev Hn.o6:Hn:=.o 6
abbrev Hn.o7:Hn:=.o 7
abbrev Hn.o8:Hn:=.o 8
abbrev Hn.o9:Hn:=.o 9
abbrev Hn.gE:Hn:=.o 10
def Hn.oq (n:Nat):Hn:=.cW (.quiet (RI.ops n))
def DA (next:Env->Hp->Prop)(Q:Exit->Env->Hp->Prop):Exit->Env->Hp->Prop
 | .normal,ρ,h=>next ρ h
 | e,ρ,h=>Q e ρ h
def DT (id:Nat)(Q:Exit->Env->Hp->Prop):Exit->Env->Hp->Prop
 | .exit i,ρ,h=>match Nat.beq i id with
  | true=>Q .normal ρ h
  | false=>Q (.exit i) ρ h
 | e,ρ,h=>Q e ρ h
def T2 (Q:Exit->Env->Hp->Prop):Exit->Env->Hp->Prop
 | .goto _,_,_=>False
 | e,ρ,h=>Q e ρ h
def lf (P:Program)(N:Nat):Code->Hn->(Exit->Env->Hp->Prop)->Env->Hp->Prop
 | .skip,_,Q,ρ,h=>Q .normal ρ h
 | .ret,_,Q,ρ,h=>Q .ret ρ h
 | .exit id,_,Q,ρ,h=>Q (.exit id) ρ h
 | .region _ ops d,.cW r,Q,ρ,h=>sP P N r ops d ρ h λρ' h'=>Q .normal ρ' h'
 | .seq a b,.seq x y,Q,ρ,h=>lf P N a x (DA (λρ' h'=>lf P N b y Q ρ' h') Q) ρ h
 | .seq a b,.j8 js x y,Q,ρ,h=>gT (js.all λs=>od (gZ a) s.1)
  (Jn (pe js) (lam (pe js) λvs h'=>lf P N b y Q (jf (ρ.fD (gZ a)) js vs) h') λJ=>lf P N a x (DA (λρ' h'=>uT js ρ' J h') Q) ρ h)
 | .cond c a b,.cond x y,Q,ρ,h=>HY ρ c λt=>If t (lf P N a x Q ρ h) (lf P N b y Q ρ h)
 | .block id b,.block x,Q,ρ,h=>lf P N b x (DT id Q) ρ h
 | .scope b,.scope x,Q,ρ,h=>lf P N b x (T2 Q) ρ h
 | .label _,_,Q,ρ,h=>Q .normal ρ h
 | .loop b,.loop js x,Q,ρ,h=>gT (js.all λs=>od (gZ b) s.1)
  (WU (pe js) (λI=>uT js ρ I h) λJ=>lam (pe js) λvs h'=>lf P N b x (DA (λρ' h''=>uT js ρ' J h'') Q) (jf (ρ.fD (gZ b)) js vs) h')
 | _,_,_,_,_=>False
theorem FI:∀{ks:List CK} {I:eR ks} {μ:pW ks} {p:Nat->Prop} {vs:List Value} {h:Hp},Sat ks (tL ks I μ p) vs h->∃n,p n/\Sat ks (tL ks I μ (· = n)) vs h
 | [],I,μ,p,[],h,hs=>⟨μ h,hs.2,hs.1,rfl⟩
 | c::cs,I,μ,p,v::vs,h,⟨x,e,hs⟩=>by
  obtain⟨n,hp,hn⟩:=FI (I:=I x) (μ:=μ x) hs;exact⟨n,hp,x,e,hn⟩
 | [],I,μ,p,_::_,h,hs=>hs.elim
 | _::_,I,μ,p,[],h,hs=>hs.elim
theorem D8:∀{ks:List CK} {I:eR ks} (μ:pW ks) {vs:List Value} {h:Hp},Sat ks I vs h->∃n,Sat ks (tL ks I μ (· = n)) vs h
 | [],I,μ,[],h,hs=>⟨μ h,hs,rfl⟩
 | c::cs,I,μ,v::vs,h,⟨x,e,hs⟩=>by
  obtain⟨n,hn⟩:=D8 (I:=I x) (μ x) hs;exact⟨n,x,e,hn⟩
 | [],I,μ,_::_,h,hs=>hs.elim
 | _::_,I,μ,[],h,hs=>hs.elim
theorem AT {p:Nat->Prop}(h:∃n,p n):∃n,p n/\∀m,p m->n<=m:=by
 obtain⟨n,b⟩:=h
 induction n using Nat.strongRecOn with
 | _ n ih=>
  by_cases hm:∃m,m<n/\p m
  ·obtain⟨m,a,hp⟩:=hm;exact ih m a hp
  ·exact⟨n,b,λm hp=>Nat.le_of_not_lt λa=>hm ⟨m,a,hp⟩⟩
open Classical in
noncomputable def vo (p:Nat->Prop):Nat:=if h:∃n,p n then(AT h).choose else 0
theorem Pm {p:Nat->Prop}(h:∃n,p n):p (vo p):=by
 unfold vo;rw[dif_pos h];exact(AT h).choose_spec.1
theorem SJ {p:Nat->Prop}{n:Nat}(h:p n):vo p<=n:=by
 unfold vo;rw[dif_pos ⟨n,h⟩];exact(AT ⟨n,h⟩).choose_spec.2 n h
theorem Β {P:Program}{c:Code}{Q:Exit->Act->World->Prop}{a:Act}{w:World}(I:Nat->Act->World->Prop)(h0:∃n,I n a w)
 (round:∀n a w,I n a w->c.wp P (Exit.then (λa' w'=>∃m,m<n/\I m a' w') Q) a w):(Code.loop c).wp P Q a w:=by
 refine wp_loop (λa w=>∃n,I n a w) (λa w=>vo λn=>I n a w) h0 λa w i=>?_;refine wp_mono (round _ a w (Pm i)) λe a' w' d=>?_;cases e<;>try exact d
 obtain⟨m,g,b⟩:=d;exact⟨⟨m,b⟩,Nat.lt_of_le_of_lt (SJ b) g⟩
theorem Kx {P:Program}{N:Nat}:∀(c:Code) {x:Hn} {Q:Exit->Env->Hp->Prop} {Q':Exit->Act->World->Prop} {ρ:Env} {a:Act} {w:World},
 lf P N c x Q ρ w.heap->Fits N ρ a->(∀e ρ' a' w',Fits N ρ' a'->ZT w w'->VV (gZ c) ρ ρ'->Q e ρ' w'.heap->Q' e a' w')->c.wp P Q' a w
 | .skip,x,Q,Q',ρ,a,w,h,hf,hq=>by
  have h':Q .normal ρ w.heap:=by cases x<;>exact h
  exact wp_skip (hq _ ρ a w hf (.refl _) (.refl _ _) h')
 | .ret,x,Q,Q',ρ,a,w,h,hf,hq=>by
  have h':Q .ret ρ w.heap:=by cases x<;>exact h
  exact wp_ret (hq _ ρ a w hf (.refl _) (.refl _ _) h')
 | .exit id,x,Q,Q',ρ,a,w,h,hf,hq=>by
  have h':Q (.exit id) ρ w.heap:=by cases x<;>exact h
  exact wp_exit (hq _ ρ a w hf (.refl _) (.refl _ _) h')
 | .region id ops d,x,Q,Q',ρ,a,w,h,hf,hq=>by
  cases x<;>simp only[lf]at h
  exact PM h hf λρ' a' w' b p r g=>hq _ ρ' a' w' b p r g
 | .seq c1 c2,x,Q,Q',ρ,a,w,h,hf,hq=>by
  cases x<;>simp only[lf]at h
  case seq x y=>
   refine wp_seq (Kx c1 h hf λe ρ' a' w' b p r g=>?_);cases e
   case normal=>exact Kx c2 g b λe ρ'' A z j u F C=>hq e ρ'' A z j (p.trans u) (r.trans F) C
   all_goals exact hq _ ρ' a' w' b p (r.mono λi s=>l7 _ s) g
  case j8 js x y=>
   rw[WG]at h;obtain⟨E,J,V,h⟩:=h;refine wp_seq (Kx c1 h hf λe ρ' a' w' b p r g=>?_);cases e
   case normal=>
    obtain⟨vs,S,G⟩:=xN g;have D:=HR (G.mono V);have L:=Ui js (GG b r) b S;refine Kx c2 D L λe ρ'' A z j u F C=>hq e ρ'' A z j (p.trans u) ?_ C;have Z:=(G8 (gZ c1) ρ).trans (VD (gZ c1) js (ρ.fD (gZ c1)) vs E);exact(Z.trans F).mono λi s=>by
     simp only[gZ,zS]at s ⊢;rcases s with(h|h)|h
     ·exact Or.inl h
     ·exact Or.inl h
     ·exact Or.inr h
   all_goals exact hq _ ρ' a' w' b p (r.mono λi s=>l7 _ s) g
 | .cond c c1 c2,x,Q,Q',ρ,a,w,h,hf,hq=>by
  cases x<;>simp only[lf]at h
  obtain⟨t,W,h⟩:=Hj h;refine wp_cond_split (hf.ev _ _ W) (λe=>?_) (λe=>?_)
  ·exact Kx c1 (h.t e) hf λe ρ' a' w' b p r g=>hq e ρ' a' w' b p (r.mono λi s=>l7 _ s) g
  ·exact Kx c2 (h.f e) hf λe ρ' a' w' b p r g=>hq e ρ' a' w' b p (r.mono λi s=>px _ s) g
 | .block id c1,x,Q,Q',ρ,a,w,h,hf,hq=>by
  cases x<;>simp only[lf]at h
  refine wp_block (Kx c1 h hf λe ρ' a' w' b p r g=>?_);cases e
  case exit i=>
   simp only[DT]at g;simp only[Exit.inBlock];split at g
   ·rename_i e;have M:i=id:=lJ e;rw[zB M];exact hq _ ρ' a' w' b p r g
   ·rename_i e;have M:i≠id:=λh=>by subst h;simp at e
    rw[zA M];exact hq _ ρ' a' w' b p r g
  all_goals exact hq _ ρ' a' w' b p r g
 | .loop c1,x,Q,Q',ρ,a,w,h,hf,hq=>by
  cases x<;>simp only[lf]at h
  rename_i js x;rw[WG]at h;obtain⟨E,I,μ,G,hr⟩:=h;refine Β (λn a' w'=>∃vs,Fits N (jf (ρ.fD (gZ c1)) js vs) a'/\ZT w w'/\Sat (pe js) (tL (pe js) I μ (· = n)) vs w'.heap) ?_ ?_
  ·obtain⟨vs,S,G⟩:=xN G;obtain⟨n,K⟩:=D8 μ G;exact⟨n,vs,Ui js (hf.weaken (C7 _ _)) hf S,.refl _,K⟩
  ·rintro n a' w' ⟨vs,b,p,K⟩;have:=HR (K.mono (hr n));have X:=(G8 (gZ c1) ρ).trans (VD (gZ c1) js (ρ.fD (gZ c1)) vs E);refine Kx c1 this b λe ρ'' A z j u r g=>?_;have B:VV (gZ c1) ρ ρ'':=(X.trans r).mono λi s=>by
    simp only[zS]at s;rcases s with(h|h)|h<;>exact h
   cases e
   case normal=>
    obtain⟨R,U,D⟩:=xN g;obtain⟨m,Y,H⟩:=FI D;exact⟨m,Y,R,Ui js (GG j B) j U,p.trans u,H⟩
   all_goals exact hq _ ρ'' A z j (p.trans u) B g
 | .scope c1,x,Q,Q',ρ,a,w,h,hf,hq=>by
  cases x<;>simp only[lf]at h
  refine wp_scope_straight (Kx c1 h hf λe ρ' a' w' b p r g=>?_);cases e
  case goto l=>exact g.elim
  all_goals exact hq _ ρ' a' w' b p r g
 | .label l,x,Q,Q',ρ,a,w,h,hf,hq=>by
  have h':Q .normal ρ w.heap:=by cases x<;>exact h
  exact wp_label (hq _ ρ a w hf (.refl _) (.refl _ _) h')
 | .rangeFunc ..,x,Q,Q',ρ,a,w,h,hf,hq=>(by cases x<;>simp only[lf]at h)
 | .goto ..,x,Q,Q',ρ,a,w,h,hf,hq=>(by cases x<;>simp only[lf]at h)
 | .refuse ..,x,Q,Q',ρ,a,w,h,hf,hq=>(by cases x<;>simp only[lf]at h)
def pK (P:Program)(r:ResultVar)(s:SK)(ρ:Env)(h:Hp)(K:List Value->Prop):Prop:=
 match r,s with
 | .tmp t,.one _=>wv (ρ t) λv=>K [v]
 | .tmp t,.agg cs=>wv (ρ t) λv=>match v with
  | .agg a=>gT (a.size==cs.length) (K a.toList)
  | _=>False
 | .cell a t,.one c=>wv (ρ a) λv=>match v,kH P t with
  | .pointer (some ad),some (.one _)=>xL c ad h λx=>K [c.v x]
  | _,_=>False
 | .cell a t,.agg cs=>wv (ρ a) λv=>match v,kH P t with
  | .pointer (some ad),some (.agg _)=>gT (P.cellsOf t==cs.length&&(P.info? t).isSome) (ot cs ad 0 h λvs=>K vs)
  | _,_=>False
def pD (P:Program):List ResultVar->List SK->Env->Hp->(List Value->Prop)->Prop
 | [],[],_,_,K=>K []
 | r::rs,s::ss,ρ,h,K=>pK P r s ρ h λvs=>pD P rs ss ρ h λus=>K (vs++us)
 | _,_,_,_,_=>False
def wm (P:Program)(fn:Func)(rs:List SK)(R:eR (iO rs)):Exit->Env->Hp->Prop
 | .normal,ρ,h=>pD P fn.results.toList rs ρ h λvs=>vD (iO rs) R vs h
 | .ret,ρ,h=>pD P fn.results.toList rs ρ h λvs=>vD (iO rs) R vs h
 | _,_,_=>False
def BP (vs:List Value):Env:=λi=>vs[i]?
def F2 (P:Program)(fn:Func)(x:Hn)(args:List Value)(rs:List SK)(R:eR (iO rs))(h:Hp):Prop:=
 match fn.body with
 | some c=>gT (Nat.ble args.length fn.ntmps) (lf P fn.ntmps c x (wm P fn rs R) (BP args) h)
 | none=>False
def HC:SK->List Value->Value
 | .one _,[v]=>v
 | .one _,_=>undef
 | .agg _,vs=>.agg vs.toArray
def uh (tmps:Array Value):ResultVar->Sem Value
 | .tmp t=>pure (tmps.getD t undef)
 | .cell b t=>do loadVar t (←asAddr (tmps.getD b undef))
theorem LJ (fn:Func)(tmps:Array Value):results fn tmps=(do
 let vs ←fn.results.mapM (uh tmps)
 pure (if h:vs.size=1 then vs[0]else .tuple vs)):=by
 unfold results
 congr 1
theorem SP {P:Program}{r:ResultVar}{s:SK}{ρ:Env}{K:List Value->Prop}{a:Act}{N:Nat}{w:World}(hf:Fits N ρ a)(h:pK P r s ρ w.heap K) :
 ∃vs,vs.length=s.ks.length/\K vs/\(uh a.tmps r).run P w=.ok (HC s vs) w:=by
 unfold pK at h;split at h
 ·rename_i t c;obtain⟨v,g,e⟩:=Ws h;refine⟨[v],rfl,e,?_⟩;simp[uh,se,hf.at_ _ _ g,HC]
 ·rename_i t cs;obtain⟨v,g,e⟩:=Ws h;split at e
  ·rename_i ar;rw[WG]at e;refine⟨ar.toList,by simpa[SK.ks]using e.1,e.2,?_⟩;simp[uh,se,hf.at_ _ _ g,HC]
  ·exact e.elim
 ·rename_i b t c;obtain⟨v,g,e⟩:=Ws h;split at e
  ·rename_i ad c' hs;obtain⟨d,hd,i⟩:=JZ hs;obtain⟨x,u,e⟩:=Bw e;refine⟨[c.v x],rfl,e,?_⟩;simp only[uh,se,hf.at_ _ _ g,oZ,asAddr,Sem.run_bind,Sem.run_pure,Result.andThen_ok,loadVar,Vq hd,i,HC];simpa using BZ u
  ·exact e.elim
 ·rename_i b t cs;obtain⟨v,g,e⟩:=Ws h;split at e
  ·rename_i ad cs' hs;rw[WG]at e;obtain⟨j,e⟩:=e;simp only[zF,za]at j;obtain⟨d,hd,i⟩:=E3 hs;obtain⟨vs,m,e,p⟩:=Dy (P:=P) e;refine⟨vs,m,e,?_⟩;simp only[uh,se,hf.at_ _ _ g,oZ,asAddr,Sem.run_bind,Sem.run_pure,Result.andThen_ok,loadVar,Vq hd,i,zT,Kd j.2,loadCells,j.1,p,HC];simp
  ·exact e.elim
theorem I9 {P:Program}{ρ:Env}{a:Act}{N:Nat}{w:World}(hf:Fits N ρ a):∀{rv:List ResultVar} {rs:List SK} {K:List Value->Prop},pD P rv rs ρ w.heap K →
 ∃vs,K vs/\(rv.mapM (uh a.tmps)).run P w=.ok (qy rs vs) w
 | [],[],K,h=>⟨[],h,by simp[qy]⟩
 | r::rv,s::rs,K,h=>by
  obtain⟨v1,hl,hK,hr⟩:=SP hf h;obtain⟨e,b,d⟩:=I9 hf hK;refine⟨v1++e,b,?_⟩;simp only[List.mapM_cons,Sem.run_bind,hr,Result.andThen_ok,d,Sem.run_pure];cases s with
  | one c=>
   match v1,hl with
   | [v],_=>simp[qy,HC]
  | agg cs=>
   simp only[SK.ks]at hl;simp only[qy,HC,←hl,List.take_left,List.drop_left]
 | [],_::_,K,h=>h.elim
 | _::_,[],K,h=>h.elim
theorem Fi {P:Program}{fn:Func}{ρ:Env}{a:Act}{N:Nat}{w:World}{rs:List SK}{K:List Value->Prop}(hf:Fits N ρ a)(h:pD P fn.results.toList rs ρ w.heap K) :
 ∃vs,K vs/\(results fn a.tmps).run P w=.ok (pack rs vs) w:=by
 obtain⟨vs,b,d⟩:=I9 hf h;refine⟨vs,b,?_⟩;rw[LJ,Array.mapM_eq_mapM_toList];simp only[Sem.run_bind,Sem.run_map,d,Result.andThen_ok,Sem.run_pure,pack];split
 ·rename_i h1
  match hp:qy rs vs,h1 with
  | [v],_=>simp
 ·rename_i h1
  match hp:qy rs vs,h1 with
  | [],_=>rfl
  | [v],h1=>simp at h1
  | _::_::_,_=>rfl
theorem R0 {a b:Prop}(f:b)(e:a=b:=by kernel_rfl):a:=e.mpr f
theorem Wa {P:Program}{f:Nat}{fn:Func}{x:Hn}{args:List Value}{rs:List SK}{R:eR (iO rs)}{h:Hp}(hfn:P.funcs[f]?=some fn)(hk:F2 P fn x args rs R h):We P f args.toArray rs h R:=by
 intro w hw;subst hw;unfold F2 at hk;split at hk
 case h_2=>exact hk.elim
 rename_i c hb;rw[WG]at hk;obtain⟨p,hk⟩:=hk;have r:args.length<=fn.ntmps:=Nat.le_of_ble_eq_true p;refine calls_of_wp hfn hb ?_;refine Kx c hk (ρ:=BP args) ⟨rfl,by simp;omega,λi v g=>?_⟩ λe z y u a s A b=>?_
 ·simp only[BP]at g;have m:i<args.length:=(cV.1 g).1;rw[DG (by simpa using m)];simpa using g
 ·cases e<;>simp only[wm]at b
  case normal=>
   obtain⟨vs,d,j⟩:=Fi a b;exact⟨a.defers,_,j,s,vs,rfl,xG d⟩
  case ret=>
   obtain⟨vs,d,j⟩:=Fi a b;exact⟨a.defers,_,j,s,vs,rfl,xG d⟩
theorem Fl {start:eR []->Prop}{round:eR []->eR []}(I:aP)(μ:Hp->Nat)(h0:start I)
 (hr:∀h,I h->round (λh'=>I h'/\μ h'<μ h) h):WU [] start round:=
 ⟨I,μ,h0,λ_ h ⟨b,a⟩=>a▸hr h b⟩
theorem Zw {a:CK}{start:eR [a]->Prop}{round:eR [a]->eR [a]}(I:a.T->Hp->Prop)(μ:a.T->Hp->Nat)(h0:start I)
 (hr:∀x h,I x h->round (λx' h'=>I x' h'/\μ x' h'<μ x h) x h):WU [a] start round:=
 ⟨I,μ,h0,λ_ x h ⟨d,b⟩=>b▸hr x h d⟩
theorem Vu {a bb:CK}{start:eR [a,bb]->Prop}{round:eR [a,bb]->eR [a,bb]}(I:a.T->bb.T->Hp->Prop)(μ:a.T->bb.T->Hp->Nat)(h0:start I)
 (hr:∀x y h,I x y h->round (λx' y' h'=>I x' y' h'/\μ x' y' h'<μ x y h) x y h):WU [a,bb] start round:=
 ⟨I,μ,h0,λ_ x y h ⟨d,b⟩=>b▸hr x y h d⟩
theorem Lc {a bb c:CK}{start:eR [a,bb,c]->Prop}{round:eR [a,bb,c]->eR [a,bb,c]}(I:a.T->bb.T->c.T->Hp->Prop)(μ:a.T->bb.T->c.T->Hp->Nat)(h0:start I)
 (hr:∀x y z h,I x y z h->round (λx' y' z' h'=>I x' y' z' h'/\μ x' y' z' h'<μ x y z h) x y z h):WU [a,bb,c] start round:=
 ⟨I,μ,h0,λ_ x y z h ⟨d,b⟩=>b▸hr x y z h d⟩
theorem LF {a bb c d e:CK}{start:eR [a,bb,c,d,e]->Prop}{round:eR [a,bb,c,d,e]->eR [a,bb,c,d,e]}(I:a.T->bb.T->c.T->d.T->e.T->Hp->Prop)(μ:a.T->bb.T->c.T->d.T->e.T->Hp->Nat)(h0:start I)
 (hr:∀x y z u v h,I x y z u v h->round (λx' y' z' u' v' h'=>I x' y' z' u' v' h'/\μ x' y' z' u' v' h'<μ x y z u v h) x y z u v h):WU [a,bb,c,d,e] start round:=
 ⟨I,μ,h0,λ_ x y z u v h ⟨g,b⟩=>b▸hr x y z u v h g⟩
theorem bO {a:Addr}{K:Addr->Prop}(h:K a):bU (some a) K:=⟨a,rfl,h⟩
theorem nL {k:IntKind}{a:Addr}{h:Hp}{n:Int}{K:Int->Prop}(hc:cell h a=some (.int k n))(hK:K n):gO k a h K:=⟨n,hc,hK⟩
theorem lB {a:Addr}{h:Hp}{n:Bool}{K:Bool->Prop}(hc:cell h a=some (.bool n))(hK:K n):kB a h K:=⟨n,hc,hK⟩
theorem tN {a:Addr}{h:Hp}{n:Option Addr}{K:Option Addr->Prop}(hc:cell h a=some (.pointer n))(hK:K n):fW a h K:=⟨n,hc,hK⟩
theorem FN {a:Addr}{h:Hp}{n:Option Nat}{K:Option Nat->Prop}(hc:cell h a=some (.map n))(hK:K n):lU a h K:=⟨n,hc,hK⟩
theorem nR {a:Addr}{h:Hp}{x:Option Addr}{n c:Nat}{K:Sl->Prop}(hc:cell h a=some (.slice x n c))(hK:K ⟨x,n,c⟩):ji a h K:=⟨⟨x,n,c⟩,hc,hK⟩
theorem Hi {e:Int}(h1 : -9223372036854775808<=e)(h2:e<=9223372036854775807):IntKind.i64.wrap e=e:=by
 unfold IntKind.wrap;simp[IntKind.bits,IntKind.signed];omega
theorem ar {e:Int}{K:Int->Prop}(h1 : -9223372036854775808<=e)(h2:e<=9223372036854775807)(hK:K e):Ar .i64 e K:=by
 unfold Ar;rw[Hi h1 h2];exact hK
theorem TB (e:Int) : -9223372036854775808<=IntKind.i64.wrap e/\IntKind.i64.wrap e<=9223372036854775807:=by
 unfold IntKind.wrap;simp[IntKind.bits,IntKind.signed];omega
theorem nz {y:Int}{A:Prop}(h:y≠0)(hA:A):Nz y A:=⟨h,hA⟩
theorem nn {y:Int}{A:Prop}(h:0<=y)(hA:A):Nn y A:=⟨h,hA⟩
theorem ix {a:Addr}{n:Nat}{i:Int}{sz:Nat}{K:Addr->Prop}(h0:0<=i)(h1:i<(n:Int))(hK:K (a.add (i.toNat*sz))):Ix (some a) n i sz K:=⟨a,rfl,h0,h1,hK⟩
theorem cU {b:Bool}{A B:Prop}(h1:b=true->A)(h2:b=false->B):If b A B:=If.mk h1 h2
theorem cL {p:Prop}[Decidable p]{A B:Prop}(h1:p->A)(h2:¬p->B):If (decide p) A B:=
 If.mk (λh=>h1 (rj h)) (λh=>h2 (yV h))
theorem cJ {b:Bool}{A B:Prop}(hb:b=true)(h:A):If b A B:=by subst hb;exact h
theorem bZ {b:Bool}{A B:Prop}(hb:b=false)(h:B):If b A B:=by subst hb;exact h
theorem jt {p:Prop}[Decidable p]{A B:Prop}(hp:p)(h:A):If (decide p) A B:=cJ (by simpa using hp) h
theorem dR {p:Prop}[Decidable p]{A B:Prop}(hp:¬p)(h:B):If (decide p) A B:=bZ (by simpa using hp) h
theorem JI (a:Int)(n:Nat):a.fdiv (2^n)=a/2^n:=Int.fdiv_eq_ediv_of_nonneg _ (Int.le_of_lt (Int.pow_pos aB))
theorem Xq {a b:Int}(h:0<=a):a.tdiv b=a/b:=Int.tdiv_eq_ediv_of_nonneg h
theorem QY {a b:Int}(h:0<=a):a.tmod b=a%b:=Int.tmod_eq_emod_of_nonneg h
def bY (h:Hp)(b:Nat)(cs:List Value):Prop:=∃e,h[b]?=some (.cells cs.toArray e (0,0))
theorem bY.lt {h:Hp}{b:Nat}{cs:List Value}(hb:bY h b cs):b<h.size:=by
 obtain⟨e,a⟩:=hb;exact(lY.1 a).1
theorem bY.cell {h:Hp}{b o:Nat}{cs:List Value}(hb:bY h b cs):cell h ⟨b,o,none⟩=cs[o]? := by
 obtain⟨e,a⟩:=hb;simp[Vc.cell,a]
theorem bY.oW {h:Hp}{b o:Nat}{cs:List Value}(hb:bY h b cs):oW h ⟨b,o,none⟩=false:=by
 obtain⟨e,a⟩:=hb;simp[Vc.oW,a]
theorem bY.set {h:Hp}{b o:Nat}{cs:List Value}(hb:bY h b cs)(v:Value):bY (kg h ⟨b,o,none⟩ v) b (cs.set o v):=by
 obtain⟨e,a⟩:=hb;refine⟨e,?_⟩;simp[kg,yK,a]
theorem Ut {h:Hp}{a:Addr}{v:Value}{b:Nat}(hne:b≠a.block):(kg h a v)[b]?=h[b]? := by
 simp only[kg,yK];rw[zA (Ne.symm hne)]
theorem add_lit (b o n:Nat):Addr.add ⟨b,o,none⟩ n=⟨b,o+n,none⟩:=Addr.add_lit b o n
def nm (h:Hp)(b:Nat)(cs:List Value):Prop:=∃e z,h[b]?=some (.cells cs.toArray e z)
theorem bY.q {h:Hp}{b:Nat}{cs:List Value}(hb:bY h b cs):nm h b cs:=by
 obtain⟨e,a⟩:=hb;exact⟨e,_,a⟩
theorem nm.lt {h:Hp}{b:Nat}{cs:List Value}(hb:nm h b cs):b<h.size:=by
 obtain⟨e,z,a⟩:=hb;exact(lY.1 a).1
theorem nm.cell {h:Hp}{b o:Nat}{cs:List Value}(hb:nm h b cs):cell h ⟨b,o,none⟩=cs[o]? := by
 obtain⟨e,z,a⟩:=hb;simp[Vc.cell,a]
def Ext (F:Nat->Prop)(h h':Hp):Prop:=h.size<=h'.size/\∀b,b<h.size->¬F b->h'[b]?=h[b]?
def aG (h h':Hp):Prop:=Ext (λ_=>False) h h'
theorem Ext.refl (F:Nat->Prop)(h:Hp):Ext F h h:=⟨zC _,λ_ _ _=>rfl⟩
theorem Ext.trans {F:Nat->Prop}{a b c:Hp}(h:Ext F a b)(k:Ext F b c):Ext F a c:=
 ⟨zP h.1 k.1,λi e d=>(k.2 i (uG e h.1) d).trans (h.2 i e d)⟩
theorem Ext.mono {F G:Nat->Prop}{a b:Hp}(h:Ext F a b)(hs:∀i,i<a.size->F i->G i):Ext G a b:=
 ⟨h.1,λi d e=>h.2 i d λg=>e (hs i d g)⟩
theorem aG.to {F:Nat->Prop}{a b:Hp}(h:aG a b):Ext F a b:=Ext.mono h λ_ _ h=>h.elim
theorem Ext.lH {F:Nat->Prop}{a b c:Hp}(h:Ext F a b)(k:aG b c):Ext F a c:=h.trans k.to
theorem Ext.size {F:Nat->Prop}{a b:Hp}(h:Ext F a b):a.size<=b.size:=h.1
theorem Ext.push (F:Nat->Prop)(h:Hp)(o:Obj):Ext F h (h.push o):=
 ⟨by simp,λb a _=>by rw[yF,zA (vG a)]⟩
theorem Ext.eL {F:Nat->Prop}{h h':Hp}{r:Nat}(ho:QT h h' r)(hr:F r):Ext F h h':=
 ⟨Nat.le_of_eq ho.1.symm,λb _ a=>ho.2 b λe=>a (e▸hr)⟩
theorem Ext.kg {F:Nat->Prop}{h:Hp}{a:Addr}{v:Value}(hr:F a.block):Ext F h (kg h a v):=
 ⟨Nat.le_of_eq (VS h a v).symm,λb _ d=>Ut λe=>d (e▸hr)⟩
theorem Ext.at_ {F:Nat->Prop}{h h':Hp}(e:Ext F h h'){b:Nat}{o:Obj}(hb:h[b]?=some o)(hf:¬F b):h'[b]?=some o:=by
 rw[e.2 b (lY.1 hb).1 hf];exact hb
theorem Ext.bX {F:Nat->Prop}{h h':Hp}(e:Ext F h h'){b:Nat}{cs:List Value}(hb:bY h b cs)(hf:¬F b):bY h' b cs:=by
 obtain⟨t,a⟩:=hb;exact⟨t,e.at_ a hf⟩
theorem Ext.fC {F:Nat->Prop}{h h':Hp}(e:Ext F h h'){r:Nat}{k:IntKind}{c:CK}{l:List (Int×c.T)}(hb:dD h r k c l)(hf:¬F r):dD h' r k c l:=by
 obtain⟨d,b,g,a⟩:=hb;exact⟨d,b,e.at_ g hf,a⟩
theorem dD.lt {h:Hp}{r:Nat}{k:IntKind}{c:CK}{l:List (Int×c.T)}(hb:dD h r k c l):r<h.size:=by
 obtain⟨d,a,b,_⟩:=hb;exact(lY.1 b).1
theorem dD.nodup {h:Hp}{r:Nat}{k:IntKind}{c:CK}{l:List (Int×c.T)}(hb:dD h r k c l):(l.map (·.1)).Nodup:=by
 obtain⟨d,b,e,_,a,_⟩:=hb;exact a
theorem Wm {h h':Hp}{r b:Nat}{cs:List Value}(ho:QT h h' r)(hb:bY h b cs)(hne:b≠r):bY h' b cs:=by
 obtain⟨t,a⟩:=hb;exact⟨t,by rw[ho.2 b hne];exact a⟩
theorem VI {h h':Hp}{r b:Nat}{k:IntKind}{c:CK}{l:List (Int×c.T)}(ho:QT h h' r)(hb:dD h b k c l)(hne:b≠r):dD h' b k c l:=by
 obtain⟨e,d,g,a⟩:=hb;exact⟨e,d,by rw[ho.2 b hne];exact g,a⟩
end Go.Vc
namespace Go.Bu
open Go Go.Vc
theorem N4 {a b:Nat}(ha:a<9223372036854775808)(hb:b<9223372036854775808):bits .xor .i64 (a:Int) (b:Int)=((a ^^^ b:Nat):Int):=by
 have g:a ^^^ b<2^63:=Nat.xor_lt_two_pow O O;have e:(BitVec.ofInt 64 (a:Int)).toNat=a:=by
  rw[BitVec.ofInt_natCast,BitVec.toNat_ofNat];exact uE O
 have d:(BitVec.ofInt 64 (b:Int)).toNat=b:=by
  rw[BitVec.ofInt_natCast,BitVec.toNat_ofNat];exact uE O
 show IntKind.i64.wrap ((BitVec.ofInt 64 (a:Int) ^^^ BitVec.ofInt 64 (b:Int)).toNat:Int)=_;rw[BitVec.toNat_xor,e,d,Hi]<;>omega
theorem jC {a b:Nat}(ha:a<9223372036854775808)(hb:b<9223372036854775808):bits .and .i64 (a:Int) (b:Int)=((a &&& b:Nat):Int):=by
 have g:a &&& b<2^63:=Nat.and_lt_two_pow _ O;have e:(BitVec.ofInt 64 (a:Int)).toNat=a:=by
  rw[BitVec.ofInt_natCast,BitVec.toNat_ofNat];exact uE O
 have d:(BitVec.ofInt 64 (b:Int)).toNat=b:=by
  rw[BitVec.ofInt_natCast,BitVec.toNat_ofNat];exact uE O
 show IntKind.i64.wrap ((BitVec.ofInt 64 (a:Int) &&& BitVec.ofInt 64 (b:Int)).toNat:Int)=_;rw[BitVec.toNat_and,e,d,Hi]<;>omega
theorem Pz (q:Nat):q ^^^ 1=iv q:=by
 apply Nat.eq_of_testBit_eq;intro i;rw[Nat.testBit_xor];unfold iv;cases i with
 | zero=>
  simp only[Nat.testBit_zero];split<;>rename_i h
  ·have:(q+1)%2=1:=by omega
   simp[h,this]
  ·have a:q%2=1:=by omega
   have:(q-1)%2=0:=by omega
   simp[a,this]
 | succ i=>
  simp only[Nat.testBit_succ];have b:(1:Nat)/2=0:=by decide
  rw[b,Nat.zero_testBit,Bool.xor_false]
  congr 1
  split<;>omega
theorem Ol (q k:Nat):(q*2^k) ^^^ (2^k)=iv q*2^k:=by
 have h:=Nat.shiftLeft_xor_distrib (a:=q) (b:=1) (i:=k);rw[Pz,Nat.shiftLeft_eq,Nat.shiftLeft_eq,Nat.shiftLeft_eq,Nat.one_mul]at h;exact h.symm
theorem IQ {k:Nat}(h:k<=62):2^k<=4611686018427387904:=po (n:=2) aB h
def Keys (S:Nat->Bool)(k:Nat)(B:List (Int×Bool)):Prop:=
 (∀x v,(x,v)∈B->v=true/\∃q:Nat,x=((q*2^k:Nat):Int)/\can S k q=true)/\∀q,can S k q=true->(((q*2^k:Nat):Int),true)∈B
structure BH (U:Hp) (p n:Nat) (S:Nat->Bool) (sb:Nat) (ms:List Nat):Prop where
 hd:∃cap,bY U p [.int .i64 n,.slice (some ⟨sb,0,none⟩) ms.length cap]
 row:∃rest,bY U sb (ms.map (λm=>Value.map (some m))++rest)
 maps:∀k m,ms[k]?=some m->∃B:List (Int×Bool),dD U m .i64 .b B/\Keys S k B
 nd:(p::sb::ms).Nodup
 n1:1<=n
 n2:n<=1024
 lo:2^ms.length<=2*n
 hi:n<2^ms.length
 jU:Bounded S n
def fp (p sb:Nat)(ms:List Nat)(b:Nat):Prop:=b∈p::sb::ms
variable {U h':Hp}{p n sb:Nat}{S:Nat->Bool}{ms:List Nat}
theorem BH.len (h:BH U p n S sb ms):ms.length<=11:=by
 have:=h.lo;have:=h.n2;apply Classical.byContradiction;intro hc;have:2^12<=2^ms.length:=po aB O;omega
theorem BH.vu (h:BH U p n S sb ms):1<=ms.length:=by
 have a:=h.hi;have b:=h.n1;rcases uW ms.length with e|e
 ·rw[e]at a;simp at a;omega
 ·exact e
theorem BH.fits (h:BH U p n S sb ms){k q:Nat}(hf:q*2^k+2^k<=n):k<ms.length:=by
 apply Classical.byContradiction;intro hc;have:2^ms.length<=2^k:=po aB O;have:=h.hi;omega
theorem BH.RF (h:BH U p n S sb ms):cell U ⟨p,0,none⟩=some (.int .i64 n):=by
 obtain⟨cap,a⟩:=h.hd;rw[a.cell];rfl
theorem BH.lB (h:BH U p n S sb ms):∃cap,cell U ⟨p,1,none⟩=some (.slice (some ⟨sb,0,none⟩) ms.length cap):=by
 obtain⟨cap,a⟩:=h.hd;exact⟨cap,by rw[a.cell];rfl⟩
theorem BH.Tl (h:BH U p n S sb ms){k m:Nat}(hm:ms[k]?=some m):cell U ⟨sb,k,none⟩=some (.map (some m)):=by
 obtain⟨a,b⟩:=h.row;rw[b.cell,zQ (by simpa using(cV.1 hm).1),zk,hm];rfl
theorem BH.get (h:BH U p n S sb ms){k:Nat}(hk:k<ms.length):∃m,ms[k]?=some m:=⟨ms[k],by simp[hk]⟩
theorem BH.bV (h:BH U p n S sb ms){F:Nat->Prop}(e:Ext F U h')(hF:∀b,fp p sb ms b->¬F b):BH h' p n S sb ms where
 hd:=by obtain⟨cap,d⟩:=h.hd;exact⟨cap,e.bX d (hF _ (by simp[fp]))⟩
 row:=by obtain⟨a,d⟩:=h.row;exact⟨a,e.bX d (hF _ (by simp[fp]))⟩
 maps:=λk m g=>by
  obtain⟨B,i,j⟩:=h.maps k m g;exact⟨B,e.fC i (hF _ (by simp[fp,zE g])),j⟩
 nd:=h.nd
 n1:=h.n1
 n2:=h.n2
 lo:=h.lo
 hi:=h.hi
 jU:=h.jU
theorem BH.aF (h:BH U p n S sb ms)(e:aG U h'):BH h' p n S sb ms:=h.bV e λ_ _=>id
theorem NJ {k:Nat}{B:List (Int×Bool)}(hK:Keys S k B)(hn:(B.map (·.1)).Nodup)(q:Nat):cB B ((q*2^k:Nat):Int)=if can S k q then some true else none:=by
 unfold cB;cases hf:B.find? λx=>x.1==((q*2^k:Nat):Int)with
 | some x=>
  have m:=sy hf;have a:=sg hf;obtain⟨e,p⟩:=x;obtain⟨i,j,g,b⟩:=hK.1 e p a;have d:e=((q*2^k:Nat):Int):=by simpa using m
  rw[d]at g;have:q*2^k=j*2^k:=by exact_mod_cast g
  have:=wJ (lj k) this;subst this;subst i;simp[b]
 | none=>
  rw[qw]at hf;by_cases b:can S k q=true
  ·have:=hf _ (hK.2 q b);simp at this
  ·simp[b]
theorem BH.lk (h:BH U p n S sb ms){k m q:Nat}(hm:ms[k]?=some m){x:Int}(hx:x=((q*2^k:Nat):Int)){K:Option Bool->Prop}
 (hK:K (if can S k q then some true else none)):Lk .i64 .b (some m) x U K:=by
 obtain⟨B,a,d⟩:=h.maps k m hm;exact⟨B,a,by rw[hx,NJ d a.nodup];exact hK⟩
theorem Ff {k:Nat}{B:List (Int×Bool)}(hK:Keys S k B)(hn:(B.map (·.1)).Nodup)(hb:Bounded S n):B.length=many n S k:=by
 have hp:(B.map (·.1)).Perm (((List.range n).filter (can S k)).map λq=>((q*2^k:Nat):Int)):=by
  rw[xP hn]
  ·intro x;simp only[zD,zH,ze];constructor
   ·rintro⟨⟨x1,x2⟩,hm,rfl⟩;obtain⟨_,q,m,d⟩:=hK.1 x1 x2 hm;refine⟨q,⟨?_,d⟩,m.symm⟩;have:=Z5 hb (ZW.1 d).1;have j:=lj k;have p:q<=q*2^k:=Nat.le_mul_of_pos_right _ j;omega
   ·rintro⟨q,⟨_,d⟩,rfl⟩;exact⟨_,hK.2 q d,rfl⟩
  ·have e:((List.range n).filter (can S k)).Pairwise (· ≠ ·):=List.Pairwise.sublist rR List.nodup_range;refine List.Pairwise.map _ (λa b (g:a≠b) i=>g ?_) e;have:a*2^k=b*2^k:=by exact_mod_cast i
   exact wJ (lj k) this
 have:=hp.length_eq;simp only[zi]at this;rw[this,many,Ai]
theorem BH.ly (h:BH U p n S sb ms){k m:Nat}(hm:ms[k]?=some m){K:Int->Prop}(hK:K ((many n S k:Nat):Int)):qY .i64 .b (some m) U K:=by
 obtain⟨B,a,d⟩:=h.maps k m hm;exact⟨B,a,by rw[Ff d a.nodup h.jU];exact hK⟩
theorem BH.qg (h:BH U p n S sb ms){k m:Nat}{T:Nat->Bool}(hm:ms[k]?=some m)(ho:QT U h' m){B':List (Int×Bool)}(hB':dD h' m .i64 .b B')(hK':Keys T k B')
 (hoth:∀j q,j≠k->can T j q=can S j q) (hT:Bounded T n):BH h' p n T sb ms where
 hd:=by
  obtain⟨cap,s⟩:=h.hd;refine⟨cap,Wm ho s ?_⟩;have:=h.nd;simp only[zo,zW,not_or]at this;rintro rfl;exact this.1.2 (zE hm)
 row:=by
  obtain⟨i,s⟩:=h.row;refine⟨i,Wm ho s ?_⟩;have:=h.nd;simp only[zo,zW,not_or]at this;rintro rfl;exact this.2.1 (zE hm)
 maps:=λj A a=>by
  by_cases e:j=k
  ·subst e;rw[hm]at a;cases a;exact⟨B',hB',hK'⟩
  ·obtain⟨B,w,d⟩:=h.maps j A a;refine⟨B,VI ho w ?_,?_⟩
   ·rintro rfl;have g:=h.nd;simp only[zo]at g;exact e ((List.getElem?_inj (cV.1 a).1 g.2.2).1 (a.trans hm.symm))
   ·refine⟨λx v C=>?_,λq u=>d.2 q (by rw[←hoth j q e];exact u)⟩;obtain⟨z,q,r,y⟩:=d.1 x v C;exact⟨z,q,r,by rw[hoth j q e];exact y⟩
 nd:=h.nd
 n1:=h.n1
 n2:=h.n2
 lo:=h.lo
 hi:=h.hi
 jU:=hT
theorem PK (hb:Bounded S n)(k q:Nat):Bounded (del S k q) n:=λx a=>hb x (Ua.1 a).1
theorem Iz (hb:Bounded S n){k q:Nat}(hf:q*2^k+2^k<=n):Bounded (ins S k q) n:=λx a=>by
 rcases Ue.1 a with h|h
 ·exact hb x h
 ·have:=Qv.1 h;omega
theorem FT {a b:Bool}(h:a=true↔b=true):a=b:=by cases a<;>cases b<;>simp_all
theorem BH.sG (h:BH U p n S sb ms){k m q:Nat}(hm:ms[k]?=some m)(hc:can S k q=true){x:Int}(hx:x=((q*2^k:Nat):Int)){K:aP}
 (hK:∀h',Ext (· ∈ ms) U h'->BH h' p n (del S k q) sb ms->K h'):nf .i64 .b (some m) x U K:=by
 obtain⟨B,z,u⟩:=h.maps k m hm;refine⟨B,z,λh' w _ i=>hK h' (Ext.eL (w m rfl) (zE hm)) ?_⟩;refine h.qg hm (w m rfl) i ⟨λy v g=>?_,λr D=>?_⟩ (λj r A=>FT ?_) (PK h.jU k q)
 ·simp only[dK,zH,mS,kR]at g;obtain⟨C,r,d,s⟩:=u.1 y v g.1;refine⟨C,r,d,(Dv hc).2 ⟨s,λe=>g.2 ?_⟩⟩;rw[d,hx,e.2]
 ·have a:=(Dv hc).1 D;simp only[dK,zH,mS,kR];refine⟨u.2 r a.1,λe=>a.2 ⟨rfl,?_⟩⟩;rw[hx]at e;have:r*2^k=q*2^k:=by exact_mod_cast e
  exact wJ (lj k) this
 ·rw[Dv hc];exact⟨λh=>h.1,λh=>⟨h,λe=>A e.1⟩⟩
theorem BH.wo (h:BH U p n S sb ms){k m q:Nat}(hm:ms[k]?=some m)(hd:∀y,y/2^k=q->S y=false)(hup:¬full (ins S k q) (k+1) (q/2)=true)(hf:q*2^k+2^k<=n)
 {x:Int} (hx:x=((q*2^k:Nat):Int)) {K:aP} (hK:∀h',Ext (· ∈ ms) U h'->BH h' p n (ins S k q) sb ms->K h'):jS .i64 .b (some m) x true U K:=by
 obtain⟨B,C,z⟩:=h.maps k m hm;refine⟨m,B,rfl,C,λh' A w=>hK h' (Ext.eL A (zE hm)) ?_⟩;have s:∀y∈B,(y.1==x)=false:=by
  rintro⟨y,v⟩ d;obtain⟨_,r,a,g⟩:=z.1 y v d;simp only[kR];rintro rfl;rw[hx]at a;have:q*2^k=r*2^k:=by exact_mod_cast a
  have:=wJ (lj k) this;subst this;have u:=Uw g (Vn k q);rw[hd _ (Vn k q)]at u;cases u
 have i:dO B x true=B++[(x,true)]:=by
  unfold dO;rw[zA];simp only[pY,mE];intro y d;simp[s y d]
 refine h.qg hm A w ?_ (λj r D=>FT ?_) (Iz h.jU hf)
 ·rw[i];refine⟨λy v d=>?_,λr F=>?_⟩
  ·simp only[zS,zZ,Prod.mk.injEq]at d;rcases d with d|⟨rfl,rfl⟩
   ·obtain⟨E,r,a,g⟩:=z.1 y v d;exact⟨E,r,a,(ye hd hup).2 (.inl g)⟩
   ·exact⟨rfl,q,hx,(ye hd hup).2 (.inr ⟨rfl,rfl⟩)⟩
  ·rcases(ye hd hup).1 F with u|⟨_,rfl⟩
   ·exact l7 _ (z.2 r u)
   ·rw[hx];exact px _ aA
 ·rw[ye hd hup];exact⟨λh=>h.elim id λe=>(D e.1).elim,.inl⟩
end Go.Bu
namespace Go.Vc
open Go
theorem Uc {b o:Nat}:∀{vs:List Value} {h:Hp} {cs:List Value} {i:Nat} {K:aP},bY h b cs->o+i+vs.length<=cs.length →
 (∀h',QT h h' b->bY h' b (cs.take (o+i)++vs++cs.drop (o+i+vs.length))->K h')->qH ⟨b,o,none⟩ h vs i K
 | [],h,cs,i,K,hb,hl,hK=>hK h ⟨rfl,λ_ _=>rfl⟩ (by simpa using hb)
 | v::vs,h,cs,i,K,hb,hl,hK=>by
  simp only[zV]at hl;refine⟨?_,?_,?_⟩
  ·rw[add_lit,hb.cell,cQ O];rfl
  ·rw[add_lit];exact hb.oW
  ·rw[add_lit];have hb':=hb.set (o:=o+i) v;refine Uc hb' aE λh' d a=>hK h' ?_ ?_
   ·exact⟨d.1.trans (VS _ _ _),λc g=>(d.2 c g).trans (Ut g)⟩
   ·have e:(cs.set (o+i) v).take (o+(i+1))++vs++(cs.set (o+i) v).drop (o+(i+1)+vs.length)=cs.take (o+i)++v::vs++cs.drop (o+i+(v::vs).length):=by
     rw[List.drop_set_of_lt O,show o+(i+1)=(o+i)+1 by omega,zj,List.take_set_of_le O,zK O];simp only[xm,zm,List.singleton_append,lT,qv,zV]
     congr 4
     omega
    rw[e]at a;exact a
def Own (Q:Nat->Prop)(h:Hp)(s:Sl)(sz:Nat)(xs:List Value):Prop:=
 xs.length=s.len*sz/\(s.a=none/\s.len=0/\s.cap=0\/∃b cs,Q b/\s.a=some ⟨b,0,none⟩/\bY h b cs/\s.len<=s.cap/\cs.length=s.cap*sz/\cs.take xs.length=xs)
def HB (s:Sl)(b:Nat):Prop:=∃o,s.a=some ⟨b,o,none⟩
theorem Own.nil (Q:Nat->Prop)(h:Hp)(sz:Nat):Own Q h ⟨none,0,0⟩ sz []:=⟨by simp,.inl ⟨rfl,rfl,rfl⟩⟩
theorem Own.bV {Q F:Nat->Prop}{h h':Hp}{s:Sl}{sz:Nat}{xs:List Value}(ho:Own Q h s sz xs)(e:Ext F h h')(hF:∀b,Q b->b<h.size->¬F b):Own Q h' s sz xs:=by
 refine⟨ho.1,ho.2.imp id ?_⟩;rintro⟨b,cs,hq,ha,hb,r⟩;exact⟨b,cs,hq,ha,e.bX hb (hF b hq hb.lt),r⟩
theorem Own.aF {Q:Nat->Prop}{h h':Hp}{s:Sl}{sz:Nat}{xs:List Value}(ho:Own Q h s sz xs)(e:aG h h'):Own Q h' s sz xs:=ho.bV e λ_ _ _ h=>h
theorem Own.mono {Q Q':Nat->Prop}{h:Hp}{s:Sl}{sz:Nat}{xs:List Value}(ho:Own Q h s sz xs)(hq:∀b,b<h.size->Q b->Q' b):Own Q' h s sz xs:=by
 refine⟨ho.1,ho.2.imp id ?_⟩;rintro⟨b,cs,hQ,ha,hb,r⟩;exact⟨b,cs,hq b hb.lt hQ,ha,hb,r⟩
theorem Own.ia {Q:Nat->Prop}{h:Hp}{s:Sl}{sz:Nat}{xs:List Value}(ho:Own Q h s sz xs){b:Nat}(hb:HB s b):Q b/\b<h.size:=by
 obtain⟨o,a⟩:=hb;rcases ho.2 with⟨ha,_⟩|⟨b',cs,hq,ha,hk,_⟩
 ·rw[ha]at a;cases a
 ·rw[ha]at a;cases a;exact⟨hq,hk.lt⟩
theorem Own.rd {Q:Nat->Prop}{h:Hp}{s:Sl}{sz:Nat}{xs:List Value}(ho:Own Q h s sz xs):Rd h s.a xs:=by
 rcases ho.2 with⟨ha,hl,_⟩|⟨b,cs,_,ha,hb,_,_,ht⟩
 ·rw[ha];have:=ho.1;rw[hl]at this;simp at this;exact this
 ·rw[ha];intro j v hv;rw[add_lit,hb.cell,zG];rw[←ht,zY]at hv;split at hv
  ·exact hv
  ·cases hv
theorem Own.cell {Q:Nat->Prop}{h:Hp}{s:Sl}{sz:Nat}{xs:List Value}(ho:Own Q h s sz xs){j:Nat}{v:Value}(hv:xs[j]?=some v):∃b,s.a=some ⟨b,0,none⟩/\Vc.cell h ⟨b,j,none⟩=some v:=by
 rcases ho.2 with⟨ha,hl,_⟩|⟨b,cs,_,ha,hb,_,_,ht⟩
 ·have:=ho.1;rw[hl]at this;simp at this;subst this;simp at hv
 ·refine⟨b,ha,?_⟩;rw[hb.cell];rw[←ht,zY]at hv;split at hv
  ·exact hv
  ·cases hv
theorem Own.app {Q:Nat->Prop}{h:Hp}{s x:Sl}{sz bytes e:Nat}{zs xs ys:List Value}{K:Sl->Hp->Prop}(ho:Own Q h s sz xs)(hq:∀b,h.size<=b->Q b)(hz:zs.length=sz)
 (hy:ys.length=x.len*sz) (hr:Rd h x.a ys) (h1:∀v∈ys,dJ v=true) (hb:(s.len+x.len)*bytes<=2^46) (hc:s.len+x.len<=2^62)
 (hx:0<x.len) (hK:∀s' h',s'.len=s.len+x.len->Ext (HB s) h h'->Own Q h' s' sz (xs++ys)->s'.a≠none->K s' h'):App s sz bytes e zs x h K:=by
 refine⟨xs,ys,ho.1,hy,ho.rd,hr,h1,hb,hc,λg=>?_,λp c m=>?_⟩
 ·rcases ho.2 with⟨ha,hl,hcap⟩|⟨b,cs,hQ,ha,hk,hle,hcl,ht⟩
  ·omega
  ·rw[ha];simp only;rw[add_lit];have r:(s.len+x.len)*sz<=s.cap*sz:=k7 _ g;rw[zl]at r;have d:=ho.1;refine Uc hk O λh' i j=>hK _ h' rfl (Ext.eL i ⟨0,ha⟩) ⟨?_,.inr ⟨b,_,hQ,rfl,j,g,?_,?_⟩⟩ aA
   ·simp[d,hy,zl]
   ·simp;omega
   ·rw[zR,d];rw[zG,zw,←d];rw[ht,qb aA,l0 aA]
 ·refine hK _ _ rfl (Ext.push _ _ _) ⟨by simp[ho.1,hy,zl],.inr ⟨h.size,xs++ys++(List.replicate (c-(s.len+x.len)) zs).flatten,hq _ (zC _),rfl,⟨e,by simp⟩,m,?_,?_⟩⟩ aA
  ·simp only[zR,wg,uU,wG,ho.1,hy,hz,←zl]
   congr 1;omega
  ·rw[qb aA,l0 aA]
theorem Mn {h:Hp}{v:Value}{e:Nat}:Rd (h.push (.cells #[v] e (0,0))) (some ⟨h.size,0,none⟩) [v]:=by
 intro j u hu;rw[add_lit];cases j with
 | zero=>simp at hu;subst hu;simp[Vc.cell]
 | succ j=>simp at hu
theorem bY.IZ {h:Hp}{b o:Nat}{cs:List Value}(hb:bY h b cs){v:Value}(ho:o<cs.length){K:aP}(hK:∀h',QT h h' b->bY h' b (cs.set o v)->K h'):eP (Addr.add ⟨b,0,none⟩ o) v h K:=by
 rw[add_lit,zG];refine⟨?_,hb.oW,hK _ ⟨VS _ _ _,λc a=>Ut a⟩ (hb.set v)⟩;rw[hb.cell,cQ ho];rfl
theorem bY.push (h:Hp)(cs:List Value)(e:Nat):bY (h.push (.cells cs.toArray e (0,0))) h.size cs:=⟨e,by simp⟩
theorem dD.push (h:Hp)(k:IntKind)(c:CK):dD (h.push (.map #[] 0)) h.size k c []:=⟨#[],0,by simp,by simp,by simp,by simp,by simp⟩
theorem Ext.only {F:Nat->Prop}{a b c:Hp}{r:Nat}(e:Ext F a b)(ho:QT b c r)(hr:F r\/a.size<=r):Ext F a c:=
 ⟨by rw[ho.1];exact e.1,λi g d=>by
  rw[ho.2 i ?_];exact e.2 i g d;rintro rfl;rcases hr with h|h
  ·exact d h
  ·omega⟩
theorem Ext.fresh {a b c:Hp}{F:Nat->Prop}(e:aG a b)(k:Ext F b c)(hF:∀i,F i->a.size<=i):aG a c:=
 ⟨zP e.1 k.1,λi d _=>(k.2 i (uG d e.1) λg=>by have:=hF i g;omega).trans (e.2 i d id)⟩
theorem Own.st {Q:Nat->Prop}{h:Hp}{s:Sl}{sz:Nat}{xs:List Value}(ho:Own Q h s sz xs){j:Nat}(hj:j<xs.length){v:Value}{K:aP}{a:Addr}(ha:∀b,s.a=some ⟨b,0,none⟩->a=⟨b,j,none⟩)
 (hK:∀h',Ext (HB s) h h'->Own Q h' s sz (xs.set j v)->K h'):eP a v h K:=by
 rcases ho.2 with⟨h1,hl,_⟩|⟨b,cs,hq,hsa,hb,hle,hcl,ht⟩
 ·have:=ho.1;rw[hl]at this;simp at this;subst this;simp at hj
 ·rw[ha b hsa];have d:j<cs.length:=by
   have:(cs.take xs.length).length=xs.length:=by rw[ht]
   rw[zL]at this;omega
  refine⟨by rw[hb.cell,cQ d];rfl,hb.oW,hK _ (Ext.kg (F:=HB s) ⟨0,hsa⟩) ⟨by simp[ho.1],.inr ⟨b,_,hq,hsa,hb.set v,hle,by simp[hcl],?_⟩⟩⟩;rw[nZ,List.take_set,ht]
end Go.Vc