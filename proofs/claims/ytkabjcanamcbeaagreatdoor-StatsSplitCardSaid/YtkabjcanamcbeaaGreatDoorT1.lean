/- Texts joined. -/
import Init
import Derived.WalkKit
import Derived.WalkLawsBesides
import Derived.WalkSpells
import Derived.ChangeKeysEq
import Derived.StillTail
import Derived.OrdersHeld
import Derived.Scope
set_option linter.unusedVariables false
set_option linter.unusedSimpArgs false
abbrev zA:=@if_neg
abbrev zB:=@if_pos
abbrev zC:=@Nat.le_refl
abbrev zD:=@List.mem_map
abbrev zE:=@List.mem_of_getElem?
abbrev zF:=@Bool.and_eq_true
abbrev zG:=@Nat.zero_add
abbrev zH:=@List.mem_filter
abbrev zI:=@Nat.le_trans
abbrev zJ:=@List.length_append
abbrev zK:=@List.map_cons
abbrev zL:=@List.getElem?_of_mem
abbrev zM:=@List.getElem?_set_self
abbrev zN:=@List.getD_eq_getElem?_getD
abbrev zO:=@List.length_take
abbrev zP:=@List.mem_append
abbrev zQ:=@List.length_cons
abbrev zR:=@decide_eq_true_eq
abbrev zS:=@List.mem_singleton
abbrev zT:=@List.mem_cons
abbrev zU:=@decide_eq_true
abbrev zV:=@if_true
abbrev zW:=@List.mem_range
abbrev zX:=@List.getElem?_eq_none
abbrev zY:=@List.getElem?_take
abbrev zZ:=@beq_iff_eq
abbrev za:=@List.length_map
abbrev zb:=@decide_eq_false
abbrev zc:=@Bool.false_eq_true
abbrev zd:=@List.getElem_mem
abbrev ze:=@List.getElem?_map
abbrev zf:=@List.take_add_one
abbrev zg:=@List.getElem?_append_left
abbrev zh:=@Option.map_some
abbrev zi:=@List.getElem?_append_right
abbrev zj:=@List.getElem?_set_ne
abbrev zk:=@Int.eq_ofNat_of_zero_le
abbrev zl:=@Nat.add_mul
abbrev zm:=@List.take_length
abbrev zn:=@List.getElem?_drop
abbrev zo:=@List.nodup_cons
abbrev zp:=@List.ext_getElem?
abbrev zq:=@List.any_eq_true
abbrev zr:=@Nat.add_zero
abbrev zt:=@List.length_drop
abbrev zu:=@List.sum_cons
abbrev zw:=@List.range_succ
abbrev zy:=@List.pairwise_iff_getElem
abbrev zz:=@if_false
abbrev km:=@List.append_nil
abbrev kF:=@List.append_assoc
abbrev kA:=@List.map_congr_left
abbrev kR:=@List.all_eq_true
abbrev kP:=@List.map_map
abbrev kQ:=@List.map_append
abbrev kU:=@Nat.mul_le_mul
abbrev kY:=@Nat.two_pow_pos
abbrev lC:=@List.foldl_cons
abbrev lz:=@List.mem_cons_of_mem
abbrev lB:=@List.mem_cons_self
abbrev lS:=@Nat.mul_le_mul_right
abbrev lL:=@Nat.eq_of_beq_eq_true
abbrev lZ:=@List.cons_append
abbrev mc:=@List.take_of_length_le
abbrev lU:=@List.length_nil
abbrev mw:=@Nat.lt_or_ge
abbrev mr:=@List.mem_append_left
abbrev mn:=@Bool.eq_false_iff
abbrev mT:=@Array.getElem?_eq_some_iff
abbrev mA:=@List.pairwise_cons
abbrev mM:=@List.flatMap_cons
abbrev mX:=@Bool.eq_iff_iff
abbrev m6:=@List.foldl_append
abbrev nB:=@List.getElem?_replicate
abbrev ns:=@Nat.pow_succ
abbrev nq:=@List.getElem?_set
abbrev m9:=@Nat.mul_one
abbrev nj:=@Bool.not_eq_true'
abbrev np:=@List.any_eq_false
abbrev m7:=@List.mem_of_mem_take
abbrev na:=@List.length_filter_le
abbrev nk:=@beq_eq_false_iff_ne
abbrev nM:=@List.length_set
abbrev oe:=@List.pairwise_append
abbrev nS:=@List.take_append_drop
abbrev nX:=@Bool.or_eq_true
abbrev n4:=@Nat.zero_lt_one
abbrev oO:=@List.nodup_append
abbrev ov:=@List.filter_eq_self
abbrev oV:=@List.find?_eq_none
abbrev oR:=@List.getElem?_range
abbrev oW:=@List.length_range
abbrev oD:=@List.set_set
abbrev ot:=@of_decide_eq_true
abbrev pA:=@Nat.pow_le_pow_right
abbrev pj:=@List.findIdx?_eq_some_iff_getElem
abbrev px:=@Option.getD_some
abbrev pN:=@Option.isSome_iff_exists
abbrev qg:=@List.mem_append_right
abbrev qn:=@List.nil_append
abbrev pG:=@List.take_append_of_le_length
abbrev pW:=@Nat.sub_self
abbrev qD:=@Nat.lt_trichotomy
abbrev qw:=@List.countP_cons
abbrev qz:=@List.map_nil
abbrev qN:=@Nat.min_eq_left
abbrev qL:=@List.drop_eq_getElem_cons
abbrev qv:=@Nat.add_assoc
abbrev qC:=@List.length_pos_iff
abbrev rp:=@Int.le_refl
abbrev qQ:=@Option.map_eq_some_iff
abbrev ri:=@List.filter_cons
abbrev qZ:=@List.mem_of_mem_drop
abbrev rR:=@Bool.not_eq_true
abbrev r8:=@Bool.true_and
abbrev rK:=@List.pairwise_map
abbrev qX:=@Option.map_eq_none_iff
abbrev rJ:=@List.mem_flatMap
abbrev rz:=@List.nodup_nil
abbrev rU:=@of_decide_eq_false
abbrev sZ:=@Nat.le_of_lt
abbrev sk:=@List.filter_sublist
abbrev sF:=@List.getElem_map
abbrev sG:=@Array.getD_eq_getD_getElem?
abbrev sQ:=@List.contains_eq_mem
abbrev sP:=@Bool.and_false
abbrev sY:=@Bool.false_and
abbrev sK:=@List.set_cons_succ
abbrev sL:=@List.take_succ_cons
abbrev sI:=@List.length_singleton
abbrev tV:=@Nat.div_div_eq_div_mul
abbrev tO:=@List.countP_append
abbrev ur:=@List.getElem?_modify
abbrev tL:=@List.contains_iff_mem
abbrev uG:=@Bool.and_true
abbrev tQ:=@List.find?_some
abbrev uQ:=@List.mem_of_find?_eq_some
abbrev uy:=@Option.toList_some
abbrev uV:=@List.map_replicate
abbrev uR:=@List.countP_le_length
abbrev uj:=@List.map_set
abbrev uh:=@List.sum_append
abbrev tz:=@List.take_zero
abbrev tx:=@List.filter_cons_of_neg
abbrev uz:=@List.filter_cons_of_pos
abbrev tU:=@true_and
abbrev vW:=@Nat.mod_lt
abbrev wh:=@List.find?_cons
abbrev wc:=@List.all_cons
abbrev wb:=@List.findIdx?_eq_none_iff
abbrev vY:=@List.flatten_cons
abbrev vq:=@Nat.mod_eq_of_lt
abbrev vz:=@Nat.mul_eq_zero
abbrev vC:=@Nat.zero_mul
abbrev ve:=@List.getElem_of_mem
abbrev vw:=@List.filterMap_append
abbrev vL:=@Nat.lt_of_lt_of_le
abbrev wa:=@List.length_flatten
abbrev vR:=@List.sum_replicate_nat
abbrev vB:=@Bool.decide_and
abbrev vA:=@List.count_append
abbrev vQ:=@List.count_le_length
abbrev vP:=@List.filter_append
abbrev vM:=@Nat.zero_le
abbrev vG:=@List.getElem?_cons_zero
abbrev xX:=@List.findIdx?_cons
abbrev xJ:=@List.map_id
abbrev xr:=@List.replicate_succ'
abbrev wH:=@List.flatten_append
abbrev xw:=@Nat.mul_assoc
abbrev xV:=@Nat.ne_of_lt
abbrev xd:=@Array.length_toList
abbrev xL:=@List.mem_filterMap
abbrev wC:=@Nat.eq_of_mul_eq_mul_right
abbrev xo:=@List.perm_ext_iff_of_nodup
abbrev xB:=@List.nodup_range
abbrev wW:=@List.countP_eq_length_filter
abbrev xi:=@Nat.eq_zero_or_pos
abbrev wL:=@List.set_append_right
abbrev xF:=@List.replicate_succ
abbrev xU:=@Bool.or_false
abbrev wD:=@List.takeWhile_cons
abbrev wQ:=@List.mem_or_eq_of_mem_set
abbrev w9:=@List.length_eq_zero_iff
abbrev xm:=@List.count_eq_zero
abbrev yL:=@Nat.div_mul_le_self
abbrev AI:=@List.countP_map
abbrev A4:=@List.countP_congr
abbrev AG:=@List.any_append
abbrev yS:=@List.map_eq_nil_iff
abbrev yX:=@Array.getElem?_toList
abbrev Aq:=@Array.getElem?_setIfInBounds_ne
abbrev yn:=@List.mem_map_of_mem
abbrev AV:=@List.mem_replicate
abbrev yE:=@Array.getElem?_push
abbrev yN:=@List.filter_congr
abbrev yZ:=@Option.bind_some
abbrev yF:=@Bool.false_or
abbrev yP:=@Bool.not_false
abbrev AA:=@Array.getElem?_modify
abbrev AP:=@List.getElem?_cons_succ
abbrev AJ:=@List.count_replicate
abbrev Ag:=@List.take_take
abbrev yQ:=@List.take_left'
abbrev Av:=@List.drop_succ_cons
abbrev yq:=@List.pairwise_singleton
abbrev yp:=@List.dropLast_eq_take
abbrev AB:=@List.range_succ_eq_map
abbrev yI:=@List.findIdx?_eq_some_iff_findIdx_eq
abbrev Aa:=@List.size_toArray
abbrev Bp:=@Nat.mul_div_cancel
abbrev Ed:=@Nat.le_mul_of_pos_right
abbrev Cu:=@Array.mem_of_getElem?
abbrev BO:=@Array.toList_modify
abbrev CJ:=@Array.toList_eraseIdxIfInBounds
abbrev C2:=@List.filter_filter
abbrev BZ:=@List.filterMap_cons
abbrev D7:=@Array.getElem?_append_left
abbrev Cd:=@List.length_dropLast
abbrev CG:=@List.eq_nil_of_length_eq_zero
abbrev D0:=@Nat.add_sub_cancel_left
abbrev CW:=@List.flatMap_append
abbrev Dl:=@List.take_sublist
abbrev Dw:=@List.dropWhile_cons
abbrev DR:=@List.drop_sublist
abbrev BR:=@List.find?_isSome
abbrev DG:=@List.eq_of_mem_replicate
abbrev BA:=@List.takeWhile_append_dropWhile
abbrev Dq:=@List.takeWhile_cons_of_neg
abbrev C9:=@List.drop_eq_nil_of_le
abbrev Ds:=@Nat.add_sub_cancel
abbrev Ek:=@List.zip_cons_cons
abbrev DH:=@List.getElem?_zipWith
abbrev BP:=@List.nodup_iff_count
abbrev DY:=@List.count_pos_iff
abbrev CU:=@List.count_singleton_self
abbrev Dy:=@Bool.and_eq_false_iff
theorem cS {α:Type _}{l:List α}{i:Nat}{a:α}:l[i]?=some a↔∃h:i<l.length,l[i]=a:=List.getElem?_eq_some_iff
theorem cL {α:Type _}{l:List α}{i:Nat}(h:i<l.length):l[i]?=some l[i]:=List.getElem?_eq_getElem h
theorem dC (n:Nat):(n:Int).toNat=n:=Int.toNat_natCast n
theorem O{p:Prop}(h:p:=by omega):p:=h
theorem aA{p:Prop}(h:p:=by simp):p:=h
theorem aB{p:Prop}(h:p:=by decide):p:=h
theorem aC{p:Prop}(h:p:=by simp only;omega):p:=h
theorem aD{p:Prop}(h:p:=by first|omega | (simp only;omega)):p:=h
theorem aE{p:Prop}(h:p:=by simp;omega):p:=h
abbrev aW(b:Nat):Option Go.Addr:=some ⟨b,0,none⟩
namespace Go.Ar
structure bX where
 size:Nat
 aF:Nat
 batch:Nat
 deriving DecidableEq
def bX.n (c:bX):Nat:=c.aF*256/c.size
def bX.tail (c:bX):Nat:=c.aF*256-c.n*c.size
def UH (x y z:Int):Bool:=decide (8<=x)&&(decide (x<=512)&&(decide (x%8=0)&&(decide (1<=y)&&(decide (y<=4)&&(decide (x<=y*256)&&(decide (1<=z)&&decide (z<=32)))))))
def bX.ok (c:bX):Prop:=8<=c.size/\c.size<=512/\c.size%8=0/\1<=c.aF/\c.aF<=4/\c.size<=c.aF*256/\1<=c.batch/\c.batch<=32
theorem HU (x y z:Int):UH x y z=true↔8<=x/\x<=512/\x%8=0/\1<=y/\y<=4/\x<=y*256/\1<=z/\z<=32:=by simp[UH]
theorem UE (c:bX):UH c.size c.aF c.batch=true↔c.ok:=by
 rw[HU];unfold bX.ok;omega
def Z0 (t:Int×Int×Int):bX:=⟨t.1.toNat,t.2.1.toNat,t.2.2.toNat⟩
theorem yR {x y z:Int}(h:UH x y z=true):∃c:bX,c.ok/\Z0 (x,y,z)=c/\x=c.size/\y=c.aF/\z=c.batch:=by
 rw[HU]at h;refine⟨Z0 (x,y,z),?_,rfl,?_,?_,?_⟩<;>simp only[Z0,bX.ok]<;>omega
def vJ:List (Int×Int×Int)->Bool
 | x::y::l=>decide (x.1<y.1)&&vJ (y::l)
 | _=>true
def Qq (xs:List (Int×Int×Int)):Bool:=decide (1<=xs.length)&&(decide (xs.length<=40)&&(xs.all (λt=>UH t.1 t.2.1 t.2.2)&&vJ xs))
theorem bX.ok.nL {c:bX}(h:c.ok):1<=c.n:=by
 unfold bX.ok at h;exact(Nat.one_le_div_iff O).2 h.2.2.2.2.2.1
theorem bX.ok.jX {c:bX}(h:c.ok):c.n<=128:=by
 unfold bX.ok at h;unfold bX.n;have:c.aF*256/c.size<=1024/8:=Nat.div_le_div O O O;omega
theorem bX.si (c:bX):c.n*c.size<=c.aF*256:=yL _ _
structure cI where
 st:Nat
 tk:List Bool
 deriving DecidableEq
def cI.many (s:cI):Nat:=s.tk.count true
def idx (c:bX)(s:cI)(x:Int):Option Nat:=if x<((s.st*256:Nat):Int)\/((s.st*256+s.tk.length*c.size:Nat):Int)<=x then none else some ((x-((s.st*256:Nat):Int)).toNat/c.size)
def at_ (c:bX)(s:cI)(i:Nat):Nat:=s.st*256+i*c.size
def obj (c:bX)(s:cI)(x:Int):Option Nat:=match idx c s x with
 | some i=>if x=((at_ c s i:Nat):Int)then some i else none
 | none=>none
theorem Uh {c:bX}{s:cI}{x:Int}{i:Nat}(hc:0<c.size):idx c s x=some i↔((at_ c s i:Nat):Int)<=x/\x<((at_ c s (i+1):Nat):Int)/\i<s.tk.length:=by
 unfold idx at_;constructor
 ·intro h;split at h
  ·cases h
  ·rename_i hn;cases h;obtain⟨y,rfl⟩:=zk (show 0<=x by omega);have e:((y:Int)-((s.st*256:Nat):Int)).toNat=y-s.st*256:=by omega
   rw[e];have g:(y-s.st*256)/c.size*c.size<=y-s.st*256:=yL _ _;have b:=Nat.lt_div_mul_add (a:=y-s.st*256) hc;have d:(y-s.st*256)/c.size<s.tk.length:=(Nat.div_lt_iff_lt_mul hc).2 O;rw[zl];omega
 ·rintro⟨g,b,d⟩;obtain⟨y,rfl⟩:=zk (show 0<=x by omega);have j:(i+1)*c.size<=s.tk.length*c.size:=lS _ d;rw[zA O];have e:((y:Int)-((s.st*256:Nat):Int)).toNat=y-s.st*256:=by omega
  rw[e]
  congr 1
  rw[zl]at b;refine Nat.div_eq_of_lt_le ?_ ?_
  ·omega
  ·rw[zl];omega
theorem UT {c:bX}{s:cI}{x:Int}{i:Nat}(hc:0<c.size):obj c s x=some i↔x=((at_ c s i:Nat):Int)/\i<s.tk.length:=by
 unfold obj;constructor
 ·intro h;split at h
  ·rename_i j hj;split at h
   ·cases h;rename_i he;exact⟨he,((Uh hc).1 hj).2.2⟩
   ·cases h
  ·cases h
 ·rintro⟨rfl,hi⟩;have:idx c s ((at_ c s i:Nat):Int)=some i:=(Uh hc).2 ⟨rp _,by unfold at_;rw[zl];omega,hi⟩;rw[this];simp
def low (s:cI):Option Nat:=s.tk.findIdx? (· == false)
def cI.put (s:cI)(i:Nat)(v:Bool):cI:={s with tk:=s.tk.set i v}
def lr (c:bX)(ss:List cI)(x:Int):Option Nat:=ss.findIdx? λs=>(idx c s x).isSome
def eB (c:bX)(ss:List cI)(x:Int):Option Bool:=match lr c ss x with
 | some k=>match ss[k]? with
  | some s=>(obj c s x).map λi=>s.tk.getD i false
  | none=>none
 | none=>none
def wX (x y:cI):Bool:=decide (x.many>y.many)||(x.many==y.many&&decide (x.st<y.st))
def ZA (ss:List cI):Nat->Option Nat
 | 0=>none
 | k+1=>match ss[k]? with
  | some x=>if x.many<x.tk.length then(match ZA ss k with
   | some j=>match ss[j]? with
    | some y=>if wX x y then some k else some j
    | none=>some k
   | none=>some k)else ZA ss k
  | none=>ZA ss k
def nc (ss:List cI):Option Nat:=ZA ss ss.length
def jm (c:bX)(ss:List cI):Option (Nat×List cI):=match nc ss with
 | some k=>match ss[k]? with
  | some s=>match low s with
   | some i=>some (at_ c s i,ss.set k (s.put i true))
   | none=>none
  | none=>none
 | none=>none
def Ke (c:bX):Nat->List cI->List Nat×List cI
 | 0,ss=>([],ss)
 | m+1,ss=>match jm c ss with
  | some (x,ss')=>let r:=Ke c m ss';(x::r.1,r.2)
  | none=>([],ss)
def iT (c:bX)(ss:List cI)(xs:List Int):Int:=
 if xs.any (λx=>(eB c ss x).isNone)then 8 else if xs.any (λx=>eB c ss x==some false) || !decide xs.Nodup then 9 else 0
def fK (c:bX)(ss:List cI)(x:Int):List cI:=match lr c ss x with
 | some k=>match ss[k]? with
  | some s=>match obj c s x with
   | some i=>ss.set k (s.put i false)
   | none=>ss
  | none=>ss
 | none=>ss
def cK (ss:List cI):List cI:=ss.filter λs=>s.many != 0
def Qc (ss:List cI):List Nat:=(ss.filter λs=>s.many==0).map (·.st)
def r7 (c:bX)(ss:List cI)(x:Int):Option Nat:=match lr c ss x with
 | some k=>match ss[k]? with
  | some s=>(idx c s x).map (at_ c s)
  | none=>none
 | none=>none
def iC (c:bX)(ss:List cI)(st:Nat):List cI:=ss.takeWhile (λs=>s.st<st)++⟨st,List.replicate c.n false⟩::ss.dropWhile (λs=>s.st<st)
def pa (c:bX)(ss:List cI)(x:Nat):Int:=if ss.any (λs=>max s.st x-min s.st x<c.aF)then 9 else 0
def KA (ss:List cI):Nat:=(ss.map λs=>s.tk.length-s.many).sum
structure fU where
 low:Nat
 bs:List (List Int)
 deriving DecidableEq
def fZ {α:Type}(l:List α)(a b:Nat)(v:α):List α:=l.mapIdx λi x=>if a<=i/\i<b then v else x
theorem Qr {α:Type}(l:List α)(a b:Nat)(v:α):(fZ l a b v).length=l.length:=by simp[fZ]
theorem Hs {α:Type}(l:List α)(a b:Nat)(v:α)(i:Nat):(fZ l a b v)[i]?=(l[i]?).map λx=>if a<=i/\i<b then v else x:=by
 simp[fZ,List.getElem?_mapIdx]
theorem P8 {α:Type}{l:List α}{a b:Nat}{v:α}(h1:a<=b)(h2:b<=l.length):fZ l a b v=l.take a++List.replicate (b-a) v++l.drop b:=by
 apply zp;intro i;rw[Hs];rcases mw i a with h|h
 ·rw[kF,zg aE,zY,zB h];have:l[i]?=some l[i]:=cL O;rw[this];simp;omega
 rcases mw i b with h'|h'
 ·rw[kF,zi aE,zg aE];have:l[i]?=some l[i]:=cL O;rw[this];simp[nB,h,h'];omega
 ·rw[zi aE];have e:i-(l.take a++List.replicate (b-a) v).length=i-b:=by simp;omega
  rw[e,zn,show b+(i-b)=i by omega];cases l[i]?<;>simp;omega
def gB (l:List Nat)(a b v:Nat):Nat:=((l.drop a).take (b-a)).count v
end Go.Ar
namespace Go.Bu
def full (S:Nat->Bool)(k q:Nat):Bool:=(List.range (2^k)).all λi=>S (q*2^k+i)
def can (S:Nat->Bool)(k q:Nat):Bool:=full S k q && !full S (k+1) (q/2)
theorem HJ {k q i:Nat}(hi:i<2^k):(q*2^k+i)/2^k=q:=by
 rw[Nat.add_comm,Nat.add_mul_div_right _ _ (kY k),Nat.div_eq_of_lt hi,zG]
theorem G5 {k q p:Nat}(h:p/2^k=q):p=q*2^k+p%2^k:=by
 rw[←h,Nat.mul_comm];exact(Nat.div_add_mod p (2^k)).symm
theorem Qh {k q p:Nat}:p/2^k=q↔q*2^k<=p/\p<q*2^k+2^k:=by
 have a:=kY k;constructor
 ·intro h;have:=G5 h;have b:=vW p a;omega
 ·rintro⟨h1,h2⟩;have:p=q*2^k+(p-q*2^k):=by omega
  rw[this];exact HJ O
theorem YT {S:Nat->Bool}{k q:Nat}:full S k q=true↔∀p,p/2^k=q->S p=true:=by
 simp only[full,kR,zW];constructor
 ·intro h p hp;have:=h (p%2^k) (vW _ (kY k))
  rwa [←G5 hp]at this
 ·intro h i hi;exact h _ (HJ hi)
theorem ZR {S:Nat->Bool}{k q:Nat}:can S k q=true↔full S k q=true/\¬full S (k+1) (q/2)=true:=by
 simp[can]
theorem uf {p k j:Nat}(h:k<=j):p/2^j=p/2^k/2^(j-k):=by
 rw[tV,←Nat.pow_add]
 congr 2;omega
theorem L3 {S:Nat->Bool}{k j q:Nat}(h:k<=j)(hf:full S j (q/2^(j-k))=true):full S k q=true:=by
 rw[YT]at hf ⊢;intro p hp;exact hf p (by rw[uf h,hp])
theorem IC {q k j:Nat}(h:k<j):q/2/2^(j-(k+1))=q/2^(j-k):=by
 rw[tV]
 congr 1
 rw[←Nat.pow_succ']
 congr 1;omega
theorem QX {S:Nat->Bool}{k j q r p:Nat}(hk:can S k q=true)(hj:full S j r=true)(hp:p/2^k=q)(hr:p/2^j=r)(h:k<j):False:=by
 rw[ZR]at hk;refine hk.2 (L3 (j:=j) O ?_);rw[IC h,←hp,←uf (sZ h),hr];exact hj
theorem GE {S:Nat->Bool}{k j q r p:Nat}(hk:can S k q=true)(hj:can S j r=true)(hp:p/2^k=q)(hr:p/2^j=r):k=j/\q=r:=by
 rcases qD k j with h|h|h
 ·exact(QX hk (ZR.1 hj).1 hp hr h).elim
 ·subst h;exact⟨rfl,hp.symm.trans hr⟩
 ·exact(QX hj (ZR.1 hk).1 hr hp h).elim
def Bounded (S:Nat->Bool)(n:Nat):Prop:=∀p,S p=true->p<n
theorem ZX {S:Nat->Bool}{n k q:Nat}(hb:Bounded S n)(h:full S k q=true):q*2^k+2^k<=n:=by
 rw[YT]at h;have a:=kY k;have:=hb _ (h (q*2^k+(2^k-1)) (HJ O));omega
theorem Nt {S:Nat->Bool}{p:Nat}:full S 0 p=S p:=by simp[full]
theorem VY {S:Nat->Bool}{n p:Nat}(hb:Bounded S n)(hp:S p=true):∃k,can S k (p/2^k)=true:=by
 apply Classical.byContradiction;intro hno;have all:∀k,full S k (p/2^k)=true:=by
  intro k
  induction k with
  | zero=>simpa[Nt]using hp
  | succ k ih=>
   apply Classical.byContradiction;intro hn;refine hno ⟨k,ZR.2 ⟨ih,?_⟩⟩;rw[tV,←ns];exact hn
 have:=ZX hb (all n);have:=@Nat.lt_two_pow_self n;omega
theorem Vb {S:Nat->Bool}{k q p:Nat}(h:can S k q=true)(hp:p/2^k=q):S p=true:=YT.1 (ZR.1 h).1 p hp
def del (S:Nat->Bool)(k q:Nat):Nat->Bool:=λp=>S p && !(p/2^k==q)
def ins (S:Nat->Bool)(k q:Nat):Nat->Bool:=λp=>S p||p/2^k==q
theorem VR {S:Nat->Bool}{k q p:Nat}:del S k q p=true↔S p=true/\p/2^k≠q:=by simp[del]
theorem VN {S:Nat->Bool}{k q p:Nat}:ins S k q p=true↔S p=true\/p/2^k=q:=by simp[ins]
theorem KH (k q:Nat):(q*2^k)/2^k=q:=Bp _ (kY k)
theorem Ei {S:Nat->Bool}{k q j r:Nat}(hc:can S k q=true):can (del S k q) j r=true↔can S j r=true/\¬(j=k/\r=q):=by
 constructor
 ·intro h;obtain⟨i,u⟩:=ZR.1 h;rw[YT]at i;have s:full S j r=true:=YT.2 λp b=>(VR.1 (i p b)).1;refine⟨ZR.2 ⟨s,λg=>u (YT.2 λp b=>?_)⟩,?_⟩
  ·refine VR.2 ⟨YT.1 g p b,λd=>?_⟩;rcases mw k (j+1)with m|m
   ·exact QX hc g d b m
   ·-- the greater ZB lies in the block
    have a:=KH j r;have x:=(VR.1 (i _ a)).2;apply x;rw[uf (show j+1<=k by omega)];have e:r*2^j/2^(j+1)=r/2:=by
     rw[ns,←tV,a]
    rw[e,←b,←uf (show j+1<=k by omega),d]
  ·rintro⟨rfl,rfl⟩;exact(VR.1 (i _ (KH _ _))).2 (KH _ _)
 ·rintro⟨h,hne⟩;obtain⟨i,u⟩:=ZR.1 h;refine ZR.2 ⟨YT.2 λp b=>VR.2 ⟨YT.1 i p b,λd=>hne ?_⟩,λg=>u (YT.2 λp b=>(VR.1 (YT.1 g p b)).1)⟩;obtain⟨m,w⟩:=GE h hc b d;exact⟨m,w⟩
theorem AW {S:Nat->Bool}{k q j r:Nat}(hd:∀p,p/2^k=q->S p=false)(hup:¬full (ins S k q) (k+1) (q/2)=true) :
 can (ins S k q) j r=true↔can S j r=true\/(j=k/\r=q):=by
 have g:can (ins S k q) k q=true:=ZR.2 ⟨YT.2 λp d=>VN.2 (.inr d),hup⟩;constructor
 ·intro h;by_cases he:j=k/\r=q
  ·exact .inr he
  left;obtain⟨i,m⟩:=ZR.1 h;refine ZR.2 ⟨YT.2 λp d=>?_,λa=>m (YT.2 λp d=>VN.2 (.inl (YT.1 a p d)))⟩;rcases VN.1 (YT.1 i p d)with h1|h1
  ·exact h1
  ·exact(he (GE h g d h1)).elim
 ·rintro(h|⟨rfl,rfl⟩)
  ·obtain⟨i,m⟩:=ZR.1 h;refine ZR.2 ⟨YT.2 λp d=>VN.2 (.inl (YT.1 i p d)),λa=>m (YT.2 λp d=>?_)⟩;rcases VN.1 (YT.1 a p d)with h1|h1
   ·exact h1
   ·rcases mw k (j+1)with h2|h2
    ·refine(hup (L3 (j:=j+1) O ?_)).elim;have e:q/2^(j+1-k)=r/2:=by rw[←h1,←uf (show k<=j+1 by omega),d]
     rw[IC h2,e];exact a
    ·have b:=KH j r;have s:=YT.1 i _ b;have e:r*2^j/2^(j+1)=r/2:=by
      rw[ns,←tV,b]
     have:r*2^j/2^k=q:=by
      rw[uf h2,e,←d,←uf h2,h1]
     rw[hd _ this]at s;cases s
  ·exact g
def iw (q:Nat):Nat:=if q%2=0 then q+1 else q-1
theorem Fz (q:Nat):iw q/2=q/2:=by unfold iw;split<;>omega
theorem Tp (q:Nat):iw q≠q:=by unfold iw;split<;>omega
theorem R3 {q r:Nat}(h:r/2=q/2):r=q\/r=iw q:=by unfold iw;split<;>omega
theorem Hv {k q p:Nat}:p/2^(k+1)=q/2↔p/2^k=q\/p/2^k=iw q:=by
 rw[ns,←tV];constructor
 ·intro h;exact R3 h
 ·rintro(h|h)<;>rw[h]
  exact Fz q
theorem Wog {T:Nat->Bool}{k q:Nat}(hd:∀p,p/2^k=q->T p=false)(hm:¬can T k (iw q)=true):¬full (ins T k q) (k+1) (q/2)=true:=by
 intro hup;have a:full T k (iw q)=true:=YT.2 λp d=>by
  rcases VN.1 (YT.1 hup p (Hv.2 (.inr d)))with h|h
  ·exact h
  ·exact(Tp q (d.symm.trans h)).elim
 have:full T (k+1) (iw q/2)=true:=Classical.byContradiction λh=>hm (ZR.2 ⟨a,h⟩);rw[Fz]at this;have b:=YT.1 this (q*2^k) (Hv.2 (.inl (KH k q)));rw[hd _ (KH k q)]at b;cases b
def dK (S:Nat->Bool)(a b:Nat):Nat->Bool:=λp=>S p||(decide (a<=p)&&decide (p<b))
def take (S:Nat->Bool)(a b:Nat):Nat->Bool:=λp=>S p && !(decide (a<=p)&&decide (p<b))
theorem Kr {S:Nat->Bool}{a b p:Nat}:dK S a b p=true↔S p=true\/(a<=p/\p<b):=by simp[dK]
theorem Kq {S:Nat->Bool}{a b p:Nat}:take S a b p=true↔S p=true/\¬(a<=p/\p<b):=by
 simp[take];intro _;omega
theorem tF {S T:Nat->Bool}(h:∀p,S p=true↔T p=true):S=T:=by
 funext p
 have:=h p;cases hs:S p<;>cases ht:T p<;>simp_all
theorem OK (S:Nat->Bool)(k q:Nat):ins S k q=dK S (q*2^k) (q*2^k+2^k):=
 tF λp=>by rw[VN,Kr,Qh]
theorem Θ {S:Nat->Bool}{a b c:Nat}(h1:a<=b)(h2:b<=c):dK (dK S a b) b c=dK S a c:=
 tF λp=>by simp only[Kr];cases S p<;>simp<;>omega
theorem Nj (S:Nat->Bool)(a:Nat):dK S a a=S:=tF λp=>by simp only[Kr];cases S p<;>simp<;>omega
theorem MD (S:Nat->Bool)(a:Nat):take S a a=S:=tF λp=>by simp only[Kq];cases S p<;>simp<;>omega
def iX (n:Nat)(S:Nat->Bool):Nat:=(List.range n).countP S
theorem SU (k m:Nat)(f:Nat->Bool):(List.range (m*2^k)).countP (λp=>f (p/2^k))=2^k*(List.range m).countP f:=by
 induction m with
 | zero=>simp
 | succ m ih=>
  rw[Nat.succ_mul,List.range_add,tO,ih,AI,zw,tO];have:((List.range (2^k)).countP ((λp=>f (p/2^k))∘λx=>m*2^k+x))=2^k*(if f m then 1 else 0):=by
   have e:∀x∈List.range (2^k),((λp=>f (p/2^k))∘λx=>m*2^k+x) x=f m:=by
    intro x a;simp only[Function.comp];rw[HJ (zW.1 a)]
   rw[A4 (q:=λ_=>f m) (λx a=>by rw[e x a])];cases f m<;>simp
  rw[this,Nat.mul_add];simp only[qw,List.countP_nil,zG]
theorem SZ {n m:Nat}{S:Nat->Bool}(h:n<=m)(hb:∀p,S p=true->p<n):(List.range m).countP S=(List.range n).countP S:=by
 obtain⟨d,rfl⟩:=Nat.exists_eq_add_of_le h;rw[List.range_add,tO,AI];have:(List.range d).countP (S∘λx=>n+x)=0:=by
  rw[List.countP_eq_zero];intro x _ hx;have:n+x<n:=hb _ hx;omega
 omega
def many (n:Nat)(S:Nat->Bool)(k:Nat):Nat:=(List.range n).countP (can S k)
def kZ (n:Nat)(S:Nat->Bool):Nat->Nat
 | 0=>0
 | k+1=>kZ n S k+many n S k*2^k
theorem ir {α:Type}(l:List α)(f g h:α->Bool)(e:∀x∈l,(f x).toNat+(g x).toNat=(h x).toNat):l.countP f+l.countP g=l.countP h:=by
 induction l with
 | nil=>rfl
 | cons x l ih=>
  have a:=e x aA;have:=ih λy b=>e y (by simp[b]);simp only[qw];cases hf:f x<;>cases hg:g x<;>cases hh:h x<;>simp[hf,hg,hh]at a ⊢ <;> omega
def se (S:Nat->Bool)(K p:Nat):Bool:=(List.range K).any λk=>can S k (p/2^k)
theorem GR {n:Nat}{S:Nat->Bool}(hb:Bounded S n):∀K,kZ n S K=(List.range n).countP (se S K)
 | 0=>by
  simp only[kZ]
  symm
  rw[List.countP_eq_zero];simp[se]
 | K+1=>by
  rw[kZ,GR hb K];have hm:many n S K*2^K=(List.range n).countP (λp=>can S K (p/2^K)):=by
   have a:=SU K n (can S K);have b:n<=n*2^K:=Ed _ (kY K);rw[SZ b (λp g=>hb p (Vb g rfl))]at a;rw[a,Nat.mul_comm];rfl
  rw[hm];apply ir;intro p _;have e:se S (K+1) p=(se S K p||can S K (p/2^K)):=by
   simp[se,zw,AG]
  rw[e];cases a:se S K p<;>cases b:can S K (p/2^K)<;>simp
  simp only[se,zq,zW]at a;obtain⟨k,i,d⟩:=a;have:=GE d b rfl rfl;omega
theorem Wlj {n K:Nat}{S:Nat->Bool}(hb:Bounded S n)(hK:n<2^K):kZ n S K=iX n S:=by
 rw[GR hb];apply A4;intro p _;simp only[se,zq,zW];constructor
 ·rintro⟨k,_,a⟩;exact Vb a rfl
 ·intro hp;obtain⟨k,a⟩:=VY hb hp;refine⟨k,?_,a⟩;have:=ZX hb (ZR.1 a).1;apply Classical.byContradiction;intro hk;have:2^K<=2^k:=pA O O;omega
end Go.Bu
namespace Go.Vc
open Go
abbrev Hp:=Array Obj
abbrev _root_.aN:=Int->Hp->Prop
abbrev _root_.aO:=Bool->Hp->Prop
abbrev _root_.aP:=Hp->Prop
structure Sl where
 a:Option Addr
 len:Nat
 cap:Nat
structure Fv where
 f:Nat
 first:Array Value
 captured:Array Value
inductive CK where
 | i (k:IntKind)|b|p|s|m|str|fn|raw|ag (n:Nat)|ad
 deriving DecidableEq
abbrev _root_.bN:CK:=.i .i64
@[reducible] def jS:Nat->Type
 | 0=>Unit
 | 1=>Int
 | n+2=>Int×jS (n+1)
def jS.vs:(n:Nat)->jS n->List Value
 | 0,_=>[]
 | 1,x=>[.int .i64 x]
 | n+2,x=>.int .i64 x.1::jS.vs (n+1) x.2
@[reducible] def CK.T:CK->Type
 | .i _=>Int
 | .b=>Bool
 | .p=>Option Addr
 | .s=>Sl
 | .m=>Option Nat
 | .str=>ByteArray
 | .fn=>Fv
 | .raw=>Value
 | .ag n=>jS n
 | .ad=>Addr
def CK.v:(c:CK)->c.T->Value
 | .i k,y=>.int k y
 | .b,x=>.bool x
 | .p,y=>.pointer y
 | .s,y=>.slice y.a y.len y.cap
 | .m,y=>.map y
 | .str,x=>.string x
 | .fn,x=>.func (.func x.f) x.first x.captured
 | .raw,y=>y
 | .ag n,y=>.agg (jS.vs n y).toArray
 | .ad,y=>.pointer (some y)
inductive SK where
 | one (c:CK)
 | agg (cs:List CK)
def SK.ks:SK->List CK
 | .one c=>[c]
 | .agg cs=>cs
def iK:List SK->List CK
 | []=>[]
 | s::ss=>s.ks++iK ss
@[reducible] def eJ:List CK->Type
 | []=>Hp->Prop
 | c::cs=>c.T->eJ cs
@[reducible] def qj:List CK->Type
 | []=>Hp->Nat
 | c::cs=>c.T->qj cs
def Sat:(ks:List CK)->eJ ks->List Value->Hp->Prop
 | [],R,[],h=>R h
 | c::cs,R,v::vs,h=>∃x:c.T,v=c.v x/\Sat cs (R x) vs h
 | _,_,_,_=>False
def eJ.le:(ks:List CK)->eJ ks->eJ ks->Prop
 | [],R,R'=>∀h,R h->R' h
 | c::cs,R,R'=>∀x:c.T,eJ.le cs (R x) (R' x)
def lam:(ks:List CK)->(List Value->Hp->Prop)->eJ ks
 | [],K=>K []
 | c::cs,K=>λx=>lam cs λvs=>K (c.v x::vs)
def wz:(n:Nat)->List Value->(jS n->Prop)->Prop
 | 0,[],K=>K ()
 | 1,[.int .i64 x],K=>K x
 | n+2,.int .i64 x::vs,K=>wz (n+1) vs λy=>K (x,y)
 | _,_,_=>False
theorem ER:∀{n:Nat} {vs:List Value} {K:jS n->Prop},wz n vs K->∃x,vs=jS.vs n x/\K x:=by
 intro n vs K h;unfold wz at h;split at h
 ·exact⟨(),rfl,h⟩
 ·exact⟨_,rfl,h⟩
 ·obtain⟨y,rfl,a⟩:=ER h;exact⟨_,rfl,a⟩
 ·exact h.elim
def pX:(c:CK)->Value->(c.T->Prop)->Prop
 | .i k,.int k' n,K=>if k=k' then K n else False
 | .b,.bool x,K=>K x
 | .p,.pointer a,K=>K a
 | .s,.slice a l c,K=>K ⟨a,l,c⟩
 | .m,.map r,K=>K r
 | .str,.string s,K=>K s
 | .fn,.func (.func f) x y,K=>K ⟨f,x,y⟩
 | .raw,v,K=>K v
 | .ag n,.agg cs,K=>wz n cs.toList K
 | .ad,.pointer (some a),K=>K a
 | _,_,_=>False
def wR:(ks:List CK)->eJ ks->List Value->Hp->Prop
 | [],R,[],h=>R h
 | c::cs,R,v::vs,h=>pX c v λx=>wR cs (R x) vs h
 | _,_,_,_=>False
theorem UC {c:CK}{v:Value}{K:c.T->Prop}(h:pX c v K):∃x,v=c.v x/\K x:=by
 cases c<;>cases v<;>simp only[pX]at h<;>try exact h.elim
 case i.int k k' n=>split at h<;>first|exact h.elim | (rename_i e;subst e;exact⟨n,rfl,h⟩)
 case fn.func f x y=>cases f<;>simp only[pX]at h<;>first|exact h.elim|exact⟨⟨_,x,y⟩,rfl,h⟩
 case b.bool x=>exact⟨x,rfl,h⟩
 case p.pointer a=>exact⟨a,rfl,h⟩
 case s.slice a l c=>exact⟨⟨a,l,c⟩,rfl,h⟩
 case m.map r=>exact⟨r,rfl,h⟩
 case str.string s=>exact⟨s,rfl,h⟩
 case ad.pointer p=>cases p<;>simp only[pX]at h<;>first|exact h.elim|exact⟨_,rfl,h⟩
 case ag.agg n cs=>obtain⟨x,e,d⟩:=ER h;exact⟨x,by simp only[CK.v,←e],d⟩
 all_goals exact⟨_,rfl,h⟩
theorem LD:∀(n:Nat) (x:jS n) (K:jS n->Prop),wz n (jS.vs n x) K=K x
 | 0,_,_=>rfl
 | 1,_,_=>rfl
 | n+2,x,K=>LD (n+1) x.2 _
theorem WpK (c:CK)(x:c.T)(K:c.T->Prop):pX c (c.v x) K=K x:=by
 cases c<;>simp[pX,CK.v]
 exact iff_of_eq (LD _ _ _)
theorem Ah:∀{ks:List CK} {R:eJ ks} {vs:List Value} {h:Hp},wR ks R vs h->Sat ks R vs h
 | [],_,[],_,h=>h
 | _::_,_,_::_,_,h=>by
  obtain⟨x,e,hx⟩:=UC h;exact⟨x,e,Ah hx⟩
 | [],_,_::_,_,h=>h.elim
 | _::_,_,[],_,h=>h.elim
theorem Sat.mono:∀{ks:List CK} {R R':eJ ks},eJ.le ks R R'->∀{vs:List Value} {h:Hp},Sat ks R vs h->Sat ks R' vs h
 | [],_,_,hl,[],_,h=>hl _ h
 | _::_,_,_,hl,_::_,_,⟨x,e,h⟩=>⟨x,e,Sat.mono (hl x) h⟩
 | [],_,_,_,_::_,_,h=>h.elim
 | _::_,_,_,_,[],_,h=>h.elim
theorem U7:∀{ks:List CK} {K:List Value->Hp->Prop} {vs:List Value} {h:Hp},Sat ks (lam ks K) vs h->K vs h
 | [],_,[],_,h=>h
 | _::_,K,v::vs,h,hs=>by
  obtain⟨x,rfl,h'⟩:=hs;exact U7 (K:=λvs=>K (CK.v _ x::vs)) h'
 | [],_,_::_,_,h=>h.elim
 | _::_,_,[],_,h=>h.elim
abbrev Env:=Nat->Option Value
def Env.put (ρ:Env)(d:Nat)(v:Value):Env:=λi=>bif Nat.beq i d then some v else ρ i
def Env.iY (ρ:Env):Option Nat->Value->Env
 | some d,v=>ρ.put d v
 | none,_=>ρ
def Env.fB (ρ:Env)(ds:List Nat):Env:=λi=>bif ds.contains i then none else ρ i
def ev (ρ:Env):Operand->Option Value
 | .tmp t=>ρ t
 | .const v=>some v
 | .global g=>some (.pointer (some ⟨g,0,none⟩))
 | .func f=>some (.func (.func f) #[] #[])
def wv (o:Option Value)(K:Value->Prop):Prop:=match o with|some v=>K v|none=>False
def q8 (ρ:Env):List Operand->Option (List Value)
 | []=>some []
 | o::os=>match ev ρ o,q8 ρ os with|some v,some vs=>some (v::vs)|_,_=>none
def cell (h:Hp)(a:Addr):Option Value:=
 match h[a.block]? with
 | some (.cells c _ _)=>if a.spot.isSome then none else c[a.off]?
 | _=>none
def pc (h:Hp)(a:Addr):Bool:=
 match h[a.block]? with
 | some (.cells _ _ (lo,hi))=>lo<=a.off&&a.off<hi
 | _=>false
def kr (h:Hp)(a:Addr)(v:Value):Hp:=
 h.modify a.block fun
  | .cells c elem frozen=>.cells (if a.spot.isSome then c else c.setIfInBounds a.off v) elem frozen
  | o=>o
def eW (k:IntKind)(a:Addr)(h:Hp)(K:Int->Prop):Prop:=∃n,cell h a=some (.int k n)/\K n
def j8 (a:Addr)(h:Hp)(K:Bool->Prop):Prop:=∃n,cell h a=some (.bool n)/\K n
def fX (a:Addr)(h:Hp)(K:Option Addr->Prop):Prop:=∃n,cell h a=some (.pointer n)/\K n
def jB (a:Addr)(h:Hp)(K:Sl->Prop):Prop:=∃n:Sl,cell h a=some (.slice n.a n.len n.cap)/\K n
def m0 (a:Addr)(h:Hp)(K:Option Nat->Prop):Prop:=∃n,cell h a=some (.map n)/\K n
def xp (a:Addr)(h:Hp)(K:ByteArray->Prop):Prop:=∃n,cell h a=some (.string n)/\K n
def B9 (a:Addr)(h:Hp)(K:Fv->Prop):Prop:=∃n:Fv,cell h a=some (.func (.func n.f) n.first n.captured)/\K n
def wA (a:Addr)(h:Hp)(K:Value->Prop):Prop:=∃n,cell h a=some n/\K n
def SQ (n:Nat)(a:Addr)(h:Hp)(K:jS n->Prop):Prop:=∃x,cell h a=some (CK.v (.ag n) x)/\K x
def Ez (a:Addr)(h:Hp)(K:Addr->Prop):Prop:=∃x,cell h a=some (.pointer (some x))/\K x
def yr:(c:CK)->Addr->Hp->(c.T->Prop)->Prop
 | .i k,a,h,K=>eW k a h K
 | .b,a,h,K=>j8 a h K
 | .p,a,h,K=>fX a h K
 | .s,a,h,K=>jB a h K
 | .m,a,h,K=>m0 a h K
 | .str,a,h,K=>xp a h K
 | .fn,a,h,K=>B9 a h K
 | .raw,a,h,K=>wA a h K
 | .ag n,a,h,K=>SQ n a h K
 | .ad,a,h,K=>Ez a h K
def om:List CK->Addr->Nat->Hp->(List Value->Prop)->Prop
 | [],_,_,_,K=>K []
 | c::cs,a,i,h,K=>yr c (a.add i) h λx=>om cs a (i+1) h λvs=>K (c.v x::vs)
def kT (v:Value)(t:TypeId)(vs zs:List Value)(b:Bool):Prop:=match b with
 | true=>v=.iface t (.agg vs.toArray)
 | false=>vs=zs/\(v=.nilIface\/∃t' u,v=.iface t' u/\t'≠t)
def wI (v:Value)(t:TypeId)(zs:List Value):List CK->List Value->(List Value->Bool->Prop)->Prop
 | [],acc,K=>∃b:Bool,kT v t acc zs b/\K acc b
 | c::cs,acc,K=>∃x:c.T,wI v t zs cs (acc++[c.v x]) K
theorem wI.out {v:Value}{t:TypeId}{zs:List Value}:∀{cs:List CK} {acc:List Value} {K:List Value->Bool->Prop},wI v t zs cs acc K->∃vs b,kT v t vs zs b/\K vs b
 | [],acc,K,⟨b,h1,h2⟩=>⟨acc,b,h1,h2⟩
 | c::cs,acc,K,⟨x,h⟩=>wI.out h
def jM (v:Value):Prop:=v=.nilIface\/∃t u,v=.iface t u
def lM:Value->Bool
 | .nilIface=>true
 | _=>false
def O1 (v:Value)(A:Prop):Prop:=match v with
 | .agg _=>False
 | .tuple _=>False
 | _=>A
def yW:List Value->Prop->Prop
 | [],A=>A
 | v::vs,A=>O1 v (yW vs A)
def bQ (p:Option Addr)(K:Addr->Prop):Prop:=∃a,p=some a/\K a
def Ar (k:IntKind)(e:Int)(K:Int->Prop):Prop:=K (k.wrap e)
def Nz (y:Int)(A:Prop):Prop:=y≠0/\A
def Nn (y:Int)(A:Prop):Prop:=0<=y/\A
def Ix (base:Option Addr)(len:Nat)(i:Int)(sz:Nat)(K:Addr->Prop):Prop:=∃a,base=some a/\0<=i/\i<(len:Int)/\K (a.add (i.toNat*sz))
def pn (a:Addr)(len:Nat)(i:Int)(sz:Nat)(K:Addr->Prop):Prop:=0<=i/\i<(len:Int)/\K (a.add (i.toNat*sz))
def Fs (s:ByteArray)(i:Int)(K:Int->Prop):Prop:=∃b,0<=i/\s[i.toNat]?=some b/\K (b.toNat:Int)
def If (b:Bool)(A B:Prop):Prop:=match b with
 | true=>A
 | false=>B
theorem If.t {b:Bool}{A B:Prop}(h:If b A B)(e:b=true):A:=by subst e;exact h
theorem If.f {b:Bool}{A B:Prop}(h:If b A B)(e:b=false):B:=by subst e;exact h
theorem If.mk {b:Bool}{A B:Prop}(h1:b=true->A)(h2:b=false->B):If b A B:=by cases b;exact h2 rfl;exact h1 rfl
def Nw (o:Obj)(h:Hp)(K:Addr->Hp->Prop):Prop:=K ⟨h.size,0,none⟩ (h.push o)
def dG (a:Addr)(v:Value)(h:Hp)(K:aP):Prop:=(cell h a).isSome=true/\pc h a=false/\K (kr h a v)
def qJ (a:Addr)(h:Hp):List Value->Nat->(Hp->Prop)->Prop
 | [],_,K=>K h
 | v::vs,i,K=>dG (a.add i) v h λh'=>qJ a h' vs (i+1) K
def eX (s:Sl)(sz:Nat)(lo hi mx:Int)(K:Sl->Prop):Prop:=
 0<=lo/\lo<=hi/\hi<=mx/\mx<=(s.cap:Int)/\K ⟨if mx.toNat=lo.toNat then s.a else s.a.map (·.add (lo.toNat*sz)),hi.toNat-lo.toNat,mx.toNat-lo.toNat⟩
def dN (h:Hp)(r:Nat)(k:IntKind)(c:CK)(l:List (Int×c.T)):Prop:=
 ∃es clk,h[r]?=some (.map es clk)/\es.toList.map (λe=>(e.key,e.val))=l.map (λx=>(Value.int k x.1,c.v x.2)) ∧
  (l.map (·.1)).Nodup/\(es.toList.map (·.born)).Pairwise (· < ·)/\∀e∈es.toList,e.born<clk
def jQ (h:Hp)(m:Option Nat)(k:IntKind)(c:CK)(l:List (Int×c.T)):Prop:=
 match m with
 | none=>l=[]
 | some r=>dN h r k c l
def bV {α:Type}(l:List (Int×α))(n:Int):Option α:=(l.find? λx=>x.1==n).map (·.2)
def dE {α:Type}(l:List (Int×α))(n:Int)(v:α):List (Int×α):=
 if l.any (λx=>x.1==n)then l.map (λx=>if x.1==n then(n,v)else x)else l++[(n,v)]
def cT {α:Type}(l:List (Int×α))(n:Int):List (Int×α):=l.filter λx=>!(x.1==n)
def QJ (h h':Hp)(r:Nat):Prop:=h'.size=h.size/\∀b,b≠r->h'[b]?=h[b]?
def Lk (k:IntKind)(c:CK)(m:Option Nat)(n:Int)(h:Hp)(K:Option c.T->Prop):Prop:=∃l,jQ h m k c l/\K (bV l n)
def oC (k:IntKind)(c:CK)(m:Option Nat)(h:Hp)(K:Int->Prop):Prop:=∃l,jQ h m k c l/\K (l.length:Int)
def ld (k:IntKind)(c:CK)(m:Option Nat)(n:Int)(x:c.T)(h:Hp)(K:aP):Prop:=
 ∃r l,m=some r/\dN h r k c l/\∀h',QJ h h' r->dN h' r k c (dE l n x)->K h'
def mL (k:IntKind)(c:CK)(m:Option Nat)(n:Int)(h:Hp)(K:aP):Prop:=
 ∃l,jQ h m k c l/\∀h',(∀r,m=some r->QJ h h' r)->(m=none->h'=h)->jQ h' m k c (cT l n)->K h'
def It (h:Hp)(r:Nat)(k:IntKind)(c:CK)(m:Option Nat)(l todo:List (Int×c.T))(cur:Option (Int×c.T)):Prop:=
 match m with
 | none=>l=[]/\todo=[]/\cur=none/\∃s q y,h[r]?=some (.mapIter none s q y)
 | some b=>∃es clk seen,h[r]?=some (.mapIter (some b) clk seen clk)/\h[b]?=some (.map es clk)/\es.toList.map (λe=>(e.key,e.val))=l.map (λx=>(Value.int k x.1,c.v x.2)) ∧
  (l.map (·.1)).Nodup/\(es.toList.map (·.born)).Pairwise (· < ·)/\(∀e∈es.toList,e.born<clk) ∧
  (es.toList.filter λe=>!seen.contains e.born).map (λe=>(e.key,e.val))=todo.map (λx=>(Value.int k x.1,c.v x.2)) ∧
  (∀x,cur=some x->∃e∈es.toList,seen.back?=some e.born/\e.key=.int k x.1/\e.val=c.v x.2)
def sf (k:IntKind)(c:CK)(m:Option Nat)(h:Hp)(K:Addr->Hp->Prop):Prop:=
 ∃l,jQ h m k c l/\∀h',h'.size=h.size+1->(∀b,b<h.size->h'[b]?=h[b]?)->It h' h.size k c m l l none->K ⟨h.size,0,none⟩ h'
def sj (k:IntKind)(c:CK)(a:Addr)(h:Hp)(A:Prop)(B:Int->c.T->Hp->Prop):Prop:=
 a.off=0/\∃m l todo cur,It h a.block k c m l todo cur/\(todo=[]->A) ∧
  ∀n x,(n,x)∈todo->∀h',QJ h h' a.block->It h' a.block k c m l (todo.filter λy=>!(y.1==n)) (some (n,x))->B n x h'
def sq (k:IntKind)(c:CK)(a:Addr)(h:Hp)(K:Int->c.T->Prop):Prop:=
 a.off=0/\∃m l todo n x,It h a.block k c m l todo (some (n,x))/\K n x
def dM:Value->Bool
 | .agg _=>false
 | .tuple _=>false
 | _=>true
def Rd (h:Hp)(a:Option Addr)(xs:List Value):Prop:=
 match a with
 | none=>xs=[]
 | some a=>∀j v,xs[j]?=some v->cell h (a.add j)=some v
def Mr (s:Sl)(h:Hp)(K:ByteArray->Prop):Prop:=∃bs:List Int,bs.length=s.len/\Rd h s.a (bs.map (.int .u8))/\K ⟨(bs.map λn=>UInt8.ofNat n.toNat).toArray⟩
def App (s:Sl)(sz bytes:Nat)(e:Nat)(zs:List Value)(x:Sl)(h:Hp)(K:Sl->Hp->Prop):Prop:=
 ∃xs ys,xs.length=s.len*sz/\ys.length=x.len*sz/\Rd h s.a xs/\Rd h x.a ys/\(∀v∈ys,dM v=true)/\(s.len+x.len)*bytes<=2^46/\s.len+x.len<=2^62 ∧
  (s.len+x.len<=s.cap->match s.a with
   | some a=>qJ (a.add (s.len*sz)) h ys 0 λh'=>K ⟨s.a,s.len+x.len,s.cap⟩ h'
   | none=>K ⟨none,s.len+x.len,s.cap⟩ h) ∧
  (¬s.len+x.len<=s.cap->∀c,s.len+x.len<=c->Nw (.cells (xs++ys++(List.replicate (c-(s.len+x.len)) zs).flatten).toArray e) h λa h'=>K ⟨some a,s.len+x.len,c⟩ h')
def qO (s:Sl)(sz bytes:Nat)(e:Nat)(zs:List Value)(n:Int)(h:Hp)(K:Sl->Hp->Prop):Prop:=
 0<=n/\∃xs,xs.length=s.len*sz/\Rd h s.a xs/\(∀v∈zs,dM v=true)/\(s.len+n.toNat)*bytes<=2^46/\s.len+n.toNat<=2^62/\(n.toNat:Int)*bytes<=2^46 ∧
  (s.len+n.toNat<=s.cap->match s.a with
   | some a=>qJ (a.add (s.len*sz)) h (List.replicate n.toNat zs).flatten 0 λh'=>K ⟨s.a,s.len+n.toNat,s.cap⟩ h'
   | none=>K ⟨none,s.len+n.toNat,s.cap⟩ h) ∧
  (¬s.len+n.toNat<=s.cap->∀c,s.len+n.toNat<=c->Nw (.cells (xs++(List.replicate n.toNat zs).flatten++(List.replicate (c-(s.len+n.toNat)) zs).flatten).toArray e) h λa h'=>K ⟨some a,s.len+n.toNat,c⟩ h')
def uA (d:Sl)(sz:Nat)(s:Sl)(h:Hp)(K:aN):Prop:=
 ∃xs,xs.length=min s.len d.len*sz/\Rd h s.a xs/\(∀v∈xs,dM v=true)/\match d.a with
  | some a=>qJ a h xs 0 λh'=>K ((min s.len d.len:Nat):Int) h'
  | none=>K ((min s.len d.len:Nat):Int) h
def CZ (s:Sl)(zs:List Value)(h:Hp)(K:aP):Prop:=
 (∀v∈zs,dM v=true)/\match s.a with
  | some a=>qJ a h (List.replicate s.len zs).flatten 0 K
  | none=>K h
def Mk (n c:Int)(bytes:Nat)(e:Nat)(zs:List Value)(h:Hp)(K:Sl->Hp->Prop):Prop:=
 0<=n/\n<=c/\(bytes:Int)*c<=2^46/\c<2^62/\Nw (.cells (List.replicate c.toNat zs).flatten.toArray e) h λa h'=>K ⟨some a,n.toNat,c.toNat⟩ h'
def ZV (w w':World):Prop:=w'.os=w.os/\w'.tape=w.tape/\w'.output=w.output/\w.heap.size<=w'.heap.size
def qF:List SK->List Value->List Value
 | [],_=>[]
 | .one _::ss,v::vs=>v::qF ss vs
 | .one _::ss,[]=>undef::qF ss []
 | .agg cs::ss,vs=>.agg (vs.take cs.length).toArray::qF ss (vs.drop cs.length)
def pack (rs:List SK)(vs:List Value):Value:=
 match qF rs vs with
 | [v]=>v
 | l=>.tuple l.toArray
def We (P:Program)(f:Nat)(args:Array Value)(rs:List SK)(h:Hp)(R:eJ (iK rs)):Prop:=
 ∀w:World,w.heap=h->Calls P f args w λe w'=>ZV w w'/\∃vs,e=.returned (pack rs vs)/\Sat (iK rs) R vs w'.heap
def Dr (P:Program)(v:Value)(name:String)(args:List Value)(rs:List SK)(h:Hp)(R:eJ (iK rs)):Prop:=
 ∃t u f,v=.iface t u/\(∀w,(method (P.types.size+Made.depth) t u name).run P w=.ok (f,u) w)/\(∀xs w,(callFunc f xs).run P w=.ok (.enter f xs) w)/\We P f (u::args).toArray rs h R
def JT (P:Program)(fv:Fv)(args:List Value)(rs:List SK)(h:Hp)(R:eJ (iK rs)):Prop:=
 We P fv.f (fv.first++args.toArray++fv.captured) rs h R
abbrev SK.I:SK:=.one bN
abbrev _root_.Go.Value.I (x:Int):Value:=.int .i64 x
def Mw:TypeDesc->Option CK
 | .bool=>some .b
 | .int k=>some (.i k)
 | .string=>some .str
 | .pointer _=>some .p
 | .slice _=>some .s
 | .map _ _=>some .m
 | .func _ _ _=>some .fn
 | .interface _=>some .raw
 | _=>none
mutual
def EI (P:Program):Nat->TypeId->Option (List CK)
 | 0,_=>none
 | n+1,t=>
  match P.underlying t with
  | some (.struct fs)=>Fx P n fs.toList
  | some (.array m e)=>(EI P n e).map λl=>(List.replicate m l).flatten
  | some d=>(Mw d).map λc=>[c]
  | none=>none
def Fx (P:Program):Nat->List Field->Option (List CK)
 | 0,_=>none
 | _+1,[]=>some []
 | n+1,f::fs=>match EI P n f.type,Fx P n fs with
  | some a,some b=>some (a++b)
  | _,_=>none
end
def ekD:SK->SK
 | .agg cs=>bif cs.all (· == .i .i64)then .one (.ag cs.length)else .agg cs
 | s=>s
def UK:TypeDesc->Bool
 | .struct _ | .array _ _=>true
 | _=>false
def ky (P:Program)(t:TypeId):Option SK:=
 match P.underlying t with
 | some d=>bif UK d then(EI P 24 t).map .agg else(Mw d).map .one
 | none=>none
def ql (P:Program)(t:TypeId):Option SK:=(ky P t).map ekD
def gQ (b:Bool)(A:Prop):Prop:=match b with|true=>A|false=>False
theorem WH {b:Bool}{A:Prop}:gQ b A↔b=true/\A:=by cases b<;>simp[gQ]
def qH (op:BinOp)(k:IntKind)(x y:Int)(K:Value->Prop):Prop:=
 match op with
 | .add=>Ar k (x+y) λz=>K (.int k z)
 | .sub=>Ar k (x-y) λz=>K (.int k z)
 | .mul=>Ar k (x*y) λz=>K (.int k z)
 | .quo=>Nz y (Ar k (x.tdiv y) λz=>K (.int k z))
 | .rem=>Nz y (K (.int k (x.tmod y)))
 | .and=>K (.int k (bits .and k x y))
 | .or=>K (.int k (bits .or k x y))
 | .xor=>K (.int k (bits .xor k x y))
 | .andNot=>K (.int k (bits .andNot k x y))
 | .shl=>Nn y (Ar k (x*2^(min y.toNat k.bits)) λz=>K (.int k z))
 | .shr=>Nn y (K (.int k (x.fdiv (2^(min y.toNat k.bits)))))
 | .eql=>K (.bool (x==y))
 | .neq=>K (.bool (x != y))
 | .lss=>K (.bool (decide (x<y)))
 | .leq=>K (.bool (decide (x<=y)))
 | .gtr=>K (.bool (decide (x>y)))
 | .geq=>K (.bool (decide (x≥y)))
def od (op:BinOp)(b:Bool)(K:Value->Prop):Prop:=
 match op with
 | .eql=>K (.bool b)
 | .neq=>K (.bool (!b))
 | _=>False
def mB (P:Program)(op:BinOp)(t:TypeId)(x y:Value)(K:Value->Prop):Prop:=
 match P.underlying t,x,y with
 | some (.pointer _),.pointer p,.pointer none=>od op p.isNone K
 | some (.slice _),.slice p _ _,.slice none 0 0=>od op p.isNone K
 | some (.map _ _),.map p,.map none=>od op p.isNone K
 | some (.interface _),x,.nilIface=>jM x/\od op (lM x) K
 | _,_,_=>False
def mE (P:Program)(op:BinOp)(t:TypeId)(x y:Value)(K:Value->Prop):Prop:=
 match x,y with
 | .int k a,.int k' b=>if k=k' then qH op k a b K else(match op with | .shl=>qH .shl k a b K | .shr=>qH .shr k a b K|_=>False)
 | .bool a,.bool b=>match P.underlying t with
  | some .bool=>od op (a==b) K
  | _=>False
 | .string a,.string b=>match op with
  | .eql=>K (.bool (a.toList==b.toList))
  | .neq=>K (.bool (!(a.toList==b.toList)))
  | _=>False
 | _,_=>False
def qf (P:Program)(xs ys:List Value):List Field->Option Bool
 | []=>some true
 | f::fs=>bif f.name == "_" then none else
  match P.underlying f.type,xs[f.offset]?,ys[f.offset]?,qf P xs ys fs with
  | some (.int _),some (.int k a),some (.int k' b),some r=>if k=k' then some ((a==b)&&r)else none
  | some .bool,some (.bool a),some (.bool b),some r=>some ((a==b)&&r)
  | _,_,_,_=>none
def pB (P:Program)(e:TypeId)(xs ys:List Value):List Nat->Option Bool
 | []=>some true
 | i::is=>match P.underlying e,xs[i]?,ys[i]?,pB P e xs ys is with
  | some (.int _),some (.int k a),some (.int k' b),some r=>if k=k' then some ((a==b)&&r)else none
  | some (.pointer _),some (.pointer p),some (.pointer none),some r=>some (p.isNone&&r)
  | _,_,_,_=>none
def oQ (P:Program)(op:BinOp)(t:TypeId)(xs ys:List Value)(K:Value->Prop):Prop:=
 match P.underlying t with
 | some (.struct fs)=>gQ (!P.stoodInHeld t && !P.eqGuardType P.depth t) (match qf P xs ys fs.toList with
  | some b=>od op b K
  | none=>False)
 | some (.array n e)=>gQ (!P.eqGuardType P.depth t&&((P.info? e).isSome&&P.cellsOf e==1)) (match pB P e xs ys (List.range n)with
  | some b=>od op b K
  | none=>False)
 | _=>False
def xg:Operand->Bool
 | .const (.pointer none)=>true
 | .const (.slice none 0 0)=>true
 | .const (.map none)=>true
 | .const .nilIface=>true
 | _=>false
def yc (P:Program)(op:BinOp)(t:TypeId)(y:Operand)(vx vy:Value)(K:Value->Prop):Prop:=
 bif xg y then mB P op t vx vy K else match vx,vy with
 | .agg xs,.agg ys=>oQ P op t xs.toList ys.toList K
 | vx,vy=>mE P op t vx vy K
def oI (P:Program)(s f:Nat)(K:Field->Prop):Prop:=
 match P.underlying s with
 | some (.struct fs)=>match fs[f]? with
  | some fd=>K fd
  | none=>False
 | _=>False
def mO (P:Program)(t:TypeId)(x:Value)(h:Hp)(K:Value->Prop):Prop:=
 match P.underlying t,x with
 | some (.slice _),.slice _ n _=>K (.int .i64 (n:Int))
 | some .string,.string s=>K (.int .i64 (s.size:Int))
 | some (.array n _),_=>K (.int .i64 (n:Int))
 | some (.map kt et),.map m=>match P.underlying kt,ql P et with
  | some (.int k),some (.one c)=>oC k c m h λz=>K (.int .i64 z)
  | _,_=>False
 | _,_=>False
def yj (P:Program)(t:TypeId)(x i:Value)(ok:Bool)(h:Hp)(K:Value->Prop):Prop:=
 match P.underlying t,x,i with
 | some (.map kt et),.map m,.int k n=>match P.underlying kt,ql P et,P.info? et with
  | some (.int k'),some (.one c),some ti=>match ti.zero with
   | some z=>if k=k' then pX c z λz=>Lk k c m n h λo=>K (bif ok then .tuple #[c.v (o.getD z),.bool o.isSome]else c.v (o.getD z))else False
   | none=>False
  | _,_,_=>False
 | _,_,_=>False
def pT (isMax:Bool):Value->List Value->(Value->Prop)->Prop
 | v,[],K=>K v
 | .int k x,.int _ y::vs,K=>pT isMax (.int k (bif isMax then(if y>x then y else x)else(if y<x then y else x))) vs K
 | _,_,_=>False
def sT (ZB:Nat->Option (Nat×Nat))(cells:List Value):List (Nat×Value)->Option (List Value)
 | []=>some cells
 | (i,v)::rest=>
  match ZB i with
  | none=>none
  | some (off,size)=>
   if v.cells.size≠size\/off+v.cells.size>cells.length then none
   else sT ZB (cells.take off++v.cells.toList++cells.drop (off+size)) rest
def H8 (ρ:Env):List (Nat×Operand)->Option (List (Nat×Value))
 | []=>some []
 | (i,o)::os=>match ev ρ o,H8 ρ os with|some v,some vs=>some ((i,v)::vs)|_,_=>none
def EF (P:Program)(fs:Array Field)(i:Nat):Option (Nat×Nat):=match fs[i]? with
 | some f=>match P.info? f.type with
  | some ti=>some (f.offset,ti.size)
  | none=>none
 | none=>none
def xy (P:Program)(t:TypeId):Bool:=match P.underlying t with
 | some (.interface _)=>true
 | _=>false
def wP (P:Program)(fs:Array Field)(i:Nat):Bool:=match fs[i]? with
 | some f=>xy P f.type
 | none=>false
def xv (raw:Nat->Bool):List (Nat×Value)->List (Nat×Value)
 | []=>[]
 | (i,v)::ps=>(i,bif raw i then .agg #[v]else v)::xv raw ps
def mQ (raw:Nat->Bool):List (Nat×Value)->Prop->Prop
 | [],A=>A
 | (i,v)::ps,A=>bif raw i then jM v/\mQ raw ps A else mQ raw ps A
def oT (P:Program)(t:TypeId)(ps:List (Nat×Value))(K:Value->Prop):Prop:=
 match P.info? t,P.underlying t with
 | some ti,some (.struct fs)=>match ti.zero with
  | some z=>mQ (wP P fs) ps (match sT (EF P fs) z.cells.toList (xv (wP P fs) ps)with
   | some cs=>gQ (fs.toList.all λf=>(P.info? f.type).isSome) (K (.agg cs.toArray))
   | none=>False)
  | none=>False
 | some ti,some (.array _ e)=>match ti.zero,P.info? e with
  | some z,some te=>match sT (λi=>some (i*te.size,te.size)) z.cells.toList ps with
   | some cs=>K (.agg cs.toArray)
   | none=>False
  | _,_=>False
 | _,_=>False
def vI (P:Program)(t:TypeId)(cs:List Value)(off:Nat)(K:Value->Prop):Prop:=
 match P.underlying t,P.info? t with
 | some d,some ti=>bif UK d then K (.agg ((cs.drop off).take ti.size).toArray)else wv (cs[off]?) K
 | _,_=>False
def oH (P:Program)(t:TypeId)(x:Value)(lo hi mx:Option Value)(K:Value->Prop):Prop:=
 match P.underlying t,x with
 | some (.slice e),.slice a n c=>match P.info? e with
  | some ti=>
   let loV:Option Int:=match lo with|none=>some 0|some (.int .i64 z)=>some z|_=>none
   let hiV:Option Int:=match hi with|none=>some n|some (.int .i64 z)=>some z|_=>none
   let mxV:Option Int:=match mx,hi with|none,_=>some c|some (.int .i64 z),some _=>some z|_,_=>none
   match loV,hiV,mxV with
   | some l,some h,some m=>eX ⟨a,n,c⟩ ti.size l h m λs=>K (.slice s.a s.len s.cap)
   | _,_,_=>False
  | none=>False
 | _,_=>False
def vZ (ρ:Env):Option Operand->Option (Option Value)
 | none=>some none
 | some o=>(ev ρ o).map some
def qK (P:Program)(o:Op)(ρ:Env)(h:Hp)(K:Value->Prop):Prop:=
 match o with
 | .move x=>wv (ev ρ x) K
 | .assign x=>wv (ev ρ x) K
 | .pick c x y=>wv (ev ρ c) λv=>match v with
  | .bool true=>wv (ev ρ x) K
  | .bool false=>wv (ev ρ y) K
  | _=>False
 | .load t a=>wv (ev ρ a) λv=>match v,ky P t with
  | .pointer (some a),some (.one c)=>gQ (P.info? t).isSome (yr c a h λx=>K (c.v x))
  | .pointer (some a),some (.agg cs)=>gQ (P.cellsOf t==cs.length) (gQ (P.info? t).isSome (om cs a 0 h λvs=>K (.agg vs.toArray)))
  | _,_=>False
 | .nilCheck x=>wv (ev ρ x) λv=>match v with
  | .pointer p=>bQ p λa=>K (.pointer (some a))
  | .func (.func f) a b=>K (.func (.func f) a b)
  | _=>False
 | .binOp op t x y _=>wv (ev ρ x) λvx=>wv (ev ρ y) λvy=>yc P op t y vx vy K
 | .unOp op _ x=>wv (ev ρ x) λv=>match op,v with
  | .not,.bool b=>K (.bool (!b))
  | .neg,.int k n=>Ar k (0-n) λz=>K (.int k z)
  | _,_=>False
 | .convert s d x=>wv (ev ρ x) λv=>match P.underlying s,P.underlying d,v with
  | some _,some (.int k),.int _ n=>Ar k n λz=>K (.int k z)
  | some _,some .string,.string x=>K (.string x)
  | some (.slice e),some .string,.slice a n c=>(match P.underlying e with|some (.int .u8)=>Mr ⟨a,n,c⟩ h λs=>K (.string s)|_=>False)
  | _,_,_=>False
 | .fieldAddr s x f=>wv (ev ρ x) λv=>oI P s f λfd=>match v with
  | .pointer (some a)=>gQ (P.cellsOf fd.type != 0) (K (.pointer (some (a.add fd.offset))))
  | _=>False
 | .field s x f=>wv (ev ρ x) λv=>oI P s f λfd=>match v with
  | .agg cs=>vI P fd.type cs.toList fd.offset K
  | _=>False
 | .indexAddr t x i=>wv (ev ρ x) λvx=>wv (ev ρ i) λvi=>match P.underlying t,vx,vi with
  | some (.slice e),.slice b n _,.int _ i=>gQ (P.info? e).isSome (Ix b n i (P.cellsOf e) λa=>K (.pointer (some a)))
  | some (.array n e),.pointer (some a),.int _ i=>gQ (P.info? e).isSome (pn a n i (P.cellsOf e) λa=>K (.pointer (some a)))
  | _,_,_=>False
 | .index t x i=>wv (ev ρ x) λvx=>wv (ev ρ i) λvi=>match P.underlying t,vx,vi with
  | some .string,.string s,.int _ i=>Fs s i λz=>K (.int .u8 z)
  | _,_,_=>False
 | .lookup t x i ok=>wv (ev ρ x) λvx=>wv (ev ρ i) λvi=>yj P t vx vi ok h K
 | .extract t i=>wv (ev ρ t) λv=>match v with
  | .tuple vs=>wv (vs.toList[i]?) K
  | _=>False
 | .makeFunc fn a b=>match q8 ρ a.toList,q8 ρ b.toList with
  | some va,some vb=>K (.func fn va.toArray vb.toArray)
  | _,_=>False
 | .build t ps=>match H8 ρ ps.toList with
  | some vs=>oT P t vs K
  | none=>False
 | .slice t x lo hi mx=>wv (ev ρ x) λv=>match vZ ρ lo,vZ ρ hi,vZ ρ mx with
  | some lo,some hi,some mx=>oH P t v lo hi mx K
  | _,_,_=>False
 | .makeInterface t x=>wv (ev ρ x) λv=>gQ (P.concrete t) (K (.iface t v))
 | .typeAssert x _ t true=>wv (ev ρ x) λv=>match P.underlying t,P.info? t,ky P t with
  | some (.struct _),some ti,some (.agg cs)=>match ti.zero with
   | some (.agg zs)=>wI v t zs.toList cs [] λvs b=>K (.tuple #[.agg vs.toArray,.bool b])
   | _=>False
  | _,_,_=>False
 | .call c=>match c.callee,q8 ρ c.args.toList,c.argTypes.toList with
  | .builtin .len,some [x],[t]=>mO P t x h K
  | .builtin .cap,some [.slice _ _ n],[t]=>(match P.underlying t with|some (.slice _)=>K (.int .i64 (n:Int))|_=>False)
  | .builtin .max,some (x::xs),_=>pT true x xs K
  | .builtin .min,some (x::xs),_=>pT false x xs K
  | _,_,_=>False
 | _=>False
def uH:Op->Bool
 | .move _ | .assign _ | .pick .. | .load _ _ | .nilCheck _ | .binOp .. | .unOp .. | .convert .. | .fieldAddr .. | .field .. | .indexAddr .. | .index .. | .lookup .. | .extract .. | .makeFunc .. | .build .. | .slice .. | .makeInterface .. => true
 | .typeAssert _ _ _ ok=>ok
 | .call c=>match c.callee with | .builtin .len | .builtin .cap | .builtin .max | .builtin .min=>true|_=>false
 | _=>false
theorem V7 {P:Program}{t:Nat}{i:TypeInfo}(hi:P.info? t=some i)(w:World):(typeInfo t).run P w=.ok i w:=by
 simp[typeInfo,hi]
theorem QU {P:Program}{t:Nat}(h:(P.info? t).isSome=true)(w:World):(sizeOf t).run P w=.ok (P.cellsOf t) w:=by
 obtain⟨i,a⟩:=pN.1 h;simp[sizeOf,typeInfo,a,Program.cellsOf]
theorem VH {P:Program}{t:Nat}{i:TypeInfo}{z:Value}(hi:P.info? t=some i)(hz:i.zero=some z)(w:World):(zeroValue t).run P w=.ok z w:=by
 simp[zeroValue,typeInfo,hi,hz]
theorem Wh7 {P:Program}{op:BinOp}{t:Nat}{k:IntKind}{x y:Int}{K:Value->Prop}(h:qH op k x y K)(w:World) :
 ∃v,(binOp op t (.int k x) (.int k y)).run P w=.ok v w/\K v:=by
 cases op<;>simp only[qH,Ar,Nz,Nn]at h
 all_goals first
  | (refine⟨_,?_,h⟩;simp[binOp,Op.intArith,Op.intCmp,Op.intBits,bits];done)
  | (obtain⟨b,a⟩:=h;refine⟨_,?_,a⟩;simp[binOp,Op.intDiv,b];done)
  | (obtain⟨b,a⟩:=h;refine⟨_,?_,a⟩;simp[binOp,Op.shift,Int.not_lt.2 b];done)
theorem Ux {P:Program}{op:BinOp}{t:Nat}{x y:Value}{b:Bool}{K:Value->Prop}(h:od op b K)(w:World)
 (hb:∀op,(op=.eql\/op=.neq)->binOp op t x y=if op=.eql then(do pure (.bool (←Op.equal t x y)))else(do pure (.bool (!(←Op.equal t x y)))))
 (he:(Op.equal t x y).run P w=.ok b w):∃v,(binOp op t x y).run P w=.ok v w/\K v:=by
 cases op<;>simp only[od]at h
 case eql=>exact⟨_,by rw[hb .eql (.inl rfl)];simp[he],h⟩
 case neq=>exact⟨_,by rw[hb .neq (.inr rfl)];simp[he],h⟩
theorem Fc {P:Program}{t e:Nat}(hu:P.underlying t=some (.pointer e))(p:Option Addr)(d:Nat)(w:World):(Op.equalIn (d+1) t (.pointer p) (.pointer none)).run P w=.ok p.isNone w:=by
 cases p<;>simp[Op.equalIn,run_underlying hu]
theorem Whg {P:Program}{t e:Nat}(hu:P.underlying t=some (.slice e))(p:Option Addr)(n c d:Nat)(w:World):(Op.equalIn (d+1) t (.slice p n c) (.slice none 0 0)).run P w=.ok p.isNone w:=by
 cases p<;>simp[Op.equalIn,run_underlying hu]
theorem M8 {P:Program}{t k e:Nat}(hu:P.underlying t=some (.map k e))(p:Option Nat)(d:Nat)(w:World):(Op.equalIn (d+1) t (.map p) (.map none)).run P w=.ok p.isNone w:=by
 cases p<;>simp[Op.equalIn,run_underlying hu]
theorem WiI {P:Program}{t:Nat}(hu:P.underlying t=some .bool)(a b:Bool)(d:Nat)(w:World):(Op.equalIn (d+1) t (.bool a) (.bool b)).run P w=.ok (a==b) w:=by
 simp[Op.equalIn,run_underlying hu]
theorem PX {P:Program}{w:World}{s:Sl}{K:ByteArray->Prop}(h:Mr s w.heap K):∃b,(Conv.bytesToString (.slice s.a s.len s.cap)).run P w=.ok (.string b) w/\K b:=by
 obtain⟨g,p,d,m⟩:=h;refine⟨_,?_,m⟩;cases hs:s.a with
 | none=>
  rw[hs]at d;simp only[Rd,yS]at d;subst d;simp[Conv.bytesToString];rfl
 | some a=>
  rw[hs]at d;have e:(loadCells a s.len).run P w=.ok (g.map (Value.int .u8)).toArray w:=by
   rw[←p];simpa using run_loadCells_list (P:=P) (w:=w) a (g.map (Value.int .u8)) (λj v i=>d j v i)
  have key:∀(l:List Int) (acc:ByteArray),List.foldl (λb a=>b.push (UInt8.ofNat a.toNat)) acc l=⟨acc.data++(l.map λn=>UInt8.ofNat n.toNat).toArray⟩:=by
   intro l
   induction l with
   | nil=>intro acc;simp
   | cons n l ih=>intro acc;rw[lC,ih];congr 1;apply Array.ext';simp[ByteArray.push]
  simp only[Conv.bytesToString,Sem.run_bind,e,Result.andThen_ok];simp[key]
theorem RV {P:Program}{t:Nat}{ms:Array (String×TypeId)}(hu:P.underlying t=some (.interface ms)){v:Value}(hv:jM v)(d:Nat)(w:World):(Op.equalIn (d+1) t v .nilIface).run P w=.ok (lM v) w:=by
 rcases hv with rfl|⟨t',u,rfl⟩
 ·simp[Op.equalIn,run_underlying hu,lM]
 ·simp[Op.equalIn,run_underlying hu,lM]
theorem MR {P:Program}{xt t:TypeId}{ti:TypeInfo}{fs:Array Field}{v:Value}{vs zs:List Value}{b:Bool}(hu:P.underlying t=some (.struct fs))(hi:P.info? t=some ti)(hz:ti.zero=some (.agg zs.toArray))
 (h:kT v t vs zs b) (w:World) :
 (Instr.typeAssert v xt t true).run P w=.ok (.tuple #[.agg vs.toArray,.bool b]) w:=by
 have a:=VH hi hz w;cases b with
 | true=>
  simp only[kT]at h;subst h;simp[Instr.typeAssert,run_underlying hu]
 | false=>
  simp only[kT]at h;obtain⟨rfl,h⟩:=h;rcases h with rfl|⟨t',u,rfl,hne⟩
  ·simp[Instr.typeAssert,run_underlying hu,a]
  ·simp[Instr.typeAssert,run_underlying hu,hne,a]
theorem Whl {P:Program}{op:BinOp}{t:Nat}{x y:Value}{K:Value->Prop}(h:mB P op t x y K)(w:World) :
 ∃v,(binOp op t x y).run P w=.ok v w/\K v:=by
 unfold mB at h;split at h
 case h_1 e p hu=>
  refine Ux h w ?_ ?_
  ·rintro op (rfl|rfl)<;>simp[binOp]
  ·exact Fc hu p 9999 w
 case h_2 e p _ _ hu=>
  refine Ux h w ?_ ?_
  ·rintro op (rfl|rfl)<;>simp[binOp]
  ·exact Whg hu p _ _ 9999 w
 case h_3 e e' p hu=>
  refine Ux h w ?_ ?_
  ·rintro op (rfl|rfl)<;>simp[binOp]
  ·exact M8 hu p 9999 w
 case h_4 ms hu=>
  obtain⟨a,h⟩:=h;refine Ux h w ?_ ?_
  ·rcases a with rfl|⟨t',u,rfl⟩<;>rintro op (rfl|rfl)<;>simp[binOp]
  ·exact RV hu a 9999 w
 ·exact h.elim
theorem Mx {P:Program}{op:BinOp}{t:Nat}{x y:Value}{K:Value->Prop}(h:mE P op t x y K)(w:World) :
 ∃v,(binOp op t x y).run P w=.ok v w/\K v:=by
 unfold mE at h;split at h
 case h_1 k a k' b=>
  split at h
  ·rename_i e;subst e;exact Wh7 h w
  ·cases op<;>simp only at h
   case shl=>simp only[qH,Ar,Nn]at h;obtain⟨g,d⟩:=h;exact⟨_,by simp[binOp,Op.shift,Int.not_lt.2 g],d⟩
   case shr=>simp only[qH,Ar,Nn]at h;obtain⟨g,d⟩:=h;exact⟨_,by simp[binOp,Op.shift,Int.not_lt.2 g],d⟩
 case h_2 a b=>
  split at h
  ·rename_i hu;refine Ux h w ?_ ?_
   ·rintro op (rfl|rfl)<;>simp[binOp]
   ·exact WiI hu a b 9999 w
  ·exact h.elim
 case h_3 a b=>
  cases op<;>simp only at h
  ·exact⟨_,rfl,h⟩
  ·exact⟨_,rfl,h⟩
 ·exact h.elim
theorem Em {c:CK}{a:Addr}{h:Hp}{K:c.T->Prop}(hl:yr c a h K):∃x,cell h a=some (c.v x)/\K x:=by
 cases c<;>exact hl
theorem Et {P:Program}{w:World}{a:Addr}{v:Value}(h:cell w.heap a=some v):(load a).run P w=.ok v w:=by
 have:w.cell? a=some v:=h;simp[this]
theorem CV {P:Program}{w:World}:∀{cs:List CK} {a:Addr} {i:Nat} {K:List Value->Prop},om cs a i w.heap K →
 ∃vs,vs.length=cs.length/\K vs/\∀acc,(loadCellsFrom a i cs.length acc).run P w=.ok (acc++vs.toArray) w
 | [],a,i,K,h=>⟨[],rfl,h,λacc=>by simp[loadCellsFrom]⟩
 | c::cs,a,i,K,h=>by
  obtain⟨x,hx,hK⟩:=Em h;obtain⟨vs,e,b,d⟩:=CV (P:=P) hK;refine⟨c.v x::vs,by simp[e],b,λacc=>?_⟩;simp only[zQ,loadCellsFrom,Sem.run_bind,Et hx,Result.andThen_ok,d]
  congr 1
  apply Array.ext';simp
theorem KT {P:Program}{t:Nat}{d:TypeDesc}(h:P.underlying t=some d)(w:World):(isAgg t).run P w=.ok (UK d) w:=by
 simp only[isAgg,Sem.run_bind,run_underlying h,Result.andThen_ok];cases d<;>rfl
theorem Iu {P:Program}{t:Nat}{c:CK}(h:ky P t=some (.one c)):∃d,P.underlying t=some d/\UK d=false:=by
 unfold ky at h;split at h
 ·rename_i d hd;refine⟨d,hd,?_⟩;cases e:UK d
  ·rfl
  ·rw[e]at h;simp at h
 ·cases h
theorem JV {P:Program}{t:Nat}{c:List CK}(h:ky P t=some (.agg c)):∃d,P.underlying t=some d/\UK d=true:=by
 unfold ky at h;split at h
 ·rename_i d hd;refine⟨d,hd,?_⟩;cases e:UK d
  ·rw[e]at h;simp at h
  ·rfl
 ·cases h
theorem WgB {P:Program}{t ty:Nat}{x:Value}{K:Value->Prop}{w:World}(h:mO P t x w.heap K) :
 ∃v,(Builtin.len_ #[t] ty #[x]).run P w=.ok v w/\K v:=by
 unfold mO at h;split at h
 case h_1 e a n c hu=>exact⟨_,by simp[Builtin.len_,run_underlying hu,goInt],h⟩
 case h_2 s hu=>exact⟨_,by simp[Builtin.len_,run_underlying hu,goInt],h⟩
 case h_3 n e y hu=>exact⟨_,by simp[Builtin.len_,run_underlying hu,goInt],h⟩
 case h_4 kt et m hu=>
  split at h
  case h_1 k c hk hs=>
   obtain⟨l,d,g⟩:=h;cases m with
   | none=>simp only[jQ]at d;subst d;exact⟨_,by simp[Builtin.len_,run_underlying hu,goInt],g⟩
   | some r=>
    obtain⟨j,u,i,p,_⟩:=d;have b:j.size=l.length:=by simpa using congrArg List.length p
    refine⟨_,?_,g⟩;simp[Builtin.len_,run_underlying hu,goInt,getObj,Sem.run,i,b]
  ·exact h.elim
 ·exact h.elim
theorem Cx {P:Program}{w:World}:∀{vs:List Value} {v:Value} {b:Bool} {K:Value->Prop},pT b v vs K →
 ∃z,(vs.foldlM (if b then Builtin.max2 else Builtin.min2) v).run P w=.ok z w/\K z
 | [],v,b,K,h=>⟨v,by simp,by simpa[pT]using h⟩
 | u::vs,v,b,K,h=>by
  cases v<;>cases u<;>simp only[pT]at h<;>try exact h.elim
  case int.int k x k' y=>
   obtain⟨z,hz,hK⟩:=Cx h;refine⟨z,?_,hK⟩;cases b
   ·simpa[Builtin.min2]using hz
   ·simpa[Builtin.max2]using hz
theorem Z7 {ρ:Env}{a:Act}(hf:∀x v,ev ρ x=some v->a.eval x=v):∀{os:List Operand} {vs:List Value},q8 ρ os=some vs->os.map a.eval=vs
 | [],vs,h=>by simp[q8]at h;simp[h]
 | o::os,vs,h=>by
  simp only[q8]at h;split at h
  ·rename_i v vs' h1 h2;cases h;simp[hf _ _ h1,Z7 hf h2]
  ·cases h
theorem V4 {ρ:Env}{a:Act}(hf:∀x v,ev ρ x=some v->a.eval x=v):∀{os:List (Nat×Operand)} {vs:List (Nat×Value)},H8 ρ os=some vs->os.map (λ(i,x)=>(i,a.eval x))=vs
 | [],vs,h=>by simp[H8]at h;simp[h]
 | (i,o)::os,vs,h=>by
  simp only[H8]at h;split at h
  ·rename_i v vs' h1 h2;cases h;simp[hf _ _ h1,V4 hf h2]
  ·cases h
theorem G4 {k:IntKind}{n:Int}{c:CK}:∀(es:List MapEntry) (l:List (Int×c.T)) (i:Nat),
 es.map (λe=>(e.key,e.val))=l.map (λx=>(Value.int k x.1,c.v x.2)) →
 Instr.findNow (.int k) (.int k n) es i=some (match l.findIdx? (λx=>x.1==n)with|some j=>some (i+j,match l[j]? with|some x=>c.v x.2|none=>undef)|none=>none)
 | [],l,i,h=>by
  cases l with
  | nil=>simp[Instr.findNow]
  | cons x l=>simp at h
 | e::es,[],i,h=>by simp at h
 | e::es,x::l,i,h=>by
  simp only[zK,List.cons.injEq,Prod.mk.injEq]at h;obtain⟨⟨h1,h2⟩,h3⟩:=h;have d:=G4 (n:=n) es l (i+1) h3;simp only[Instr.findNow,h1,Instr.sameNow,zV];by_cases hx:n=x.1
  ·have b:(n==x.1)=true:=by simpa using hx
   have a:(x.1==n)=true:=by simpa using hx.symm
   simp[xX,b,a,h2]
  ·have b:(n==x.1)=false:=by simpa using hx
   have a:(x.1==n)=false:=by simpa using λh=>hx h.symm
   simp only[b,d,xX,a];cases List.findIdx? (λx=>x.1==n) l with
   | none=>simp
   | some j=>simp;omega
theorem Ky {P:Program}{kt:Nat}{k:IntKind}(hk:P.underlying kt=some (.int k)){n:Int}{c:CK}{es:List MapEntry}{l:List (Int×c.T)}
 (he:es.map (λe=>(e.key,e.val))=l.map (λx=>(Value.int k x.1,c.v x.2))) (w:World) :
 (Instr.findKey kt (.int k n) es).run P w=.ok (match l.findIdx? (λx=>x.1==n)with|some j=>some (j,match l[j]? with|some x=>c.v x.2|none=>undef)|none=>none) w:=by
 simp[Instr.findKey,run_underlying hk,G4 es l 0 he]
theorem Wc2 {P:Program}{kt:Nat}{k:IntKind}(hk:P.underlying kt=some (.int k))(b:Bool)(n:Int)(d:Nat)(w:World) :
 (Instr.checkKey b (d+1) kt (.int k n)).run P w=.ok () w:=by
 simp[Instr.checkKey,run_underlying hk]
theorem QT {P:Program}{kt:Nat}{k:IntKind}(hk:P.underlying kt=some (.int k))(b:Bool)(n:Int)(w:World) :
 (Instr.checkKey b 10000 kt (.int k n)).run P w=.ok () w:=Wc2 hk b n 9999 w
theorem PU {α:Type}(l:List (Int×α))(n:Int):bV l n=(l.findIdx? (λx=>x.1==n)).bind λj=>(l[j]?).map (·.2):=by
 induction l with
 | nil=>rfl
 | cons x l ih=>
  simp only[bV,wh,xX]at *;cases h:x.1==n
  ·simp only[ih];cases List.findIdx? (λx=>x.1==n) l<;>simp
  ·simp
theorem Uz {α:Type}{l:List (Int×α)}{n:Int}{j:Nat}(h:l.findIdx? (λx=>x.1==n)=some j):∃x,l[j]?=some x/\x.1=n:=by
 rw[pj]at h;obtain⟨b,a,_⟩:=h;exact⟨l[j],by simp[b],by simpa using a⟩
theorem WhA {P:Program}{t:Nat}{x i:Value}{ok:Bool}{K:Value->Prop}{w:World}(h:yj P t x i ok w.heap K) :
 ∃v,(Instr.lookup t x i ok).run P w=.ok v w/\K v:=by
 unfold yj at h;split at h
 case h_2=>exact h.elim
 rename_i kt et m k n hu;split at h
 case h_2=>exact h.elim
 rename_i k' c ti hk hs hi;split at h
 case h_2=>exact h.elim
 rename_i z hz;split at h
 case isFalse=>exact h.elim
 rename_i e;subst e;obtain⟨A,a,l,b,g⟩:=UC h;refine⟨_,?_,g⟩;cases m with
 | none=>
  simp only[jQ]at b;subst b;simp only[Instr.lookup,Sem.run_bind,run_underlying hu,Result.andThen_ok,Sem.run_pure,QT hk,Ky (c:=c) (l:=[]) hk (rfl:List.map _ (#[]:Array MapEntry).toList=_),List.findIdx?_nil,VH hi hz];cases ok<;>simp[bV,a]
 | some r=>
  obtain⟨B,s,d,p,_⟩:=b;simp only[Instr.lookup,Sem.run_bind,run_underlying hu,Result.andThen_ok,Sem.run_pure,QT hk,getObj,Sem.run,d,Ky hk p,PU];cases hf:l.findIdx? (λx=>x.1==n)with
  | none=>cases ok<;>simp[VH hi hz,a]
  | some j=>
   obtain⟨y,u,_⟩:=Uz hf;cases ok<;>simp[u]
theorem Ii (off:Nat):∀(vs:List Value) (k:Nat) (cs:Array Value),off+k+vs.length<=cs.size →
 ((vs.zipIdx k).foldl (λcs (c,j)=>cs.setIfInBounds (off+j) c) cs).toList=cs.toList.take (off+k)++vs++cs.toList.drop (off+k+vs.length)
 | [],k,cs,h=>by simp
 | v::vs,k,cs,h=>by
  simp only[List.zipIdx_cons,lC];rw[Ii off vs (k+1) _ (by simp only[Array.size_setIfInBounds,zQ]at *;omega)];simp only[zQ]at h;have hlt:off+k<cs.toList.length:=by simp;omega
  simp only[Array.toList_setIfInBounds,zQ];apply zp;intro m;simp only[List.getElem?_append,zO,nM,zJ,zY,nq,zn,List.getElem?_cons,zQ]
  grind
theorem UQ (ZB:Nat->Option (Nat×Nat)):∀(ps:List (Nat×Value)) (cells:List Value) (cs:List Value),sT ZB cells ps=some cs->Instr.fill ZB cells.toArray ps=some cs.toArray
 | [],cells,cs,h=>by simp[sT]at h;simp[Instr.fill,h]
 | (i,v)::rest,cells,cs,h=>by
  simp only[sT]at h;simp only[Instr.fill];cases hp:ZB i with
  | none=>rw[hp]at h;cases h
  | some os=>
   obtain⟨off,size⟩:=os;rw[hp]at h;simp only at h ⊢;split at h
   ·cases h
   ·rename_i hc;simp only[not_or,Decidable.not_not,Nat.not_lt]at hc;obtain⟨a,b⟩:=hc;rw[zA (by simp[a];omega)];have:=Ii off v.cells.toList 0 cells.toArray aE;have e:(v.cells.zipIdx.foldl (λcs (c,j)=>cs.setIfInBounds (off+j) c) cells.toArray)=(cells.take off++v.cells.toList++cells.drop (off+size)).toArray:=by
     apply Array.ext';rw[←Array.foldl_toList,Array.toList_zipIdx,this];simp[a]
    rw[e];exact UQ ZB rest _ _ h
theorem Jc {P:Program}{w:World}:∀(fs:List Field),(fs.all λf=>(P.info? f.type).isSome)=true →
 (fs.mapM λf=>(do pure (f.offset,←sizeOf f.type):Sem (Nat×Nat))).run P w=.ok (fs.map λf=>(f.offset,P.cellsOf f.type)) w
 | [],_=>by simp
 | f::fs,h=>by
  simp only[wc,zF]at h;have ih:=Jc (P:=P) (w:=w) fs h.2;simp only[List.mapM_cons,Sem.run_bind,QU h.1,Result.andThen_ok,Sem.run_pure,ih,zK]
theorem Eg {raw:Nat->Bool}:∀{ps:List (Nat×Value)} {A:Prop},mQ raw ps A->A/\∀ZB cells,Instr.fill ZB cells (xv raw ps)=Instr.fill ZB cells ps
 | [],A,h=>⟨h,λ_ _=>rfl⟩
 | (i,v)::ps,A,h=>by
  simp only[mQ]at h;cases hr:raw i
  ·rw[hr]at h;obtain⟨hA,ih⟩:=Eg h;exact⟨hA,λZB cells=>by simp only[xv,Instr.fill,ih,hr,cond_false]⟩
  ·rw[hr]at h;simp only[cond_true]at h;obtain⟨hA,ih⟩:=Eg h.2;have e:(Value.agg #[v]).cells=v.cells:=by
    rcases h.1 with rfl|⟨t,u,rfl⟩<;>rfl
   exact⟨hA,λZB cells=>by simp only[xv,Instr.fill,ih,hr,cond_true,e]⟩
theorem N9 {P:Program}{t:Nat}{ps:Array (Nat×Value)}{K:Value->Prop}{w:World}(h:oT P t ps.toList K) :
 ∃v,(Instr.build t ps).run P w=.ok v w/\K v:=by
 unfold oT at h;split at h
 case h_1 p fs hi hu=>
  split at h
  case h_2=>exact h.elim
  rename_i z hz;obtain⟨h,m⟩:=Eg h;split at h
  case h_2=>exact h.elim
  rename_i cs hf;rw[WH]at h;obtain⟨a,s⟩:=h;refine⟨_,?_,s⟩;have r:=Jc (P:=P) (w:=w) fs.toList a;have g:(fs.mapM λf=>(do pure (f.offset,←sizeOf f.type):Sem (Nat×Nat))).run P w=.ok (fs.map λf=>(f.offset,P.cellsOf f.type)) w:=by
   rw[Array.mapM_eq_mapM_toList];simp only[Sem.run_map,r,Result.andThen_ok]
   congr 1
   apply Array.ext';simp
  have j:(λi=>(fs.map λf=>(f.offset,P.cellsOf f.type))[i]?)=EF P fs:=by
   funext i
   simp only[EF,Array.getElem?_map];cases hfi:fs[i]? with
   | none=>simp
   | some f=>
    have b:f∈fs.toList:=by
     have:=Cu hfi;simpa using this
    have:=kR.1 a f b;obtain⟨p,d⟩:=pN.1 this;simp[d,Program.cellsOf]
  have:=UQ _ _ _ _ hf;rw[m]at this;simp only[Instr.build,Sem.run_bind,VH hi hz,Result.andThen_ok,run_underlying hu,g,j];have e:z.cells.toList.toArray=z.cells:=by simp
  rw[e]at this;simp[this]
 case h_2 p n e hi hu=>
  split at h
  case h_2=>exact h.elim
  rename_i z te hz hte;split at h
  case h_2=>exact h.elim
  rename_i cs hf;refine⟨_,?_,h⟩;have:=UQ _ _ _ _ hf;have x:z.cells.toList.toArray=z.cells:=by simp
  rw[x]at this;have u:(sizeOf e).run P w=.ok te.size w:=by simp[sizeOf,V7 hte]
  simp only[Instr.build,Sem.run_bind,VH hi hz,Result.andThen_ok,run_underlying hu,u];simp[this]
 ·exact h.elim
theorem Wr {o:Option Value}{K:Value->Prop}(h:wv o K):∃v,o=some v/\K v:=by
 cases o with
 | none=>exact h.elim
 | some v=>exact⟨v,rfl,h⟩
theorem Wfe {P:Program}{t off:Nat}{cs:Array Value}{K:Value->Prop}{w:World}(h:vI P t cs.toList off K) :
 ∃v,(part t cs off).run P w=.ok v w/\K v:=by
 unfold vI at h;split at h
 case h_2=>exact h.elim
 rename_i d ti hu hi;cases hd:UK d
 ·rw[hd]at h;obtain⟨v,a,b⟩:=Wr h;refine⟨v,?_,b⟩;have:cs[off]?=some v:=by simpa using a
  simp[part,KT hu,hd,this]
 ·rw[hd]at h;refine⟨_,?_,h⟩;simp only[part,Sem.run_bind,KT hu,hd,Result.andThen_ok,sizeOf,V7 hi,zV,Sem.run_pure]
  congr 2
  apply Array.ext';simp
theorem Kt {P:Program}{w:World}{z:Int}{y:Nat}{code:BoundsCode}(h0:0<=z)(h1:z<=y):(Instr.sliceBound (.int .i64 z) y code).run P w=.ok z.toNat w:=by
 simp[Instr.sliceBound,asIntOf,h0,h1]
theorem FC {o:Option Value}{d l:Int}(h:(match o with|none=>some d|some (.int .i64 z)=>some z|_=>none)=some l):(o=none/\l=d)\/o=some (.int .i64 l):=by
 split at h
 ·simp at h;exact .inl ⟨rfl,h.symm⟩
 ·simp at h;subst h;exact .inr rfl
 ·cases h
theorem Δ {P:Program}{t:Nat}{x:Value}{lo hi mx:Option Value}{K:Value->Prop}{w:World}(h:oH P t x lo hi mx K) :
 ∃v,(Instr.sliceAt t x lo hi mx).run P w=.ok v w/\K v:=by
 unfold oH at h;split at h
 case h_2=>exact h.elim
 rename_i e a n c hu;split at h
 case h_2=>exact h.elim
 rename_i ti hi';simp only at h;split at h
 case h_2=>exact h.elim
 rename_i l hh m hlo hhi hmx;obtain⟨g,u,A,r,j⟩:=h;refine⟨_,?_,j⟩;simp only at r;have b:(sizeOf e).run P w=.ok ti.size w:=by simp[sizeOf,V7 hi']
 have p:(Instr.sliceBounds true n c lo hi mx).run P w=.ok (l.toNat,hh.toNat,m.toNat) w:=by
  have i:(mx=none/\m=c)\/(mx=some (.int .i64 m)/\hi≠none):=by
   split at hmx
   ·simp at hmx;exact .inl ⟨rfl,hmx.symm⟩
   ·simp at hmx;subst hmx;exact .inr ⟨rfl,by simp⟩
   ·cases hmx
  have s:=FC hlo;have d:=FC hhi;clear hlo hhi hmx;rcases i with⟨rfl,rfl⟩|⟨rfl,hne⟩<;>rcases d with⟨rfl,rfl⟩|rfl
  case inr.inl=>exact absurd rfl hne
  all_goals rcases s with⟨rfl,rfl⟩|rfl
  ·simp[Instr.sliceBounds]
  ·have:=Kt (P:=P) (w:=w) (z:=l) (y:=n) (code:=.sliceB) g O;simp[Instr.sliceBounds,this]
  ·have:=Kt (P:=P) (w:=w) (z:=hh) (y:=c) (code:=.sliceAcap) O O;simp[Instr.sliceBounds,this]
  ·have:=Kt (P:=P) (w:=w) (z:=hh) (y:=c) (code:=.sliceAcap) O O;have:=Kt (P:=P) (w:=w) (z:=l) (y:=hh.toNat) (code:=.sliceB) O O;simp[Instr.sliceBounds, *]
  ·have:=Kt (P:=P) (w:=w) (z:=m) (y:=c) (code:=.slice3Acap) O O;have:=Kt (P:=P) (w:=w) (z:=hh) (y:=m.toNat) (code:=.slice3B) O O;simp[Instr.sliceBounds, *]
  ·have:=Kt (P:=P) (w:=w) (z:=m) (y:=c) (code:=.slice3Acap) O O;have:=Kt (P:=P) (w:=w) (z:=hh) (y:=m.toNat) (code:=.slice3B) O O;have:=Kt (P:=P) (w:=w) (z:=l) (y:=hh.toNat) (code:=.slice3C) O O;simp[Instr.sliceBounds, *]
 simp only[Instr.sliceAt,Instr.slice,Sem.run_bind,run_underlying hu,Result.andThen_ok,p,b,Sem.run_pure]
theorem NI {P:Program}{op:BinOp}{t:Nat}{x y:Operand}{a b:Value}(w:World)(h:(∀cs,a≠.agg cs)/\a≠.nilIface):(eqGuard op t x y a b).run P w=.ok () w:=by
 unfold eqGuard;cases op<;>simp
 all_goals (cases a<;>first|rfl | (simp at h))
theorem TH {P:Program}{op:BinOp}{t:Nat}{x y:Value}{K:Value->Prop}(h:mE P op t x y K):(∀cs,x≠.agg cs)/\x≠.nilIface:=by
 unfold mE at h;split at h<;>first|exact absurd h id | (constructor<;>simp)
theorem RD {P:Program}{op:BinOp}{t:Nat}{x y:Value}{K:Value->Prop}(h:mB P op t x y K):∀cs,x≠.agg cs:=by
 unfold mB at h;split at h
 case h_4=>rcases h.1 with rfl|⟨t',u,rfl⟩<;>simp
 all_goals first|exact absurd h id|simp
theorem Of {P:Program}{op:BinOp}{t:Nat}{x:Operand}{c:Value}{a b:Value}(w:World)(h:∀cs,a≠.agg cs):(eqGuard op t x (.const c) a b).run P w=.ok () w:=by
 unfold eqGuard;cases op<;>simp
 all_goals (cases a<;>first|rfl|exact absurd rfl (h _) | (cases b<;>simp))
theorem R4 {y:Operand}(h:xg y=true):∃c,y=.const c:=by
 unfold xg at h;split at h<;>first|exact⟨_,rfl⟩|cases h
theorem A0 {P:Program}{s f:Nat}{K:Field->Prop}(h:oI P s f K):∃fs fd,P.underlying s=some (.struct fs)/\fs[f]?=some fd/\K fd:=by
 unfold oI at h;split at h
 ·split at h
  ·exact⟨_,_,by assumption,by assumption,h⟩
  ·exact h.elim
 ·exact h.elim
theorem TF {P:Program}{t:Nat}(h:P.cellsOf t≠0):(P.info? t).isSome=true:=by
 unfold Program.cellsOf at h;cases hi:P.info? t with
 | none=>rw[hi]at h;simp at h
 | some i=>rfl
theorem Bb {ρ:Env}{a:Act}(hf:∀x v,ev ρ x=some v->a.eval x=v){o:Option Operand}{v:Option Value}(h:vZ ρ o=some v):o.map a.eval=v:=by
 cases o with
 | none=>simp[vZ]at h;simp[h]
 | some o=>
  simp only[vZ,qQ]at h;obtain⟨u,b,rfl⟩:=h;simp[hf _ _ b]
theorem VE {P:Program}{t:Nat}{d:TypeDesc}{cs:Array Value}{off:Nat}{v:Value}{w:World}(hd:P.underlying t=some d)(hag:UK d=false)(h:cs.toList[off]?=some v):(part t cs off).run P w=.ok v w:=by
 have a:cs[off]?=some v:=by simpa using h
 simp[part,KT hd,hag,a]
theorem Da {P:Program}{xs ys:Array Value}(d:Nat):∀(fs:List Field) (b:Bool),qf P xs.toList ys.toList fs=some b->∀w,(Op.eqFields (d+1) xs ys fs).run P w=.ok b w
 | [],b,h,w=>by simp[qf]at h;subst h;simp[Op.eqFields]
 | f::fs,b,h,w=>by
  simp only[qf]at h;cases hn:f.name == "_"
  ·rw[hn]at h;simp only[cond_false]at h;have hne:f.name ≠ "_" := by simpa using hn
   split at h
   ·rename_i k0 k a k' b' r hu hx hy hr;split at h
    case isFalse=>cases h
    rename_i e;subst e;simp only[Option.some.injEq]at h;subst h;have ih:=Da (d:=d) fs r hr w;simp only[Op.eqFields,hne,ne_eq,not_false_eq_true,zV,Sem.run_bind,VE hu rfl hx,VE hu rfl hy,Result.andThen_ok,run_equalIn_int w d f.type k k0 a b' hu];cases hab:a==b'<;>simp[ih]
   ·rename_i a b' r hu hx hy hr;simp only[Option.some.injEq]at h;subst h;have ih:=Da (d:=d) fs r hr w;simp only[Op.eqFields,hne,ne_eq,not_false_eq_true,zV,Sem.run_bind,VE hu rfl hx,VE hu rfl hy,Result.andThen_ok,run_equalIn_bool' w d f.type a b' hu];cases hab:a==b'<;>simp[ih]
   ·cases h
  ·rw[hn]at h;cases h
theorem Cv {P:Program}{e:TypeId}(hC:P.cellsOf e=1){xs ys:Array Value}(d:Nat):∀(is:List Nat) (b:Bool),pB P e xs.toList ys.toList is=some b->∀w,(Op.eqItems (d+1) e (P.cellsOf e) xs ys is).run P w=.ok b w
 | [],b,h,w=>by simp[pB]at h;subst h;simp[Op.eqItems]
 | i::is,b,h,w=>by
  simp only[pB]at h;split at h
  ·rename_i k0 k a k' b' r hu hx hy hr;split at h
   case isFalse=>cases h
   rename_i e';subst e';simp only[Option.some.injEq]at h;subst h;have ih:=Cv hC d is r hr w;simp only[Op.eqItems,hC,m9,Sem.run_bind,VE hu rfl hx,VE hu rfl hy,Result.andThen_ok,run_equalIn_int w d e k k0 a b' hu];rw[hC]at ih;cases hab:a==b'<;>simp[ih]
  ·rename_i t0 p r hu hx hy hr;simp only[Option.some.injEq]at h;subst h;have ih:=Cv hC d is r hr w;simp only[Op.eqItems,hC,m9,Sem.run_bind,VE hu rfl hx,VE hu rfl hy,Result.andThen_ok,Fc hu p d w];rw[hC]at ih;cases hab:p.isNone<;>simp[ih]
  ·cases h
theorem Whm {P:Program}{op:BinOp}{t:Nat}{xs ys:Array Value}{K:Value->Prop}(h:oQ P op t xs.toList ys.toList K)(x y:Operand)(w:World) :
 ∃v,(do eqGuard op t x y (.agg xs) (.agg ys);binOp op t (.agg xs) (.agg ys):Sem Value).run P w=.ok v w/\K v:=by
 have fin:∀b:Bool,(Op.equalIn 10000 t (.agg xs) (.agg ys)).run P w=.ok b w->P.eqGuardType P.depth t=false->od op b K →
  ∃v,(do eqGuard op t x y (.agg xs) (.agg ys);binOp op t (.agg xs) (.agg ys):Sem Value).run P w=.ok v w/\K v:=by
  intro b a hgt h;have j:=run_eqGuard_agg (P:=P) w op t x y xs ys hgt;cases op<;>simp only[od]at h
  ·exact⟨_,by simp only[Sem.run_bind,j,Result.andThen_ok,run_eql_struct,a],h⟩
  ·exact⟨_,by simp only[Sem.run_bind,j,Result.andThen_ok,run_neq_struct,a],h⟩
 unfold oQ at h;split at h
 case h_1 fs hu=>
  rw[WH]at h;obtain⟨d,h⟩:=h;simp only[zF,nj]at d;split at h
  case h_2=>exact h.elim
  rename_i b hb;have g:P.fieldsOf t=fs:=by simp[Program.fieldsOf,hu]
  have a:(Op.equalIn 10000 t (.agg xs) (.agg ys)).run P w=.ok b w:=by
   have:=run_equalIn_struct (P:=P) w 9999 t xs ys (by rw[g];exact hu) d.1;rw[g]at this;exact this.trans (Da 9998 fs.toList b hb w)
  exact fin b a d.2 h
 case h_2 n e hu=>
  rw[WH]at h;obtain⟨d,h⟩:=h;simp only[zF,nj,zZ]at d;split at h
  case h_2=>exact h.elim
  rename_i b hb;obtain⟨i,m⟩:=pN.1 d.2.1;exact fin b ((run_equalIn_array (P:=P) w 9999 xs ys hu m).trans (Cv d.2.2 9998 _ b hb w)) d.1 h
 case h_3=>exact h.elim
theorem yH {P:Program}{ρ:Env}{K:Value->Prop}{a:Act}{w:World}(hf:∀x v,ev ρ x=some v->a.eval x=v)(o:Oper)(hk:qK P o.op ρ w.heap K) :
 ∃v,(execOp a.eval o).run P w=.ok (.value v) w/\K v:=by
 obtain⟨dst,op,ty,pos,aa,Y⟩:=o;simp only at hk;have g:∀{s:Sem Value},(∃v,s.run P w=.ok v w/\K v)->∃v,(do pure (Next.value (←s)):Sem Next).run P w=.ok (.value v) w/\K v:=by
  rintro s ⟨v,j,e⟩;exact⟨v,by simp[j],e⟩
 unfold qK at hk;split at hk
 case h_1 x=>
  obtain⟨v,j,e⟩:=Wr hk;exact⟨v,by simp[execOp,hf _ _ j],e⟩
 case h_2 x=>
  obtain⟨v,j,e⟩:=Wr hk;exact⟨v,by simp[execOp,hf _ _ j],e⟩
 case h_3 c x y=>
  obtain⟨v,j,e⟩:=Wr hk;split at e
  ·obtain⟨u,A,e⟩:=Wr e;exact⟨u,by simp[execOp,hf _ _ j,asBool,hf _ _ A],e⟩
  ·obtain⟨u,A,e⟩:=Wr e;exact⟨u,by simp[execOp,hf _ _ j,asBool,hf _ _ A],e⟩
  ·exact e.elim
 case h_4 t x=>
  obtain⟨v,j,e⟩:=Wr hk;simp only[execOp,hf _ _ j];apply g;split at e
  case h_1 M c F=>
   rw[WH]at e;obtain⟨d,hd,L⟩:=Iu F;obtain⟨x,p,e⟩:=Em e.2;exact⟨_,by simp only[Instr.loadAt,Instr.sureAddr,loadVar,Sem.run_bind,Sem.run_pure,Result.andThen_ok,KT hd,L];simpa using Et p,e⟩
  case h_2 M cs F=>
   rw[WH,WH]at e;obtain⟨r,z,e⟩:=e;obtain⟨d,hd,L⟩:=JV F;obtain⟨vs,hl,e,Z⟩:=CV (P:=P) e;have X:P.cellsOf t=cs.length:=by simpa using r
   refine⟨_,?_,e⟩;simp only[Instr.loadAt,Instr.sureAddr,loadVar,Sem.run_bind,Sem.run_pure,Result.andThen_ok,KT hd,L,zV,QU z,loadCells,X,Z];simp
  ·exact e.elim
 case h_5 x=>
  obtain⟨v,j,e⟩:=Wr hk;simp only[execOp,hf _ _ j];split at e
  ·obtain⟨M,rfl,e⟩:=e;exact⟨_,by simp,e⟩
  ·exact⟨_,by simp,e⟩
  ·exact e.elim
 case h_6 op t x y yt=>
  obtain⟨D,p,hk⟩:=Wr hk;obtain⟨vy,hy,hk⟩:=Wr hk;simp only[execOp,hf _ _ p,hf _ _ hy];apply g;unfold yc at hk;cases hn:xg y
  ·rw[hn]at hk;simp only[cond_false]at hk;split at hk
   ·exact Whm hk x y w
   obtain⟨v,j,e⟩:=Mx hk w;exact⟨v,by simp[NI w (TH hk),j],e⟩
  ·rw[hn]at hk;simp only[cond_true]at hk;obtain⟨v,j,e⟩:=Whl hk w;obtain⟨c,hc⟩:=R4 hn;have hg:=Of (P:=P) (op:=op) (t:=t) (x:=x) (c:=c) (b:=vy) w (RD hk);exact⟨v,by rw[hc];simp[hg,j],e⟩
 case h_7 op ty' x=>
  obtain⟨D,p,hk⟩:=Wr hk;simp only[execOp,hf _ _ p];apply g;split at hk
  ·exact⟨_,by simp[Op.unary],hk⟩
  ·exact⟨_,by simp[Op.unary,Op.intArith],hk⟩
  ·exact hk.elim
 case h_8 s d x=>
  obtain⟨D,p,hk⟩:=Wr hk;simp only[execOp,hf _ _ p];apply g;split at hk
  ·rename_i r z;exact⟨_,by simp[convert,run_underlying r,run_underlying z,Conv.intToInt],hk⟩
  ·rename_i r z;exact⟨_,by simp[convert,run_underlying r,run_underlying z],hk⟩
  ·rename_i r z;split at hk
   ·rename_i A;obtain⟨b,Z,e⟩:=PX (P:=P) hk;exact⟨_,by simpa[convert,run_underlying r,run_underlying z,run_underlying A]using Z,e⟩
   ·exact hk.elim
  ·exact hk.elim
 case h_9 s x f=>
  obtain⟨D,p,hk⟩:=Wr hk;obtain⟨fs,fd,F,H,hk⟩:=A0 hk;simp only[execOp,hf _ _ p];apply g;split at hk
  ·rename_i M;rw[WH]at hk;have R:P.cellsOf fd.type≠0:=by simpa using hk.1
   refine⟨_,?_,hk.2⟩;simp only[Instr.fieldAt,Sem.run_bind,run_underlying F,Result.andThen_ok,H,Instr.sureAddr,Sem.run_pure,fieldPlace,QU (TF R),R,zz]
  ·exact hk.elim
 case h_10 s x f=>
  obtain⟨D,p,hk⟩:=Wr hk;obtain⟨fs,fd,F,H,hk⟩:=A0 hk;simp only[execOp,hf _ _ p];apply g;split at hk
  ·rename_i cs;obtain⟨v,j,e⟩:=Wfe (w:=w) hk;refine⟨v,?_,e⟩;simp only[Instr.field,Sem.run_bind,run_underlying F,Result.andThen_ok,H,asAgg,Sem.run_pure,j]
  ·exact hk.elim
 case h_11 t x i=>
  obtain⟨D,p,hk⟩:=Wr hk;obtain⟨vi,G,hk⟩:=Wr hk;simp only[execOp,hf _ _ p,hf _ _ G];apply g;split at hk
  ·have A:=(by assumption:P.underlying t=some _);rw[WH]at hk;obtain⟨r,M,rfl,z,U,e⟩:=hk;refine⟨_,?_,e⟩;simp[Instr.indexAt,asIntOf,run_underlying A,QU r,z,U]
  ·have A:=(by assumption:P.underlying t=some _);rw[WH]at hk;obtain⟨r,z,U,e⟩:=hk;refine⟨_,?_,e⟩;simp[Instr.indexAt,asIntOf,run_underlying A,QU r,z,U,Instr.sureAddr]
  ·exact hk.elim
 case h_12 t x i=>
  obtain⟨D,p,hk⟩:=Wr hk;obtain⟨vi,G,hk⟩:=Wr hk;simp only[execOp,hf _ _ p,hf _ _ G];apply g;split at hk
  ·have A:=(by assumption:P.underlying t=some _);obtain⟨b,r,z,e⟩:=hk;refine⟨_,?_,e⟩;simp[Instr.index,asIntOf,run_underlying A,r,z]
  ·exact hk.elim
 case h_13 t x i ok=>
  obtain⟨D,p,hk⟩:=Wr hk;obtain⟨vi,G,hk⟩:=Wr hk;simp only[execOp,hf _ _ p,hf _ _ G];exact g (WhA hk)
 case h_14 t i=>
  obtain⟨D,p,hk⟩:=Wr hk;simp only[execOp,hf _ _ p];apply g;split at hk
  ·obtain⟨v,j,e⟩:=Wr hk;have N:=j;rw[yX]at N;exact⟨v,by simp[Instr.extract,N],e⟩
  ·exact hk.elim
 case h_15 fn x y=>
  split at hk
  ·rename_i va vb r z;have E:=Z7 hf r;have S:=Z7 hf z;refine⟨_,?_,hk⟩;have J:x.map a.eval=va.toArray:=by apply Array.ext';simpa using E
   have W:y.map a.eval=vb.toArray:=by apply Array.ext';simpa using S
   simp[execOp,Instr.makeFunc,J,W]
  ·exact hk.elim
 case h_16 t ps=>
  split at hk
  ·rename_i vs r;have E:=V4 hf r;have J:ps.map (λ(i,x)=>(i,a.eval x))=vs.toArray:=by apply Array.ext';simpa using E
   simp only[execOp];apply g;rw[J];exact N9 (by simpa using hk)
  ·exact hk.elim
 case h_17 t x lo G mx=>
  obtain⟨D,p,hk⟩:=Wr hk;simp only[execOp,hf _ _ p];apply g;split at hk
  ·rename_i l h m r z U;rw[Bb hf r,Bb hf z,Bb hf U];exact Δ hk
  ·exact hk.elim
 case h_18 t x=>
  obtain⟨D,p,hk⟩:=Wr hk;rw[WH]at hk;simp only[execOp,hf _ _ p];exact⟨_,by simp[run_makeInterface w t D hk.1],hk.2⟩
 case h_19 x xt t=>
  obtain⟨D,p,hk⟩:=Wr hk;simp only[execOp,hf _ _ p];apply g;split at hk
  case h_2=>exact hk.elim
  rename_i fs ti cs A G F;split at hk
  case h_2=>exact hk.elim
  rename_i zs hz;obtain⟨vs,b,j,e⟩:=hk.out;exact⟨_,MR A G (by simpa using hz) j w,e⟩
 case h_20 c=>
  obtain⟨V,C,Q⟩:=c;simp only at hk;split at hk
  ·rename_i x t ha ht;have B:=Z7 hf ha;have E:C.map a.eval = #[x]:=by apply Array.ext';simpa using B
   have S:Q = #[t]:=by apply Array.ext';simpa using ht
   subst S;obtain⟨v,j,e⟩:=WgB (ty:=ty) hk;refine⟨v,?_,e⟩;simp[execOp,resolve,E,invoke,builtin,j]
  ·rename_i M l n t ha ht;have B:=Z7 hf ha;have E:C.map a.eval = #[.slice M l n]:=by apply Array.ext';simpa using B
   have S:Q = #[t]:=by apply Array.ext';simpa using ht
   subst S;split at hk
   ·rename_i A;refine⟨_,?_,hk⟩;simp[execOp,resolve,E,invoke,builtin,Builtin.cap_,run_underlying A,goInt]
   ·exact hk.elim
  ·rename_i x xs ha;have B:=Z7 hf ha;have E:C.map a.eval=(x::xs).toArray:=by apply Array.ext';simpa using B
   obtain⟨v,j,e⟩:=Cx (P:=P) (w:=w) hk;refine⟨v,?_,e⟩;simp only[zV]at j;simp[execOp,resolve,E,invoke,builtin,Builtin.max_,j]
  ·rename_i x xs ha;have B:=Z7 hf ha;have E:C.map a.eval=(x::xs).toArray:=by apply Array.ext';simpa using B
   obtain⟨v,j,e⟩:=Cx (P:=P) (w:=w) hk;refine⟨v,?_,e⟩;simp only[zc,zz]at j;simp[execOp,resolve,E,invoke,builtin,Builtin.min_,j]
  ·exact hk.elim
 ·exact hk.elim
def oz (P:Program):List TypeId->Option (List SK)
 | []=>some []
 | t::ts=>match ky P t,oz P ts with|some s,some ss=>some (s::ss)|_,_=>none
def HR (P:Program)(f:Nat):Bool:=
 match P.funcs[f]? with
 | some fn=>!(fn.name == "runtime.NumGoroutine") && fn.body.isSome
 | none=>false
def ud (P:Program)(f:Nat)(args:List Value)(h:Hp)(K:aO):Prop:=
 ∀w:World,w.heap=h->∃b w',(callFunc f args.toArray).run P w=.ok (.value (.bool b)) w'/\ZV w w'/\K b w'.heap
def BK (P:Program)(f:Nat)(args:List Value)(h:Hp)(K:Value->Hp->Prop):Prop:=
 match P.funcs[f]? with
 | some fn=>match oz P fn.resultTypes.toList with
  | some rs=>match HR P f with
   | true=>We P f args.toArray rs h (lam (iK rs) λvs h'=>K (pack rs vs) h')
   | false=>match rs with
    | [.one .b]=>ud P f args h λb h'=>K (.bool b) h'
    | _=>False
  | none=>False
 | none=>False
def Ch (P:Program)(v:Value)(name:String)(args:List Value)(ty:TypeId)(h:Hp)(K:Value->Hp->Prop):Prop:=
 match (match P.underlying ty with|some (.tuple ts)=>oz P ts.toList|_=>oz P [ty])with
 | some rs=>Dr P v name args rs h (lam (iK rs) λvs h'=>K (pack rs vs) h')
 | none=>False
def Dc (P:Program)(fv:Fv):Prop:=HR P fv.f=true
def V1 (P:Program)(fv:Fv)(args:List Value)(rs:List SK)(h:Hp)(R:eJ (iK rs)):Prop:=
 Dc P fv/\JT P fv args rs h R
def Dm (P:Program)(fv:Fv)(args:List Value)(ty:TypeId)(h:Hp)(K:Value->Hp->Prop):Prop:=
 match (match P.underlying ty with|some (.tuple ts)=>oz P ts.toList|_=>oz P [ty])with
 | some rs=>V1 P fv args rs h (lam (iK rs) λvs h'=>K (pack rs vs) h')
 | none=>False
def BB (a:Addr)(vs:List Value)(h:Hp)(K:aP):Prop:=
 match vs with
 | [v]=>dG a v h K
 | vs=>qJ a h vs 0 K
def sv (P:Program)(t:TypeId)(K:IntKind->CK->Prop):Prop:=
 match P.underlying t with
 | some (.map kt et)=>match P.underlying kt,ql P et with
  | some (.int k),some (.one c)=>K k c
  | _,_=>False
 | _=>False
def A9 (P:Program)(t:TypeId)(len:Nat)(ps:List (Nat×Value))(K:TypeId->List Value->Prop):Prop:=
 match P.underlying t with
 | some (.slice e)=>match P.info? e with
  | some te=>match te.zero with
   | some z=>match len,ps with
    | 0,[]=>K e []
    | 0,_::_=>False
    | len+1,ps=>gQ (Nat.ble ((len+1)*te.size) 16777216&&Nat.blt 0 ((len+1)*te.size)&&z.cells.size==te.size)
     (match sT (λi=>some (i*te.size,te.size)) (List.replicate (len+1) z.cells.toList).flatten ps with
     | some cs=>K e cs
     | none=>False)
   | none=>False
  | none=>False
 | _=>False
def eK (P:Program)(o:Op)(ty:TypeId)(ρ:Env)(h:Hp)(K:Value->Hp->Prop):Prop:=
 match o with
 | .store t a x=>wv (ev ρ a) λva=>wv (ev ρ x) λvx=>match va with
  | .pointer (some a)=>bif xy P t then gQ ((P.info? t).isSome&&P.cellsOf t==1) (jM vx/\dG a vx h λh'=>K undef h')
   else gQ ((P.info? t).isSome&&vx.cells.size==P.cellsOf t) (yW vx.cells.toList (BB a vx.cells.toList h λh'=>K undef h'))
  | _=>False
 | .alloc e=>match P.info? e with
  | some te=>match te.zero with
   | some z=>Nw (.cells z.cells e (0,0)) h λa h'=>K (.pointer (some a)) h'
   | none=>False
  | none=>False
 | .box e x=>wv (ev ρ x) λv=>bif xy P e then jM v/\Nw (.cells #[v] e (0,0)) h λa h'=>K (.pointer (some a)) h' else Nw (.cells v.cells e (0,0)) h λa h'=>K (.pointer (some a)) h'
 | .buildSlice t len ps=>match H8 ρ ps.toList with
  | some vs=>A9 P t len vs λe cs=>Nw (.cells cs.toArray e (0,0)) h λa h'=>K (.slice (some a) len len) h'
  | none=>False
 | .makeMap t r=>match r with
  | none=>Nw (.map #[] 0) h λa h'=>K (.map (some a.block)) h'
  | some _=>False
 | .makeSlice t l c=>wv (ev ρ l) λvl=>wv (ev ρ c) λvc=>match P.underlying t,vl,vc with
  | some (.slice e),.int .i64 n,.int .i64 m=>match P.info? e with
   | some te=>match te.zero with
    | some z=>gQ (z.cells.size==te.size&&Nat.blt 0 te.size) (Mk n m te.bytes e z.cells.toList h λs h'=>K (.slice s.a s.len s.cap) h')
    | none=>False
   | none=>False
  | _,_,_=>False
 | .range t x=>wv (ev ρ x) λv=>sv P t λki c=>match v with
  | .map m=>sf ki c m h λa h'=>K (.pointer (some a)) h'
  | _=>False
 | .mapUpdate t m k x=>wv (ev ρ m) λvm=>wv (ev ρ k) λvk=>wv (ev ρ x) λvx=>sv P t λki c=>match vm,vk with
  | .map m,.int k' n=>if ki=k' then pX c vx λx=>ld ki c m n x h λh'=>K undef h' else False
  | _,_=>False
 | .call c=>match c.callee,q8 ρ c.args.toList,c.argTypes.toList with
  | .value (.func f),some args,_=>BK P f args h K
  | .value g,some args,_=>wv (ev ρ g) λvg=>pX .fn vg λfv=>Dm P fv args ty h K
  | .invoke r name,some args,_=>wv (ev ρ r) λvr=>Ch P vr name args ty h K
  | .builtin .append,some [.slice sa sn sc,.slice xa xn xc],[t,t']=>match P.underlying t with
   | some (.slice e)=>match P.info? e with
    | some te=>match te.zero with
     | some z=>gQ (Nat.beq t t'&&z.cells.size==te.size&&Nat.blt 0 te.size) (App ⟨sa,sn,sc⟩ te.size te.bytes e z.cells.toList ⟨xa,xn,xc⟩ h λs h'=>K (.slice s.a s.len s.cap) h')
     | none=>False
    | none=>False
   | _=>False
  | .builtin .delete,some [.map m,.int k' n],t::_=>sv P t λki c=>if ki=k' then mL ki c m n h λh'=>K (.tuple #[]) h' else False
  | .builtin .append,some [.slice sa sn sc,.int .i64 n],[t,t']=>match P.underlying t,P.underlying t' with
   | some (.slice e),some (.int _)=>match P.info? e with
    | some te=>match te.zero with
     | some z=>gQ (z.cells.size==te.size&&Nat.blt 0 te.size) (qO ⟨sa,sn,sc⟩ te.size te.bytes e z.cells.toList n h λs h'=>K (.slice s.a s.len s.cap) h')
     | none=>False
    | none=>False
   | _,_=>False
  | .builtin .copy,some [.slice da dn dc,.slice xa xn xc],t::_=>match P.underlying t with
   | some (.slice e)=>match P.info? e with
    | some te=>uA ⟨da,dn,dc⟩ te.size ⟨xa,xn,xc⟩ h λz h'=>K (.int .i64 z) h'
    | none=>False
   | _=>False
  | .builtin .clear,some [.slice sa sn sc],[t]=>match P.underlying t with
   | some (.slice e)=>match P.info? e with
    | some te=>match te.zero with
     | some z=>gQ (z.cells.size==te.size&&Nat.blt 0 te.size) (CZ ⟨sa,sn,sc⟩ z.cells.toList h λh'=>K (.tuple #[]) h')
     | none=>False
    | none=>False
   | _=>False
  | _,_,_=>False
 | _=>False
def xH (P:Program)(o:Op)(ty:TypeId)(ρ:Env)(h:Hp)(K:Value->Hp->Prop):Prop:=
 bif uH o then qK P o ρ h (λv=>K v h)else eK P o ty ρ h K
theorem Ic:∀{vs:List Value} {A:Prop},yW vs A->A/\∀v∈vs,dM v=true
 | [],A,h=>⟨h,by simp⟩
 | v::vs,A,h=>by
  have h1:dM v=true/\yW vs A:=by cases v<;>first|exact h.elim|exact⟨rfl,h⟩
  obtain⟨b,d⟩:=Ic h1.2;exact⟨b,λu a=>by
   rcases zT.1 a with rfl|a
   ·exact h1.1
   ·exact d u a⟩
theorem ZV.refl (w:World):ZV w w:=⟨rfl,rfl,rfl,zC _⟩
theorem ZV.trans {a b c:World}(h:ZV a b)(k:ZV b c):ZV a c:=⟨k.1.trans h.1,k.2.1.trans h.2.1,k.2.2.1.trans h.2.2.1,zI h.2.2.2 k.2.2.2⟩
theorem Vt (h:Hp)(a:Addr)(v:Value):(kr h a v).size=h.size:=by simp[kr]
theorem Fe {P:Program}{w:World}{a:Addr}{v:Value}(ho:dM v=true)(h1:(cell w.heap a).isSome=true)(h2:pc w.heap a=false):(store a v).run P w=.ok () (w.setCell a v):=by
 obtain⟨u,e⟩:=pN.1 h1;have d:w.cell? a=some u:=e;have b:w.frozen? a=false:=h2;cases v<;>simp[dM]at ho<;>simp[store,Sem.run,d,b]
theorem Gn {P:Program}:∀{vs:List Value} {w:World} {a:Addr} {i:Nat} {K:aP},(∀v∈vs,dM v=true)->qJ a w.heap vs i K →
 ∃w',(storeCells a vs i).run P w=.ok () w'/\ZV w w'/\K w'.heap
 | [],w,a,i,K,_,h=>⟨w,by simp[storeCells],.refl _,h⟩
 | v::vs,w,a,i,K,ho,h=>by
  obtain⟨h1,h2,h3⟩:=h;have d:=Fe (P:=P) (ho v aA) h1 h2;obtain⟨w',e,g,m⟩:=Gn (P:=P) (w:=w.setCell (a.add i) v) (λu j=>ho u (by simp[j])) h3;refine⟨w',?_,ZV.trans (b:=w.setCell (a.add i) v) ⟨rfl,rfl,rfl,Nat.le_of_eq (Vt w.heap (a.add i) v).symm⟩ g,m⟩;simp only[storeCells,Sem.run_bind,d,Result.andThen_ok,e]
theorem Κ {P:Program}{vs:List Value}{w:World}{a:Addr}{K:aP}(ho:∀v∈vs,dM v=true)(h:BB a vs w.heap K) :
 ∃w',(storeCells a vs).run P w=.ok () w'/\ZV w w'/\K w'.heap:=by
 refine Gn ho ?_;unfold BB at h;split at h
 ·simpa[qJ,Addr.add_zero']using h
 ·exact h
def Vq (P:Program)(s:Sem Next)(w:World)(K:Value->Hp->Prop):Prop:=
 (∃v w',s.run P w=.ok (.value v) w'/\ZV w w'/\K v w'.heap) ∨
 (∃w',s.run P w=.ok .skip w'/\ZV w w'/\K undef w'.heap) ∨
 (∃f args rs R,s.run P w=.ok (.enter f args) w/\We P f args rs w.heap R/\∀vs h',Sat (iK rs) R vs h'->K (pack rs vs) h')
theorem Vq.upon {P:Program}{o:Oper}{a:Act}{w:World}{K:Value->Hp->Prop}{next:Act->World->Prop}{Q:Exit->Act->World->Prop}
 (h:Vq P (execOp a.eval o) w K) (hn:∀v w',ZV w w'->K v w'.heap->next (a.put o.dst v) w'):o.wp P a w next Q:=by
 unfold Oper.wp;rcases h with⟨v,w',hr,b,hK⟩|⟨w',hr,b,hK⟩|⟨f,args,rs,R,hr,hc,hK⟩
 ·rw[hr];exact hn _ _ b hK
 ·rw[hr];exact hn _ _ b hK
 ·rw[hr];refine(hc w rfl).mono λe w' ⟨b,vs,d,g⟩=>?_;subst d;exact hn _ _ b (hK _ _ g)
theorem GY {P:Program}{f:Nat}(h:HR P f=true)(args:Array Value)(w:World):(callFunc f args).run P w=.ok (.enter f args) w:=by
 unfold HR at h;split at h
 ·rename_i fn hf;simp only[zF,nj,nk]at h;obtain⟨b,a⟩:=h;obtain⟨c,d⟩:=pN.1 a;simp[callFunc,hf,b,d]
 ·cases h
theorem π {P:Program}{f:Nat}{args:List Value}{w:World}{K:Value->Hp->Prop}(h:BK P f args w.heap K):Vq P (callFunc f args.toArray) w K:=by
 unfold BK at h;split at h
 ·split at h
  ·rename_i rs hrs;split at h
   ·rename_i hc;exact .inr (.inr ⟨f,_,rs,_,GY hc _ _,h,λvs j i=>U7 i⟩)
   ·split at h
    ·obtain⟨b,e,a,d,g⟩:=h w rfl;exact .inl ⟨_,e,a,d,g⟩
    ·exact h.elim
  ·exact h.elim
 ·exact h.elim
theorem RW {P:Program}{fv:Fv}{args:List Value}{ty:Nat}{w:World}{K:Value->Hp->Prop}(h:Dm P fv args ty w.heap K) :
 Vq P (callFunc fv.f (fv.first++args.toArray++fv.captured)) w K:=by
 unfold Dm at h;split at h
 ·rename_i rs _;exact .inr (.inr ⟨_,_,rs,_,GY h.1 _ _,h.2,λvs b a=>U7 a⟩)
 ·exact h.elim
theorem SA {P:Program}{v:Value}{name:String}{args:List Value}{ty:Nat}{w:World}{K:Value->Hp->Prop}(h:Ch P v name args ty w.heap K) :
 Vq P (callMethod v name args.toArray) w K:=by
 unfold Ch at h;split at h
 ·rename_i rs _;obtain⟨t,u,f,rfl,a,b,h⟩:=h;refine .inr (.inr ⟨f,_,rs,_,?_,h,λvs e d=>U7 d⟩);simp only[callMethod,Sem.run_bind,run_program,Result.andThen_ok,a,b];simp
 ·exact h.elim
theorem Dg {P:Program}{t:Nat}{K:IntKind->CK->Prop}(h:sv P t K):∃kt et k c,P.underlying t=some (.map kt et)/\P.underlying kt=some (.int k)/\K k c:=by
 unfold sv at h;split at h
 ·split at h
  ·exact⟨_,_,_,_,by assumption,by assumption,h⟩
  ·exact h.elim
 ·exact h.elim
theorem UG (w:World)(o:Obj):ZV w {w with heap:=w.heap.push o}:=⟨rfl,rfl,rfl,by simp⟩
theorem H6 (h:Hp)(r:Nat)(o:Obj):QJ h (h.setIfInBounds r o) r:=⟨by simp,λb a=>by rw[Aq (Ne.symm a)]⟩
theorem JC {es:List MapEntry}{k:IntKind}{c:CK}:∀(l:List (Int×c.T)) (es:List MapEntry) (j:Nat) (n:Int) (x:c.T),
 es.map (λe=>(e.key,e.val))=l.map (λx=>(Value.int k x.1,c.v x.2))->(l.map (·.1)).Nodup->l.findIdx? (λx=>x.1==n)=some j →
 (es.modify j λe=>{e with key:=.int k n,val:=c.v x}).map (λe=>(e.key,e.val))=(l.map λy=>if y.1==n then(n,x)else y).map (λx=>(Value.int k x.1,c.v x.2))
 | [],es,j,n,x,he,hn,hj=>by simp at hj
 | y::l,[],j,n,x,he,hn,hj=>by simp at he
 | y::l,e::es,j,n,x,he,hn,hj=>by
  simp only[zK,List.cons.injEq]at he;simp only[zK,zo]at hn;simp only[xX]at hj;cases hy:y.1==n
  ·rw[hy]at hj;simp only[zc,zz,qQ]at hj;obtain⟨j',hj',rfl⟩:=hj;have:=JC (es:=es) l es j' n x he.2 hn.2 hj';simp only[List.modify_succ_cons,zK,this,hy,he.1];simp
  ·rw[hy]at hj;simp at hj;subst hj;have a:y.1=n:=by simpa using hy
   simp only[List.modify_zero_cons,zK,hy,zV,List.cons.injEq,tU,he.2]
   congr 1
   have:∀z∈l,(z.1==n)=false:=by
    intro z hz;have:z.1≠y.1:=λe=>hn.1 (by rw[←e];exact yn hz);simpa[a]using this
   have e:l=l.map λz=>if z.1==n then(n,x)else z:=by
    conv=>lhs;rw[←xJ l]
    apply kA;intro z hz;simp[this z hz]
   exact e
theorem ι {α:Type}{l:List (Int×α)}{n:Int}{j:Nat}(h:l.findIdx? (λx=>x.1==n)=some j):l.any (λx=>x.1==n)=true:=by
 obtain⟨x,a,rfl⟩:=Uz h;rw[zq];exact⟨x,zE a,by simp⟩
theorem P3 {α:Type}{l:List (Int×α)}{n:Int}(h:l.findIdx? (λx=>x.1==n)=none):l.any (λx=>x.1==n)=false:=by
 rw[wb]at h;rw[np];simpa using h
theorem ib {α:Type}{l:List (Int×α)}{n:Int}{x:α}(hn:(l.map (·.1)).Nodup):((dE l n x).map (·.1)).Nodup:=by
 unfold dE;split
 ·have:(l.map λy=>if y.1==n then(n,x)else y).map (·.1)=l.map (·.1):=by
   rw[kP];apply kA;intro y _;simp only[Function.comp];split
   ·rename_i h;simp at h;exact h.symm
   ·rfl
  rwa [this]
 ·rename_i h;rw[kQ,oO];refine⟨hn,by simp,?_⟩;intro a ha b hb;simp at hb;subst hb;rintro rfl;obtain⟨y,d,rfl⟩:=zD.1 ha;exact h (zq.2 ⟨y,d,by simp⟩)
theorem Wlf {P:Program}{t kt et:Nat}{k:IntKind}{c:CK}(hu:P.underlying t=some (.map kt et))(hk:P.underlying kt=some (.int k)){r:Nat}{l:List (Int×c.T)}{n:Int}{x:c.T}{w:World}
 (hm:dN w.heap r k c l):∃w',(Instr.mapUpdate t (.map (some r)) (.int k n) (c.v x)).run P w=.ok () w'/\ZV w w'/\QJ w.heap w'.heap r/\dN w'.heap r k c (dE l n x):=by
 obtain⟨es,d,z,i,D,F,C⟩:=hm;have B:r<w.heap.size:=(mT.1 z).1;have g:∀o,(w.heap.setIfInBounds r o)[r]?=some o:=λo=>by simp[B]
 cases hf:l.findIdx? (λx=>x.1==n)with
 | some j=>
  obtain⟨y,G,A⟩:=Uz hf;have K:j<l.length:=(cS.1 G).1;have u:es.toList.length=l.length:=by simpa using congrArg List.length i
  have p:j<es.size:=by simp at u;omega
  have s:es[j].key=.int k n:=by
   have:=congrArg (λl=>l[j]?) i;simp only[ze,G,zh]at this;rw[yX,Array.getElem?_eq_getElem p]at this;simp at this;rw[this.1,A]
  refine⟨{w with heap:=w.heap.setIfInBounds r (.map (es.modify j λe=>{e with key:=.int k n,val:=c.v x}) d)},?_,⟨rfl,rfl,rfl,by simp⟩,H6 _ _ _,?_⟩
  ·simp only[Instr.mapUpdate,Sem.run_bind,run_underlying hu,Result.andThen_ok,QT hk,getObj,Sem.run,z,Ky hk i,hf];simp[Array.getElem?_eq_getElem p,s,Instr.keyThatStays,Instr.sameBits,setObj,Sem.run,z]
  ·refine⟨_,d,g _,?_,ib D,?_,?_⟩
   ·rw[BO,JC (es:=[]) l es.toList j n x i D hf];simp[dE,ι hf]
   ·have:(es.modify j λe=>{e with key:=.int k n,val:=c.v x}).toList.map (·.born)=es.toList.map (·.born):=by
     rw[BO];apply zp;intro m;simp only[ze,ur];cases es.toList[m]?<;>simp
     split<;>rfl
    rw[this];exact F
   ·intro e he';have:e.born∈(es.modify j λe=>{e with key:=.int k n,val:=c.v x}).toList.map (·.born):=yn he';have L:(es.modify j λe=>{e with key:=.int k n,val:=c.v x}).toList.map (·.born)=es.toList.map (·.born):=by
     rw[BO];apply zp;intro m;simp only[ze,ur];cases es.toList[m]?<;>simp
     split<;>rfl
    rw[L]at this;obtain⟨J,H,M⟩:=zD.1 this;rw[←M];exact C J H
 | none=>
  refine⟨{w with heap:=w.heap.setIfInBounds r (.map (es.push {key:=.int k n,val:=c.v x,born:=d}) (d+1))},?_,⟨rfl,rfl,rfl,by simp⟩,H6 _ _ _,?_⟩
  ·simp only[Instr.mapUpdate,Sem.run_bind,run_underlying hu,Result.andThen_ok,QT hk,getObj,Sem.run,z,Ky hk i,hf];simp[setObj,Sem.run,z]
  ·refine⟨_,d+1,g _,?_,ib D,?_,?_⟩
   ·simp[dE,P3 hf,i]
   ·simp only[Array.toList_push,kQ,zK,qz,oe];refine⟨F,by simp,?_⟩;intro a ha b hb';simp at hb';subst hb';obtain⟨e,E,rfl⟩:=zD.1 ha;exact C e E
   ·intro e he';simp only[Array.toList_push,zP,zS]at he';rcases he' with h|rfl
    ·have:=C e h;omega
    ·simp
theorem US {k:IntKind}{c:CK}:∀(l:List (Int×c.T)) (es:List MapEntry) (j:Nat) (n:Int),
 es.map (λe=>(e.key,e.val))=l.map (λx=>(Value.int k x.1,c.v x.2))->(l.map (·.1)).Nodup->l.findIdx? (λx=>x.1==n)=some j →
 (es.eraseIdx j).map (λe=>(e.key,e.val))=(cT l n).map (λx=>(Value.int k x.1,c.v x.2))
 | [],es,j,n,he,hn,hj=>by simp at hj
 | y::l,[],j,n,he,hn,hj=>by simp at he
 | y::l,e::es,j,n,he,hn,hj=>by
  simp only[zK,List.cons.injEq]at he;simp only[zK,zo]at hn;simp only[xX]at hj;cases hy:y.1==n
  ·rw[hy]at hj;simp only[zc,zz,qQ]at hj;obtain⟨j',hj',rfl⟩:=hj;have:=US l es j' n he.2 hn.2 hj';simp only[List.eraseIdx_cons_succ,zK,this,cT,ri,hy,he.1];simp
  ·rw[hy]at hj;simp at hj;subst hj;have a:y.1=n:=by simpa using hy
   simp only[List.eraseIdx_zero,List.tail_cons,cT,ri,hy,Bool.not_true,zc,zz,he.2]
   congr 1
   symm
   rw[ov];intro z hz;have:z.1≠y.1:=λe=>hn.1 (by rw[←e];exact yn hz);simpa[a]using this
theorem Ht {α:Type}{l:List (Int×α)}{n:Int}(h:l.findIdx? (λx=>x.1==n)=none):cT l n=l:=by
 rw[wb]at h;unfold cT;rw[ov];intro z hz;have:=h z hz;simpa using this
theorem jU {α:Type}{l:List (Int×α)}{n:Int}(hn:(l.map (·.1)).Nodup):((cT l n).map (·.1)).Nodup:=
 hn.sublist (List.Sublist.map _ sk)
theorem WkK {P:Program}{t kt et ty:Nat}{k:IntKind}{c:CK}(hu:P.underlying t=some (.map kt et))(hk:P.underlying kt=some (.int k)){m:Option Nat}{l:List (Int×c.T)}{n:Int}{w:World}{ats:List Nat}
 (hm:jQ w.heap m k c l):∃w',(Builtin.delete_ (t::ats).toArray ty #[.map m,.int k n]).run P w=.ok (.tuple #[]) w'/\ZV w w'/\(∀r,m=some r->QJ w.heap w'.heap r)/\(m=none->w'.heap=w.heap)/\jQ w'.heap m k c (cT l n):=by
 cases m with
 | none=>
  simp only[jQ]at hm;subst hm;exact⟨w,by simp[Builtin.delete_,run_underlying hu,QT hk],.refl _,λr h=>(by cases h),λ_=>rfl,rfl⟩
 | some r=>
  obtain⟨d,a,i,g,s,y,u⟩:=hm;have p:r<w.heap.size:=(mT.1 i).1;have b:∀o,(w.heap.setIfInBounds r o)[r]?=some o:=λo=>by simp[p]
  cases hf:l.findIdx? (λx=>x.1==n)with
  | some j=>
   refine⟨{w with heap:=w.heap.setIfInBounds r (.map (d.eraseIdxIfInBounds j) a)},?_,⟨rfl,rfl,rfl,by simp⟩,λz h=>(by cases h;exact H6 _ _ _),(λh=>by cases h),?_⟩
   ·simp[Builtin.delete_,run_underlying hu,QT hk,getObj,Sem.run,i,Ky hk g,hf,setObj]
   ·refine⟨_,a,b _,?_,jU s,?_,?_⟩
    ·rw[CJ];exact US l d.toList j n g s hf
    ·rw[CJ];exact y.sublist (List.Sublist.map _ (List.eraseIdx_sublist _ _))
    ·rw[CJ];intro e he';exact u e ((List.eraseIdx_sublist _ _).mem he')
  | none=>
   refine⟨{w with heap:=w.heap.setIfInBounds r (.map d a)},?_,⟨rfl,rfl,rfl,by simp⟩,λz h=>(by cases h;exact H6 _ _ _),(λh=>by cases h),?_⟩
   ·simp[Builtin.delete_,run_underlying hu,QT hk,getObj,Sem.run,i,Ky hk g,hf,setObj]
   ·rw[Ht hf];exact⟨d,a,b _,g,s,y,u⟩
theorem vO {P:Program}{w:World}{sz n:Nat}{s:Sl}{xs:List Value}(hl:xs.length=s.len*sz)(h:Rd w.heap s.a xs)(hn:n=s.len) :
 (Builtin.firstCells sz n (.slice s.a s.len s.cap)).run P w=.ok xs.toArray w:=by
 subst hn;obtain⟨a,len,cap⟩:=s;cases a with
 | none=>simp only[Rd]at h;subst h;simp[Builtin.firstCells]
 | some a=>
  simp only at hl h;simp only[Builtin.firstCells];rw[←hl];have:=run_loadCells_list (P:=P) (w:=w) a xs (λj v b=>h j v b);exact this
theorem VI {z:Array Value}(hz:0<z.size):∀n,Builtin.zeroCells z n=(List.replicate n z.toList).flatten.toArray:=by
 intro n;apply Array.ext';simp only[Builtin.zeroCells,Array.toList_map,Array.toList_range]
 induction n with
 | zero=>simp
 | succ n ih=>
  rw[xr,wH];simp only[vY,List.flatten_nil,km];rw[←ih];rw[Nat.succ_mul,List.range_add,kQ,kP]
  congr 1
  apply List.ext_getElem
  ·simp
  ·intro i h1 h2;simp at h1 h2;simp[vq h1,h1]
theorem JQ (n c:Nat)(h:¬n<=c):Builtin.nextslicecap n c<=2*n:=by
 unfold Builtin.nextslicecap;split
 ·omega
 ·split
  ·omega
  ·have key:∀r c,c<=2*n->(Builtin.growBy n r c)<=2*n:=by
    intro r
    induction r with
    | zero=>intro c hc;simpa[Builtin.growBy]using hc
    | succ r ih=>
     intro c hc;simp only[Builtin.growBy];split
     ·exact hc
     ·exact ih _ O
   exact key _ _ O
theorem Pe {P:Program}{t e ty:Nat}{te:TypeInfo}{z:Value}{s x:Sl}{K:Sl->Hp->Prop}{w:World}(hu:P.underlying t=some (.slice e))(hi:P.info? e=some te)(hz:te.zero=some z)(hzs:z.cells.size=te.size)(hpos:0<te.size)
 (h:App s te.size te.bytes e z.cells.toList x w.heap K) :
 ∃r w',(Builtin.append_ #[t,t] ty #[.slice s.a s.len s.cap,.slice x.a x.len x.cap]).run P w=.ok (.slice (Sl.a r) r.len r.cap) w'/\ZV w w'/\K r w'.heap:=by
 obtain⟨H,G,F,M,N,J,C,W,V,b,d⟩:=h;have u:=vO (P:=P) (n:=s.len) F N rfl;have i:=vO (P:=P) (n:=x.len) M J rfl;by_cases hroom:s.len+x.len<=s.cap
 ·have b:=b hroom;cases hsa:s.a with
  | some a=>
   rw[hsa]at b;obtain⟨w',S,U,E⟩:=Gn (P:=P) C b;rw[hsa]at u;refine⟨⟨some a,s.len+x.len,s.cap⟩,w',?_,U,E⟩;simp[Builtin.append_,run_underlying hu,sizeOf,typeInfo,hi,Builtin.lenOf,hroom,i,S]
  | none=>
   rw[hsa]at b;rw[hsa]at u;refine⟨⟨none,s.len+x.len,s.cap⟩,w,?_,.refl _,b⟩;simp[Builtin.append_,run_underlying hu,sizeOf,typeInfo,hi,Builtin.lenOf,hroom,i]
 ·have d:=d hroom;have j:¬(2^48<Builtin.nextslicecap (s.len+x.len) s.cap*te.bytes):=by
   have:=JQ (s.len+x.len) s.cap hroom;have:Builtin.nextslicecap (s.len+x.len) s.cap*te.bytes<=2*(s.len+x.len)*te.bytes:=lS _ this;rw[xw]at this;omega
  have L:¬(IntKind.i64.max<((s.len+x.len:Nat):Int)):=by
   have:IntKind.i64.max=9223372036854775807:=by decide
   rw[this];omega
  have D:¬(IntKind.i64.max<((s.len:Int)+(x.len:Int))):=by
   have:IntKind.i64.max=9223372036854775807:=by decide
   rw[this];omega
  have A:=VI (z:=z.cells) O;have y:s.cap<s.len+x.len:=by omega
  have g:¬(281474976710656<Builtin.nextslicecap (s.len+x.len) s.cap*te.bytes):=by simpa using j
  let q:=Question.appendCap (s.len+x.len) s.cap e
  let c:=q.cut (w.tape w.drawn q)
  have R:s.len+x.len<=c:=by simp only[c,q,Question.cut];omega
  have E:=d c R;refine⟨⟨some ⟨w.heap.size,0,none⟩,s.len+x.len,c⟩,{w with drawn:=w.drawn+1,heap:=w.heap.push (.cells (H++G++(List.replicate (c-(s.len+x.len)) z.cells.toList).flatten).toArray e (0,0))},?_,⟨rfl,rfl,rfl,by simp⟩,E⟩;have Q:(Question.appendCap (s.len+x.len) s.cap e).forced=false:=rfl;have B:¬(9223372036854775807<(s.len:Int)+(x.len:Int)):=by omega
  have p:=vO (P:=P) (w:=w.drew) (n:=s.len) F (show Rd w.drew.heap s.a H from N) rfl;have m:=vO (P:=P) (w:=w.drew) (n:=x.len) M (show Rd w.drew.heap x.a G from J) rfl;simp[Builtin.append_,run_underlying hu,sizeOf,typeInfo,hi,Builtin.lenOf,hroom,B,Q,g,p,m,zeroValue,hz,A,newRow];refine⟨rfl,?_⟩;unfold World.alloc World.drew;simp[c,q]
theorem MY {P:Program}{t t' e ty:Nat}{te:TypeInfo}{z:Value}{s:Sl}{n:Int}{ki:IntKind}{K:Sl->Hp->Prop}{w:World}(hu:P.underlying t=some (.slice e))(hu':P.underlying t'=some (.int ki))(hi:P.info? e=some te)(hz:te.zero=some z)(hzs:z.cells.size=te.size)(hpos:0<te.size)
 (h:qO s te.size te.bytes e z.cells.toList n w.heap K) :
 ∃r w',(Builtin.append_ #[t,t'] ty #[.slice s.a s.len s.cap,.int .i64 n]).run P w=.ok (.slice (Sl.a r) r.len r.cap) w'/\ZV w w'/\K r w'.heap:=by
 obtain⟨J,V,W,X,M,h5,Z,h7,i,j⟩:=h;obtain⟨n,rfl⟩:=zk J;simp only[dC]at h5 Z h7 i j;have E:=vO (P:=P) (n:=s.len) W X rfl;have R:∀v∈(List.replicate n z.cells.toList).flatten,dM v=true:=by
  intro v G;simp only[List.mem_flatten,AV]at G;obtain⟨l,⟨_,rfl⟩,G⟩:=G;exact M v G
 have y:IntKind.i64.wrap (n:Int)=n:=by unfold IntKind.wrap;simp[IntKind.bits,IntKind.signed];omega
 have D:IntKind.i64.wrap 0=0:=by decide
 have u:=VI (z:=z.cells) O;have C:¬((n:Int)<0):=by omega
 have L:¬((n:Int)*(te.bytes:Int)>2^48):=by
  have:(2:Int)^46<=2^48:=by decide
  omega
 have p:¬(281474976710656<(n:Int)*(te.bytes:Int)):=by simpa using L
 have H:n*te.size=0->(List.replicate n z.cells.toList).flatten=[]:=by
  intro h0;rcases vz.1 h0 with h|h
  ·subst h;simp
  ·omega
 by_cases hroom:s.len+n<=s.cap
 ·have i:=i hroom;cases hsa:s.a with
  | some a=>
   rw[hsa]at i;obtain⟨w',S,io,U⟩:=Gn (P:=P) R i;rw[hsa]at E;refine⟨⟨some a,s.len+n,s.cap⟩,w',?_,io,U⟩;by_cases hn:n*te.size=0
   ·have:=H hn;rw[this]at S;rcases vz.1 hn with hn'|hn'
    ·subst hn';have b:s.len<=s.cap:=by simpa using hroom
     simp[Builtin.append_,run_underlying hu,run_underlying hu',sizeOf,typeInfo,hi,Builtin.lenOf,b,asInt,asIntOf,D,S]
    ·omega
   ·have g:¬n=0:=λe=>hn (by rw[e];simp);have d:¬te.size=0:=by omega
    simp[Builtin.append_,run_underlying hu,run_underlying hu',sizeOf,typeInfo,hi,Builtin.lenOf,hroom,S,asInt,asIntOf,y,C,p,hn,g,d,zeroValue,hz,u]
  | none=>
   rw[hsa]at i;rw[hsa]at E;refine⟨⟨none,s.len+n,s.cap⟩,w,?_,.refl _,i⟩;by_cases hn:n*te.size=0
   ·rcases vz.1 hn with hn'|hn'
    ·subst hn';have b:s.len<=s.cap:=by simpa using hroom
     simp[Builtin.append_,run_underlying hu,run_underlying hu',sizeOf,typeInfo,hi,Builtin.lenOf,b,asInt,asIntOf,D]
    ·omega
   ·have g:¬n=0:=λe=>hn (by rw[e];simp);have d:¬te.size=0:=by omega
    simp[Builtin.append_,run_underlying hu,run_underlying hu',sizeOf,typeInfo,hi,Builtin.lenOf,hroom,asInt,asIntOf,y,C,p,hn,g,d,zeroValue,hz,u]
 ·have j:=j hroom;have B:¬(2^48<Builtin.nextslicecap (s.len+n) s.cap*te.bytes):=by
   have:=JQ (s.len+n) s.cap hroom;have:Builtin.nextslicecap (s.len+n) s.cap*te.bytes<=2*(s.len+n)*te.bytes:=lS _ this;rw[xw]at this;omega
  have m:¬(281474976710656<Builtin.nextslicecap (s.len+n) s.cap*te.bytes):=by simpa using B
  let q:=Question.appendCap (s.len+n) s.cap e
  let c:=q.cut (w.tape w.drawn q)
  have hc:s.len+n<=c:=by simp only[c,q,Question.cut];omega
  have U:=j c hc;refine⟨⟨some ⟨w.heap.size,0,none⟩,s.len+n,c⟩,{w with drawn:=w.drawn+1,heap:=w.heap.push (.cells (V++(List.replicate n z.cells.toList).flatten++(List.replicate (c-(s.len+n)) z.cells.toList).flatten).toArray e (0,0))},?_,⟨rfl,rfl,rfl,by simp⟩,U⟩;have Y:(Question.appendCap (s.len+n) s.cap e).forced=false:=rfl;have Q:¬(9223372036854775807<(s.len:Int)+(n:Int)):=by omega
  have x:=vO (P:=P) (w:=w.drew) (n:=s.len) W (show Rd w.drew.heap s.a V from X) rfl;by_cases hn:n*te.size=0
  ·rcases vz.1 hn with hn'|hn'
   ·subst hn';have b:¬s.len<=s.cap:=by simpa using hroom
    have A:¬(281474976710656<Builtin.nextslicecap s.len s.cap*te.bytes):=by simpa using m
    have N:(Question.appendCap s.len s.cap e).forced=false:=rfl;have F:¬(9223372036854775807<(s.len:Int)):=by omega
    simp[Builtin.append_,run_underlying hu,run_underlying hu',sizeOf,typeInfo,hi,Builtin.lenOf,b,F,N,A,x,zeroValue,hz,u,newRow,asInt,asIntOf,D];refine⟨rfl,?_⟩;unfold World.alloc World.drew;simp[c,q]
   ·omega
  ·have g:¬n=0:=λe=>hn (by rw[e];simp);have d:¬te.size=0:=by omega
   simp[Builtin.append_,run_underlying hu,run_underlying hu',sizeOf,typeInfo,hi,Builtin.lenOf,hroom,Q,Y,m,x,zeroValue,hz,u,newRow,asInt,asIntOf,y,C,p,hn,g,d];refine⟨rfl,?_⟩;unfold World.alloc World.drew;simp[c,q]
theorem Pj {P:Program}{t e ty:Nat}{ats:List TypeId}{te:TypeInfo}{d s:Sl}{K:aN}{w:World}(hu:P.underlying t=some (.slice e))(hi:P.info? e=some te)
 (h:uA d te.size s w.heap K):∃z w',(Builtin.copy_ (t::ats).toArray ty #[.slice d.a d.len d.cap,.slice s.a s.len s.cap]).run P w=.ok (.int .i64 z) w'/\ZV w w'/\K z w'.heap:=by
 obtain⟨r,p,m,B,i⟩:=h;have g:(Builtin.firstCells te.size (min s.len d.len) (.slice s.a s.len s.cap)).run P w=.ok r.toArray w:=by
  obtain⟨a,len,cap⟩:=s;cases a with
  | none=>simp only[Rd]at m;subst m;simp[Builtin.firstCells]
  | some a=>
   simp only at p m;simp only[Builtin.firstCells];rw[←p];exact run_loadCells_list (P:=P) (w:=w) a r (λj v u=>m j v u)
 have b:Nat.min s.len d.len=min s.len d.len:=rfl;cases hda:d.a with
 | none=>
  rw[hda]at i;refine⟨_,w,?_,.refl _,i⟩;simp[Builtin.copy_,run_underlying hu,sizeOf,typeInfo,hi,Builtin.lenOf,g,b,goInt]
 | some a=>
  rw[hda]at i;obtain⟨w',x,y,A⟩:=Gn (P:=P) B i;refine⟨_,w',?_,y,A⟩;simp[Builtin.copy_,run_underlying hu,sizeOf,typeInfo,hi,Builtin.lenOf,g,b,x,goInt]
theorem ψ {P:Program}{t e ty:Nat}{te:TypeInfo}{z:Value}{s:Sl}{K:aP}{w:World}(hu:P.underlying t=some (.slice e))(hi:P.info? e=some te)(hz:te.zero=some z)(hzs:z.cells.size=te.size)(hpos:0<te.size)
 (h:CZ s z.cells.toList w.heap K):∃w',(Builtin.clear_ #[t] ty #[.slice s.a s.len s.cap]).run P w=.ok (.tuple #[]) w'/\ZV w w'/\K w'.heap:=by
 obtain⟨i,h⟩:=h;have d:=VI (z:=z.cells) O;obtain⟨a,len,cap⟩:=s;cases a with
 | none=>exact⟨w,by simp[Builtin.clear_,run_underlying hu],.refl _,h⟩
 | some a=>
  simp only at h;cases len with
  | zero=>
   simp[qJ]at h;exact⟨w,by simp[Builtin.clear_,run_underlying hu],.refl _,h⟩
  | succ n=>
   obtain⟨w',g,j,m⟩:=Gn (P:=P) (λv b=>by
    simp only[List.mem_flatten,AV]at b;obtain⟨l,⟨_,rfl⟩,b⟩:=b;exact i v b) h
   refine⟨w',?_,j,m⟩;simp[Builtin.clear_,run_underlying hu,zeroValue,typeInfo,hi,hz,d,g]
theorem WmL {P:Program}{t len:Nat}{ps:List (Nat×Value)}{K:TypeId->List Value->Prop}(h:A9 P t len ps K):∃e te z cs,P.underlying t=some (.slice e)/\P.info? e=some te/\te.zero=some z/\K e cs ∧
 ((len=0/\ps=[]/\cs=[])\/(len*te.size<=16777216/\0<len*te.size/\z.cells.size=te.size/\sT (λi=>some (i*te.size,te.size)) (List.replicate len z.cells.toList).flatten ps=some cs)):=by
 unfold A9 at h;split at h
 case h_2=>exact h.elim
 rename_i e hu;split at h
 case h_2=>exact h.elim
 rename_i te hi;split at h
 case h_2=>exact h.elim
 rename_i z hz;split at h
 ·exact⟨e,te,z,[],hu,hi,hz,h,.inl ⟨rfl,rfl,rfl⟩⟩
 ·exact h.elim
 ·rw[WH]at h;obtain⟨a,h⟩:=h;simp only[zF,zZ]at a;split at h
  case h_2=>exact h.elim
  rename_i cs hf;exact⟨e,te,z,cs,hu,hi,hz,h,.inr ⟨Nat.le_of_ble_eq_true a.1.1,Nat.blt_eq.mp a.1.2,a.2,hf⟩⟩
theorem L9 {z:Array Value}(hz:0<z.size)(n:Nat):((Array.range (n*z.size)).map (z[· % z.size]!))=(List.replicate n z.toList).flatten.toArray:=VI hz n
theorem Sf {P:Program}{ρ:Env}{K:Value->Hp->Prop}{a:Act}{w:World}(hf:∀x v,ev ρ x=some v->a.eval x=v)(o:Oper)(hk:eK P o.op o.type ρ w.heap K) :
 Vq P (execOp a.eval o) w K:=by
 obtain⟨dst,op,ty,pos,after,guard⟩:=o;simp only at hk;have p:∀{s:Sem Value},(∃v B,s.run P w=.ok v B/\ZV w B/\K v B.heap)->Vq P (do pure (Next.value (←s)):Sem Next) w K:=by
  rintro s ⟨v,B,hv,H,D⟩;exact .inl ⟨v,B,by simp[hv],H,D⟩
 have N:∀{s:Sem Unit},(∃B,s.run P w=.ok () B/\ZV w B/\K undef B.heap)->Vq P (do s;pure Next.skip:Sem Next) w K:=by
  rintro s ⟨B,hv,H,D⟩;exact .inr (.inl ⟨B,by simp[hv],H,D⟩)
 unfold eK at hk;split at hk
 case h_1 t x y=>
  obtain⟨va,J,hk0⟩:=Wr hk;clear hk;obtain⟨vx,hx,hk⟩:=Wr hk0;clear hk0;simp only[execOp,hf _ _ J,hf _ _ hx];split at hk
  ·rename_i ad;cases hraw:xy P t
   case true=>
    rw[hraw]at hk;simp only[cond_true]at hk;rw[WH]at hk;obtain⟨hc,hif,s1,s2,D⟩:=hk;simp only[zF,zZ]at hc;obtain⟨h1,h2⟩:=hc;apply N;have hone:dM vx=true:=by rcases hif with rfl|⟨t',u,rfl⟩<;>rfl
    have F:vx.cells = #[vx]:=by rcases hif with rfl|⟨t',u,rfl⟩<;>rfl
    have C:=Fe (P:=P) (w:=w) hone s1 s2;refine⟨w.setCell ad vx,?_,⟨rfl,rfl,rfl,Nat.le_of_eq (Vt w.heap ad vx).symm⟩,D⟩;have hr':(storeCells ad #[vx].toList).run P w=.ok () (w.setCell ad vx):=by
     simp only[storeCells,Addr.add_zero',Sem.run_bind,C,Result.andThen_ok];rfl
    simp only[Instr.storeAt,Instr.sureAddr,Sem.run_bind,Sem.run_pure,Result.andThen_ok,storeVar,QU h1,h2,F,ne_eq,zz];simpa using hr'
   rw[hraw]at hk;simp only[cond_false]at hk;rw[WH]at hk;obtain⟨hc,hk⟩:=hk;simp only[zF,zZ]at hc;obtain⟨h1,h2⟩:=hc;obtain⟨hk,h3⟩:=Ic hk;apply N;obtain⟨B,C,H,D⟩:=Κ (P:=P) h3 hk;refine⟨B,?_,H,D⟩;simp only[Instr.storeAt,Instr.sureAddr,Sem.run_bind,Sem.run_pure,Result.andThen_ok,storeVar,QU h1,h2,ne_eq,not_true_eq_false,zz];simpa using C
  ·exact hk.elim
 case h_2 e=>
  split at hk
  case h_2=>exact hk.elim
  rename_i Q M;split at hk
  case h_2=>exact hk.elim
  rename_i z V;apply p;refine⟨_,_,?_,UG _ _,hk⟩;simp[Instr.alloc,VH M V,newVar,newRow,newObj,Sem.run]
 case h_3 e x=>
  obtain⟨v,hv,hk⟩:=Wr hk;simp only[execOp,hf _ _ hv];apply p;cases hraw:xy P e
  case true=>
   rw[hraw]at hk;simp only[cond_true]at hk;have F:v.cells = #[v]:=by rcases hk.1 with rfl|⟨t',u,rfl⟩<;>rfl
   refine⟨_,_,?_,UG _ _,hk.2⟩;simp[Instr.box,newVar,newRow,newObj,Sem.run,F]
  rw[hraw]at hk;refine⟨_,_,?_,UG _ _,hk⟩;simp[Instr.box,newVar,newRow,newObj,Sem.run]
 case h_4 t len ps=>
  split at hk
  case h_2=>exact hk.elim
  rename_i vs hps;have L:=V4 hf hps;have d:ps.map (λ(i,x)=>(i,a.eval x))=vs.toArray:=by apply Array.ext';simpa using L
  obtain⟨e,Q,z,cs,E,M,V,hk,hcase⟩:=WmL hk;simp only[execOp,d];apply p;refine⟨_,_,?_,UG _ _,hk⟩;rcases hcase with⟨rfl,rfl,rfl⟩|⟨hle,Z,hzs,hfl⟩
  ·simp only[Instr.buildSlice,Sem.run_bind,run_underlying E,Result.andThen_ok,sizeOf,V7 M,Sem.run_pure,vC];simp[Instr.fill,newRow,newObj,Sem.run,Array.range_zero']
  have hts:0<Q.size:=Nat.pos_of_mul_pos_left Z;have hfill:=UQ _ _ _ _ hfl;have X:=L9 (z:=z.cells) O len;rw[hzs]at X;have hne:¬(len*Q.size=0):=by omega
  have hle':¬(len*Q.size>2^24):=by
   have:(2:Nat)^24=16777216:=by decide
   omega
  simp only[Instr.buildSlice,Sem.run_bind,run_underlying E,Result.andThen_ok,sizeOf,V7 M,Sem.run_pure,hle',zz,hne,VH M V,X,hzs,hfill,newRow,newObj,Sem.run]
 case h_5 t r=>
  split at hk
  ·apply p;refine⟨_,_,?_,UG _ _,hk⟩;simp[Instr.makeMap,newObj,Sem.run]
  ·exact hk.elim
 case h_6 t l c=>
  obtain⟨vl,hl,hk⟩:=Wr hk;obtain⟨vc,hc,hk⟩:=Wr hk;simp only[execOp,hf _ _ hl,hf _ _ hc];split at hk
  case h_2=>exact hk.elim
  rename_i e n m E _;split at hk
  case h_2=>exact hk.elim
  rename_i Q M;split at hk
  case h_2=>exact hk.elim
  rename_i z V;rw[WH]at hk;obtain⟨j,h0,h1,h2,h3,hk⟩:=hk;simp only[zF,zZ]at j;have Z:0<Q.size:=Nat.blt_eq.mp j.2;apply p;refine⟨_,_,?_,UG _ _,hk⟩;have hwn:IntKind.i64.wrap n=n:=by unfold IntKind.wrap;simp[IntKind.bits,IntKind.signed];omega
  have hwm:IntKind.i64.wrap m=m:=by unfold IntKind.wrap;simp[IntKind.bits,IntKind.signed];omega
  have hbig:¬((Q.bytes:Int)*m>2^48):=by
   have:(2:Int)^46<=2^48:=by decide
   omega
  have hm0:¬m<0:=by omega
  have hn0:¬n<0:=by omega
  have hnm:¬n>m:=by omega
  have hnm':¬m<n:=by omega
  have X:=L9 (z:=z.cells) O m.toNat;have hrz2:Array.map (λx=>z.cells[x%z.cells.size]!) (Array.range (m.toNat*Q.size))=(List.replicate m.toNat z.cells.toList).flatten.toArray:=by rw[←j.1];exact X
  have S:¬(281474976710656<(Q.bytes:Int)*m):=by simpa using hbig
  by_cases hz0:m.toNat*Q.size=0
  ·have hmz:m.toNat=0:=by
    rcases vz.1 hz0 with h|h
    ·exact h
    ·omega
   simp[Instr.makeSlice,run_underlying E,V7 M,asInt,asIntOf,hwn,hwm,S,hm0,hn0,hnm,hnm',askRoom,mark,sizeOf,hmz,newRow];rw[show Array.range 0 = #[]from rfl];simp
  ·simp[Instr.makeSlice,run_underlying E,V7 M,asInt,asIntOf,hwn,hwm,S,hm0,hn0,hnm,hnm',askRoom,mark,sizeOf,hz0,VH M V,newRow,hrz2];intro _;rfl
 case h_7 t x=>
  obtain⟨v,hv,G⟩:=Wr hk;obtain⟨kt,et,ki,c,E,W,R⟩:=Dg G;clear hk G;simp only[execOp,hf _ _ hv];split at R
  case h_2=>exact R.elim
  rename_i m;apply p;obtain⟨l,hm,D⟩:=R;cases m with
  | none=>
   refine⟨_,{w with heap:=w.heap.push (.mapIter none 0 #[] 0)},?_,UG _ _,D _ aA (λb hb=>by simp[yE,xV hb]) ?_⟩
   ·simp[Instr.range,run_underlying E,newObj,Sem.run]
   ·simp only[jQ]at hm;exact⟨hm,hm,rfl,0,#[],0,by simp⟩
  | some b=>
   obtain⟨es,clk,C,he,hn,hp,hb⟩:=hm;have hlt:b<w.heap.size:=(mT.1 C).1;refine⟨_,{w with heap:=w.heap.push (.mapIter (some b) clk #[] clk)},?_,UG _ _,D _ aA (λb hb=>by simp[yE,xV hb]) ?_⟩
   ·simp[Instr.range,run_underlying E,newObj,getObj,Sem.run,C]
   ·exact⟨es,clk,#[],by simp,by simp[yE,xV hlt,C],he,hn,hp,hb,by rw[ov.2 (λe _=>by simp)];exact he,λx hx=>by cases hx⟩
 case h_8 t m k x=>
  obtain⟨vm,hm,G⟩:=Wr hk;obtain⟨vk,hkk,R⟩:=Wr G;obtain⟨vx,hx,hk3⟩:=Wr R;obtain⟨kt,et,ki,c,E,W,U⟩:=Dg hk3;clear hk G R hk3;simp only[execOp,hf _ _ hm,hf _ _ hkk,hf _ _ hx];split at U
  ·split at U
   ·rename_i e;subst e;obtain⟨x,rfl,r,l,rfl,hl,D⟩:=UC U;apply N;obtain⟨B,C,H,ho,hl'⟩:=Wlf (P:=P) E W (x:=x) hl;exact⟨B,C,H,D _ ho hl'⟩
   ·exact U.elim
  ·exact U.elim
 case h_9 c=>
  obtain⟨callee,A,ats⟩:=c;simp only at hk;split at hk
  ·rename_i f args' J;have L:=Z7 hf J;have d:A.map a.eval=args'.toArray:=by apply Array.ext';simpa using L
   have:=π hk;simpa[execOp,resolve,d,Act.eval,Deferred.ofValue,invoke]using this
  ·rename_i g args' _ J;obtain⟨vg,hg,hk⟩:=Wr hk;obtain⟨fv,rfl,hk⟩:=UC hk;have L:=Z7 hf J;have d:A.map a.eval=args'.toArray:=by apply Array.ext';simpa using L
   have:=RW hk;simpa[execOp,resolve,d,hf _ _ hg,CK.v,Deferred.ofValue,invoke]using this
  ·rename_i r name args' J;obtain⟨vr,C,hk⟩:=Wr hk;have L:=Z7 hf J;have d:A.map a.eval=args'.toArray:=by apply Array.ext';simpa using L
   have:=SA hk;simpa[execOp,resolve,d,hf _ _ C,invoke]using this
  ·rename_i sa sn sc xa xn xc t t' J ht;have L:=Z7 hf J;have d:A.map a.eval = #[.slice sa sn sc,.slice xa xn xc]:=by apply Array.ext';simpa using L
   have Y:ats = #[t,t']:=by apply Array.ext';simpa using ht
   subst Y;split at hk
   case h_2=>exact hk.elim
   rename_i e E;split at hk
   case h_2=>exact hk.elim
   rename_i Q M;split at hk
   case h_2=>exact hk.elim
   rename_i z V;rw[WH]at hk;obtain⟨j,hk⟩:=hk;simp only[zF,zZ]at j;obtain⟨⟨h1,h2⟩,h3⟩:=j;have ett:t=t':=lL h1;subst ett;obtain⟨r,B,C,H,D⟩:=Pe (P:=P) (ty:=ty) E M V h2 (Nat.blt_eq.mp h3) hk;refine .inl ⟨_,B,?_,H,D⟩;simp only at C;simp[execOp,resolve,d,invoke,builtin,C]
  ·rename_i m k' n t ats' J ht;have L:=Z7 hf J;have d:A.map a.eval = #[.map m,.int k' n]:=by apply Array.ext';simpa using L
   have Y:ats=(t::ats').toArray:=by apply Array.ext';simpa using ht
   subst Y;obtain⟨kt,et,ki,c,E,W,G⟩:=Dg hk;clear hk;split at G
   ·rename_i e;subst e;obtain⟨l,hl,D⟩:=G;obtain⟨B,C,H,h1,h2,h3⟩:=WkK (P:=P) (ty:=ty) (ats:=ats') E W (n:=n) hl;refine .inl ⟨_,B,?_,H,D _ h1 h2 h3⟩;simp[execOp,resolve,d,invoke,builtin,C]
   ·exact G.elim
  ·rename_i sa sn sc n t t' J ht;have L:=Z7 hf J;have d:A.map a.eval = #[.slice sa sn sc,.int .i64 n]:=by apply Array.ext';simpa using L
   have Y:ats = #[t,t']:=by apply Array.ext';simpa using ht
   subst Y;split at hk
   case h_2=>exact hk.elim
   rename_i e ki E hu';split at hk
   case h_2=>exact hk.elim
   rename_i Q M;split at hk
   case h_2=>exact hk.elim
   rename_i z V;rw[WH]at hk;obtain⟨j,hk⟩:=hk;simp only[zF,zZ]at j;obtain⟨r,B,C,H,D⟩:=MY (P:=P) (ty:=ty) E hu' M V j.1 (Nat.blt_eq.mp j.2) hk;refine .inl ⟨_,B,?_,H,D⟩;simp only at C;simp[execOp,resolve,d,invoke,builtin,C]
  ·rename_i da dn dc xa xn xc t ats' J ht;have L:=Z7 hf J;have d:A.map a.eval = #[.slice da dn dc,.slice xa xn xc]:=by apply Array.ext';simpa using L
   have Y:ats=(t::ats').toArray:=by apply Array.ext';simpa using ht
   subst Y;split at hk
   case h_2=>exact hk.elim
   rename_i e E;split at hk
   case h_2=>exact hk.elim
   rename_i Q M;obtain⟨r,B,C,H,D⟩:=Pj (P:=P) (ty:=ty) (ats:=ats') E M hk;refine .inl ⟨_,B,?_,H,D⟩;simp only at C;simp[execOp,resolve,d,invoke,builtin,C]
  ·rename_i sa sn sc t J ht;have L:=Z7 hf J;have d:A.map a.eval = #[.slice sa sn sc]:=by apply Array.ext';simpa using L
   have Y:ats = #[t]:=by apply Array.ext';simpa using ht
   subst Y;split at hk
   case h_2=>exact hk.elim
   rename_i e E;split at hk
   case h_2=>exact hk.elim
   rename_i Q M;split at hk
   case h_2=>exact hk.elim
   rename_i z V;rw[WH]at hk;obtain⟨j,hk⟩:=hk;simp only[zF,zZ]at j;obtain⟨B,C,H,D⟩:=ψ (P:=P) (ty:=ty) E M V j.1 (Nat.blt_eq.mp j.2) hk;refine .inl ⟨_,B,?_,H,D⟩;simp only at C;simp[execOp,resolve,d,invoke,builtin,C]
  ·exact hk.elim
 ·exact hk.elim
theorem IM {k:IntKind}{c:CK}(p:MapEntry->Bool)(q:Int×c.T->Bool):∀(L:List MapEntry) (T:List (Int×c.T)),L.map (λe=>(e.key,e.val))=T.map (λx=>(Value.int k x.1,c.v x.2)) →
 (∀(j:Nat) (e:MapEntry) (y:Int×c.T),L[j]?=some e->T[j]?=some y->p e=q y)->(L.filter p).map (λe=>(e.key,e.val))=(T.filter q).map (λx=>(Value.int k x.1,c.v x.2))
 | [],T,h,_=>by
  cases T with
  | nil=>rfl
  | cons y T=>simp at h
 | e::L,[],h,_=>by simp at h
 | e::L,y::T,h,hpq=>by
  simp only[zK,List.cons.injEq]at h;have h0:=hpq 0 e y rfl rfl;have a:=IM p q L T h.2 (λj d i b g=>hpq (j+1) d i (by simpa using b) (by simpa using g));simp only[ri,h0];cases q y
  ·simpa using a
  ·simp[h.1,a]
theorem It.qp {P:Program}{r:Nat}{k:IntKind}{c:CK}{m:Option Nat}{l todo:List (Int×c.T)}{cur:Option (Int×c.T)}{w:World}(hit:It w.heap r k c m l todo cur)(ty:Nat) :
 (todo=[]/\∃w',(Instr.next (.pointer (some ⟨r,0,none⟩)) false ty).run P w=.ok (.tuple #[.bool false]) w'/\ZV w w'/\w'.heap=w.heap) ∨
 (∃n x w',(n,x)∈todo/\(Instr.next (.pointer (some ⟨r,0,none⟩)) false ty).run P w=.ok (.tuple #[.bool true,.int k n,c.v x]) w'/\ZV w w'/\QJ w.heap w'.heap r ∧
  It w'.heap r k c m l (todo.filter λy=>!(y.1==n)) (some (n,x))):=by
 cases m with
 | none=>
  obtain⟨rfl,rfl,rfl,s,q,y,hr⟩:=hit;exact .inl ⟨rfl,w,by simp[Instr.next,getObj,Sem.run,hr],.refl _,rfl⟩
 | some b=>
  obtain⟨es,clk,seen,hr,hb,he,hn,hp,hlt,htodo,hcur⟩:=hit;have hrlt:r<w.heap.size:=(mT.1 hr).1;have hrb:r≠b:=λe=>by rw[e,hb]at hr;cases hr
  have hchk:¬((!seen.isEmpty && !es.isEmpty&&es.all (·.born≥clk))=true):=by
   intro h;simp only[zF,nj,Array.all_eq_true',zR]at h;obtain⟨⟨_,h2⟩,h3⟩:=h;have h2':es ≠ #[]:=by simpa[Array.isEmpty_iff]using h2
   obtain⟨e,hme⟩:=Array.exists_mem_of_ne_empty es h2';have:=h3 e hme;have:=hlt e (by simpa using hme);omega
  have hold:((es.filter λe=>!seen.contains e.born).filter (·.born<clk))=es.filter λe=>!seen.contains e.born:=by
   rw[Array.filter_eq_self];intro e hme;have:e∈es:=(Array.mem_filter.1 hme).1;simpa using hlt e (by simpa using this)
  have hnew:((es.filter λe=>!seen.contains e.born).filter (·.born≥clk)) = #[]:=by
   rw[Array.filter_eq_empty_iff];intro e hme;have:e∈es:=(Array.mem_filter.1 hme).1;have:=hlt e (by simpa using this);simp;omega
  have hlist:(es.filter λe=>!seen.contains e.born).toList=es.toList.filter λe=>!seen.contains e.born:=Array.toList_filter;have hrun:∀(cand:Array (Option MapEntry)),cand=(if(es.filter λe=>!seen.contains e.born).isEmpty then #[none]else #[])++(es.filter λe=>!seen.contains e.born).map some →
   (Instr.next (.pointer (some ⟨r,0,none⟩)) false ty).run P w=(do
    match cand[←choose (.mapNext cand.size)]? with
    | some (some e)=>do
     setObj r (.mapIter (some b) clk (seen.push e.born) clk)
     pure (.tuple #[.bool true,e.key,e.val])
    | some none=>pure (.tuple #[.bool false])
    | none=>stuck "Next: no such candidate" : Sem Value).run P w := by
   rintro cand rfl;simp only[Instr.next,getObj,Sem.run_bind,Sem.run,hr,Result.andThen_ok,hb,hchk,zz,hold,hnew,Array.append_empty,zc,Sem.run_bind]
   try rfl
  cases htd:todo with
  | nil=>
   left;subst htd;have hnil:(es.filter λe=>!seen.contains e.born) = #[]:=by
    apply Array.ext';rw[hlist];have:=congrArg List.length htodo;simpa using this
   refine⟨rfl,w,?_,.refl _,rfl⟩;rw[hrun #[none] (by rw[hnil];simp)];simp[choose,Sem.run,Question.forced]
  | cons y ys=>
   right;have hlen:(es.filter λe=>!seen.contains e.born).size=todo.length:=by
    rw[←xd,hlist];simpa using congrArg List.length htodo
   have hne:(es.filter λe=>!seen.contains e.born).isEmpty=false:=by
    rw[htd]at hlen;simp only[zQ]at hlen;cases hce:(es.filter λe=>!seen.contains e.born).isEmpty
    ·rfl
    ·rw[Array.isEmpty_iff]at hce;rw[hce]at hlen;simp at hlen
   have key:∀(i:Nat),i<todo.length->∀w1:World,w1.heap=w.heap->ZV w w1->∃n x w',(n,x)∈todo ∧
    ((match ((es.filter λe=>!seen.contains e.born).map some)[i]? with
     | some (some e)=>do
      setObj r (.mapIter (some b) clk (seen.push e.born) clk)
      pure (.tuple #[.bool true,e.key,e.val])
     | some none=>pure (.tuple #[.bool false])
     | none=>stuck "Next: no such candidate" : Sem Value)).run P w1 = .ok (.tuple #[.bool true, .int k n, c.v x]) w' /\ ZV w w' /\ QJ w.heap w'.heap r ∧
    It w'.heap r k c (some b) l (todo.filter λy=>!(y.1==n)) (some (n,x)):=by
    intro i hi w1 hw1 io;have hi':i<(es.filter λe=>!seen.contains e.born).size:=by omega
    let e:=(es.filter λe=>!seen.contains e.born)[i]
    have hei:(es.filter λe=>!seen.contains e.born)[i]?=some e:=by simp[e,hi']
    have hti:(es.toList.filter λe=>!seen.contains e.born)[i]?=some e:=by rw[←hlist,yX];exact hei
    have hty:todo[i]?=some todo[i]:=by simp[hi]
    have hkv:(e.key,e.val)=(Value.int k todo[i].1,c.v todo[i].2):=by
     have:=congrArg (λl=>l[i]?) htodo;simp only[ze,hti,hty,zh,Option.some.injEq]at this;exact this
    simp only[Prod.mk.injEq]at hkv;have hmemF:e∈es.toList.filter λe=>!seen.contains e.born:=zE hti;have hme:e∈es.toList:=(zH.1 hmemF).1;have hns:seen.contains e.born=false:=by simpa using(zH.1 hmemF).2
    refine⟨todo[i].1,todo[i].2,{w1 with heap:=w1.heap.setIfInBounds r (.mapIter (some b) clk (seen.push e.born) clk)},zd _,?_,?_,?_,?_⟩
    ·have hr1:w1.heap[r]?=some (.mapIter (some b) clk seen clk):=by rw[hw1];exact hr
     simp only[Array.getElem?_map,hei,zh,setObj,Sem.run_bind,Sem.run,hr1,Result.andThen_ok,Sem.run_pure,hkv.1,hkv.2]
    ·exact⟨io.1,io.2.1,io.2.2.1,by simp only[Array.size_setIfInBounds];exact io.2.2.2⟩
    ·rw[hw1];exact H6 _ _ _
    ·rw[hw1];refine⟨es,clk,seen.push e.born,by simp[hrlt],?_,he,hn,hp,hlt,?_,λx hx=>?_⟩
     ·rw[Aq hrb];exact hb
     ·-- the rest
      have hinj:∀e'∈es.toList,(e'.born==e.born)=true->e'=e:=by
       intro e' h1 h2;have h2':e'.born=e.born:=by simpa using h2
       obtain⟨p,hp1,jZ⟩:=ve h1;obtain⟨q,hq1,hq2⟩:=ve hme;have hpw:=zy.1 hp;rcases qD p q with h|h|h
       ·have:=hpw p q (by simpa using hp1) (by simpa using hq1) h;simp[jZ,hq2,h2']at this
       ·subst h;rw[←jZ,hq2]
       ·have:=hpw q p (by simpa using hq1) (by simpa using hp1) h;simp[jZ,hq2,h2']at this
      have hf1:(es.toList.filter λe'=>!(seen.push e.born).contains e'.born)=(es.toList.filter λe'=>!seen.contains e'.born).filter λe'=>!(e'.born==e.born):=by
       rw[C2];apply yN;intro e' _;simp[Array.contains_eq_mem,Array.mem_push];rw[Bool.and_comm]
       congr 1
      rw[hf1];refine IM _ _ _ _ htodo λj e' y h1 h2=>?_;have hm':e'∈es.toList:=(zH.1 (zE h1)).1;have hkv':(e'.key,e'.val)=(Value.int k y.1,c.v y.2):=by
       have:=congrArg (λl=>l[j]?) htodo;simp only[ze,h1,h2,zh,Option.some.injEq]at this;exact this
      simp only[Prod.mk.injEq]at hkv'
      congr 1
      rw[mX];constructor
      ·intro hb';have:=hinj e' hm' hb';subst this;have:=hkv'.1.symm.trans hkv.1;simp only[Value.int.injEq,tU]at this;simpa using this
      ·intro hy;have hy':y.1=todo[i].1:=by simpa using hy
       have hkk:e'.key=e.key:=by rw[hkv'.1,hkv.1,hy']
       obtain⟨p,hp1,jZ⟩:=ve hm';obtain⟨q,hq1,hq2⟩:=ve hme;have hll:es.toList.length=l.length:=by simpa using congrArg List.length he
       have hk1:∀(p:Nat) (hp:p<es.toList.length),es.toList[p].key=.int k (l[p]' O).1:=by
        intro p hp;have:=congrArg (λl=>l[p]?) he;simp only[ze,cL hp,cL (show p<l.length by omega),zh,Option.some.injEq,Prod.mk.injEq]at this;exact this.1
       have e1:=hk1 p hp1;have e2:=hk1 q hq1;rw[jZ]at e1;rw[hq2]at e2;rw[hkk,e2]at e1;simp only[Value.int.injEq,tU]at e1;have:p=q:=by
        have hnn:=zy.1 hn;rcases qD p q with h|h|h
        ·exact absurd (by rw[sF,sF];exact e1.symm) (hnn p q aE aE h)
        ·exact h
        ·exact absurd (by rw[sF,sF];exact e1) (hnn q p aE aE h)
       subst this;rw[←jZ,←hq2];simp
     ·cases hx;refine⟨e,hme,by simp,hkv.1,hkv.2⟩
   have hsz:((if(es.filter λe=>!seen.contains e.born).isEmpty then #[none]else #[])++(es.filter λe=>!seen.contains e.born).map some:Array (Option MapEntry))=(es.filter λe=>!seen.contains e.born).map some:=by
    rw[hne];simp
   rw[←htd];rw[hrun _ hsz.symm];have hpos:0<todo.length:=by rw[htd];simp
   simp only[Sem.run_bind,choose,Sem.run,Array.size_map,hlen];cases hfo:(Question.mapNext todo.length).forced
   ·simp only[zc,zz,Result.andThen_ok];exact key _ (by simp only[Question.cut];exact vW _ hpos) _ rfl ⟨rfl,rfl,rfl,zC _⟩
   ·simp only[zV,Result.andThen_ok];exact key 0 hpos w rfl (.refl _)
theorem It.PK {P:Program}{r:Nat}{k:IntKind}{c:CK}{m:Option Nat}{l todo:List (Int×c.T)}{n:Int}{x:c.T}{w:World}(hit:It w.heap r k c m l todo (some (n,x))) :
 (Instr.entry (.pointer (some ⟨r,0,none⟩))).run P w=.ok (.tuple #[.int k n,c.v x]) w:=by
 cases m with
 | none=>obtain⟨_,_,h,_⟩:=hit;cases h
 | some b=>
  obtain⟨A,C,z,G,J,K,L,D,H,u,i⟩:=hit;obtain⟨e,y,d,B,E⟩:=i _ rfl;have g:A.find? (·.born==e.born)=some e:=by
   rw[←Array.find?_toList,List.find?_eq_some_iff_getElem];obtain⟨p,a,jZ⟩:=ve y;refine⟨by simp,p,a,jZ,λj F=>?_⟩;have s:=zy.1 D j p (by simp;simp at a;omega) (by simpa using a) F;rw[sF,sF,jZ]at s;rw[nj];cases hb2:(A.toList[j].born==e.born)
   ·rfl
   ·have:=zZ.1 hb2;omega
  simp[Instr.entry,getObj,Sem.run,G,J,d,g,B,E]
def Ao (k:IntKind)(c:CK)(o:Op)(ρ:Env)(h:Hp)(K:Value->Hp->Prop):Prop:=
 match o with
 | .next x false=>wv (ev ρ x) λv=>match v with
  | .pointer (some a)=>sj k c a h (K (.tuple #[.bool false]) h) λn y h'=>K (.tuple #[.bool true,.int k n,c.v y]) h'
  | _=>False
 | .entry x=>wv (ev ρ x) λv=>match v with
  | .pointer (some a)=>sq k c a h λn y=>K (.tuple #[.int k n,c.v y]) h
  | _=>False
 | _=>False
theorem It.spot {a:Addr}(h:a.off=0):∃s,a=⟨a.block,0,s⟩:=⟨a.spot,by cases a;simp at h;subst h;rfl⟩
theorem WgL {P:Program}{k:IntKind}{c:CK}{ρ:Env}{K:Value->Hp->Prop}{a:Act}{w:World}(hf:∀x v,ev ρ x=some v->a.eval x=v)(o:Oper)(hk:Ao k c o.op ρ w.heap K):Vq P (execOp a.eval o) w K:=by
 obtain⟨z,op,i,pos,u,j⟩:=o;simp only at hk;unfold Ao at hk;split at hk
 ·rename_i x;obtain⟨v,r,hk⟩:=Wr hk;simp only[execOp,hf _ _ r];split at hk
  case h_2=>exact hk.elim
  rename_i ad;obtain⟨p,m,l,e,B,d,C,A⟩:=hk;obtain⟨s,g⟩:=It.spot p;have b:∀w:World,(Instr.next (.pointer (some ad)) false i).run P w=(Instr.next (.pointer (some ⟨ad.block,0,none⟩)) false i).run P w:=by
   intro w;rw[g];rfl
  rcases d.qp (P:=P) i with⟨ht,w',hr,io,hh⟩|⟨n,y,w',hm,hr,io,ho,hi'⟩
  ·exact .inl ⟨.tuple #[.bool false],w',by simp[b,hr],io,by rw[hh];exact C ht⟩
  ·exact .inl ⟨.tuple #[.bool true,.int k n,c.v y],w',by simp[b,hr],io,A n y hm _ ho hi'⟩
 ·rename_i x;obtain⟨v,r,hk⟩:=Wr hk;simp only[execOp,hf _ _ r];split at hk
  case h_2=>exact hk.elim
  rename_i ad;obtain⟨p,m,l,e,n,y,d,D⟩:=hk;obtain⟨s,g⟩:=It.spot p;have b:(Instr.entry (.pointer (some ad))).run P w=(Instr.entry (.pointer (some ⟨ad.block,0,none⟩))).run P w:=by
   rw[g];rfl
  exact .inl ⟨.tuple #[.int k n,c.v y],w,by simp[b,d.PK (P:=P)],.refl _,D⟩
 ·exact hk.elim
structure Fits (N:Nat) (ρ:Env) (a:Act):Prop where
 defers:a.defers=[]
 size:a.tmps.size=N
 at_:∀i v,ρ i=some v->a.tmps[i]?=some v
theorem Fits.ev {N:Nat}{ρ:Env}{a:Act}(h:Fits N ρ a):∀x v,ev ρ x=some v->a.eval x=v:=by
 intro x v hx;cases x with
 | tmp t=>
  have:=h.at_ t v hx;simp[Act.eval,sG,this]
 | const u=>simp only[Vc.ev,Option.some.injEq]at hx;exact hx
 | global g=>simp only[Vc.ev,Option.some.injEq]at hx;exact hx
 | func f=>simp only[Vc.ev,Option.some.injEq]at hx;exact hx
def uB (N:Nat):Option Nat->Bool
 | some d=>Nat.blt d N
 | none=>true
theorem Fits.put {N:Nat}{ρ:Env}{a:Act}(h:Fits N ρ a){d:Option Nat}(hd:uB N d=true)(v:Value):Fits N (ρ.iY d v) (a.put d v):=by
 cases d with
 | none=>exact h
 | some d=>
  have g:d<N:=Nat.blt_eq.mp hd;refine⟨h.defers,by simp[Act.put,h.size],λi u b=>?_⟩;simp only[Env.iY,Env.put]at b;cases hi:Nat.beq i d
  ·rw[hi]at b;have j:i≠d:=λe=>by subst e;simp at hi
   simp only[Act.put];rw[Aq (Ne.symm j)];exact h.at_ i u b
  ·rw[hi]at b;have e:i=d:=lL hi;subst e;simp only[cond_true,Option.some.injEq]at b;subst b;simp[Act.put,h.size,g]
theorem Fits.weaken {N:Nat}{ρ ρ':Env}{a:Act}(h:Fits N ρ a)(hw:∀i v,ρ' i=some v->ρ i=some v):Fits N ρ' a:=
 ⟨h.defers,h.size,λi v b=>h.at_ i v (hw i v b)⟩
theorem Be (ρ:Env)(ds:List Nat):∀i v,ρ.fB ds i=some v->ρ i=some v:=by
 intro i v h;simp only[Env.fB]at h;cases hc:ds.contains i<;>rw[hc]at h<;>simp at h
 exact h
theorem Fits.lit {N:Nat}{ρ:Env}{a:Act}(h:Fits N ρ a){c:Nat}{b b':Bool}(hc:ρ c=some (.bool b))(e:b=b'):Fits N (ρ.put c (.bool b')) a:=by
 subst e;refine h.weaken λi v d=>?_;simp only[Env.put]at d;cases hi:Nat.beq i c
 ·rw[hi]at d;exact d
 ·rw[hi]at d;have e:i=c:=lL hi;subst e;rw[hc];exact d
def pV (ops:Array Oper)(o:Oper)(ρ:Env):Bool:=
 match o.guard with
 | none=>true
 | some (j,want)=>match (ops[j]?).bind (·.dst)with
  | some c=>match ρ c with
   | some (.bool b)=>b==want
   | _=>false
  | none=>false
def tN (ops:Array Oper)(o:Oper)(ρ:Env):Bool:=
 match o.guard with
 | none=>false
 | some (j,want)=>match (ops[j]?).bind (·.dst)with
  | some c=>match ρ c with
   | some (.bool b)=>!(b==want)
   | some (.tuple _)=>true
   | _=>false
  | none=>false
theorem Qe {N:Nat}{ops:Array Oper}{o:Oper}{ρ:Env}{a:Act}(hf:Fits N ρ a)(h:pV ops o ρ=true):Region.wanted o (yielded ops a.tmps)=true:=by
 unfold pV at h;unfold Region.wanted;cases hg:o.guard with
 | none=>rfl
 | some jw=>
  obtain⟨j,d⟩:=jw;rw[hg]at h;simp only at h ⊢;cases hc:(ops[j]?).bind (·.dst)with
  | none=>rw[hc]at h;cases h
  | some c=>
   rw[hc]at h;simp only at h;split at h
   ·rename_i b hb;have:=hf.at_ c _ hb;simp only[yielded,hc,yZ,this];simpa using h
   ·cases h
theorem VM {N:Nat}{ops:Array Oper}{o:Oper}{ρ:Env}{a:Act}(hf:Fits N ρ a)(h:tN ops o ρ=true):Region.wanted o (yielded ops a.tmps)=false:=by
 unfold tN at h;unfold Region.wanted;cases hg:o.guard with
 | none=>rw[hg]at h;cases h
 | some jw=>
  obtain⟨j,d⟩:=jw;rw[hg]at h;simp only at h ⊢;cases hc:(ops[j]?).bind (·.dst)with
  | none=>rw[hc]at h;cases h
  | some c=>
   rw[hc]at h;simp only at h;split at h
   ·rename_i b hb;have:=hf.at_ c _ hb;simp only[yielded,hc,yZ,this];simpa using h
   ·rename_i b hb;have:=hf.at_ c _ hb;simp only[yielded,hc,yZ,this];rfl
   ·cases h
def GG (N:Nat)(ops:Array Oper):List Oper->Env->Bool
 | [],_=>true
 | o::os,ρ=>tN ops o ρ&&(uB N o.dst&&GG N ops os (ρ.iY o.dst undef))
theorem Mq {P:Program}{N:Nat}{ops:Array Oper}{Q:Exit->Act->World->Prop}{tail:List Oper}{w:World}:∀{os:List Oper} {ρ:Env} {a:Act},GG N ops os ρ=true->Fits N ρ a →
 (∀a',Fits N (ρ.fB (os.filterMap (·.dst))) a'->wpList P ops Q tail a' w)->wpList P ops Q (os++tail) a w
 | [],ρ,a,_,hf,h=>h a (hf.weaken (Be _ _))
 | o::os,ρ,a,hs,hf,h=>by
  simp only[GG,zF]at hs;obtain⟨h1,h2,h3⟩:=hs;have m:=VM hf h1;simp only[lZ,wpList,m];refine Mq h3 (hf.put h2 _) λa' g=>h a' (g.weaken λi v b=>?_);simp only[Env.fB]at b ⊢;cases hc:(List.filterMap (·.dst) (o::os)).contains i
  ·rw[hc]at b;simp only[cond_false]at b;have j:(List.filterMap (·.dst) os).contains i=false:=by
    cases hd:o.dst<;>simp_all
   have e:∀d,o.dst=some d->i≠d:=by
    intro d hd;simp_all
   rw[j];simp only[cond_false];cases hd:o.dst with
   | none=>exact b
   | some d=>
    have:=e d hd;simp only[Env.iY,Env.put];have:Nat.beq i d=false:=by
     cases hb:Nat.beq i d
     ·rfl
     ·exact absurd (lL hb) this
    rw[this];exact b
  ·rw[hc]at b;cases b
theorem Fw {P:Program}{N:Nat}{ops:Array Oper}{Q:Act->Prop}{tail:List Oper}{w:World}:∀{os:List Oper} {ρ:Env} {a:Act},GG N ops os ρ=true->Fits N ρ a →
 (∀a',Fits N (ρ.fB (os.filterMap (·.dst))) a'->wpStill P ops w Q tail a')->wpStill P ops w Q (os++tail) a
 | [],ρ,a,_,hf,h=>h a (hf.weaken (Be _ _))
 | o::os,ρ,a,hs,hf,h=>by
  simp only[GG,zF]at hs;obtain⟨h1,h2,h3⟩:=hs;have m:=VM hf h1;simp only[lZ,wpStill,m];refine Fw h3 (hf.put h2 _) λa' g=>h a' (g.weaken λi v b=>?_);simp only[Env.fB]at b ⊢;cases hc:(List.filterMap (·.dst) (o::os)).contains i
  ·rw[hc]at b;simp only[cond_false]at b;have j:(List.filterMap (·.dst) os).contains i=false:=by
    cases hd:o.dst<;>simp_all
   have e:∀d,o.dst=some d->i≠d:=by
    intro d hd;simp_all
   rw[j];simp only[cond_false];cases hd:o.dst with
   | none=>exact b
   | some d=>
    have:=e d hd;simp only[Env.iY,Env.put];have:Nat.beq i d=false:=by
     cases hb:Nat.beq i d
     ·rfl
     ·exact absurd (lL hb) this
    rw[this];exact b
  ·rw[hc]at b;cases b
def bY (K:aO)(body:(Bool->Hp->Prop)->Prop):Prop:=∃J:Bool->Hp->Prop,(∀r h,J r h->K r h)/\body J
theorem bY.intro {K:aO}{body:(Bool->Hp->Prop)->Prop}(h:body K):bY K body:=⟨K,λ_ _ h=>h,h⟩
inductive RI where
 | op
 | it (k:IntKind) (c:CK)
 | dA (and:Bool) (n:Nat) (inner:List RI)
def Cj (b:Bool):Operand->Bool
 | .const (.bool b')=>b'==b
 | _=>false
def H5 (ρ:Env)(x:Operand)(K:Bool->Prop):Prop:=match ev ρ x with
 | some (.bool r)=>K r
 | _=>False
def tP (ρ:Env)(c:Nat)(b:Bool):Bool:=match ρ c with
 | some (.bool b')=>b'==b
 | _=>false
def fS (P:Program)(N:Nat)(ops:Array Oper):Nat->List RI->List Oper->Env->Hp->(Env->Hp->Prop)->Prop
 | 0,_,_,_,_,_=>False
 | _+1,[],[],ρ,h,K=>K ρ h
 | n+1,.op::hs,o::os,ρ,h,K=>gQ (pV ops o ρ&&uB N o.dst) (xH P o.op o.type ρ h λv h'=>fS P N ops n hs os (ρ.iY o.dst v) h' K)
 | n+1,.it ki c::hs,o::os,ρ,h,K=>gQ (pV ops o ρ&&uB N o.dst) (Ao ki c o.op ρ h λv h'=>fS P N ops n hs os (ρ.iY o.dst v) h' K)
 | n+1,.dA and m inner::hs,os,ρ,h,K=>
  match os.drop m with
  | pk::rest=>match pk.op,pk.dst with
   | .pick (.tmp c) x y,some d=>match ρ c with
    | some (.bool b)=>gQ (Nat.blt d N&&(Cj (!and) (bif and then y else x)&&(pV ops pk (ρ.fB ((os.take m).filterMap (·.dst)))&&(tP ((ρ.put c (.bool (!and))).fB ((os.take m).filterMap (·.dst))) c (!and)&&GG N ops (os.take m) (ρ.put c (.bool (!and)))))))
     (bY (λr h'=>fS P N ops n hs rest ((ρ.fB ((os.take m).filterMap (·.dst))).put d (.bool r)) h' K) λJ=>
      bif and then If b (fS P N ops n inner (os.take m) (ρ.put c (.bool true)) h λρ' h'=>gQ (pV ops pk ρ'&&tP ρ' c true) (H5 ρ' x λr=>J r h')) (J false h)
      else If b (J true h) (fS P N ops n inner (os.take m) (ρ.put c (.bool false)) h λρ' h'=>gQ (pV ops pk ρ'&&tP ρ' c false) (H5 ρ' y λr=>J r h')))
    | _=>False
   | _,_=>False
  | []=>False
 | _,_,_,_,_,_=>False
theorem I9 {P:Program}{ρ:Env}{K:Value->Hp->Prop}{a:Act}{w:World}(hf:∀x v,ev ρ x=some v->a.eval x=v)(o:Oper)(hk:xH P o.op o.type ρ w.heap K) :
 Vq P (execOp a.eval o) w K:=by
 unfold xH at hk;cases hq:uH o.op
 ·rw[hq]at hk;exact Sf hf o hk
 ·rw[hq]at hk;obtain⟨v,b,d⟩:=yH hf o hk;exact .inl ⟨v,w,b,.refl _,d⟩
theorem UR {ρ:Env}{x:Operand}{K:Bool->Prop}(h:H5 ρ x K):∃r,ev ρ x=some (.bool r)/\K r:=by
 unfold H5 at h;split at h
 ·exact⟨_,by assumption,h⟩
 ·exact h.elim
theorem LI {b:Bool}{x:Operand}(h:Cj b x=true)(ρ:Operand->Value)(hc:∀v,ρ (.const v)=v):ρ x=.bool b:=by
 unfold Cj at h;split at h
 ·rw[hc];simp at h;rw[h]
 ·cases h
theorem Pn {P:Program}{a:Act}{w:World}{o:Oper}{c x y:Operand}{b r:Bool}{K:Value->Hp->Prop}(ho:o.op=.pick c x y)(hc:a.eval c=.bool b)(hr:a.eval (bif b then x else y)=.bool r)(hK:K (.bool r) w.heap) :
 Vq P (execOp a.eval o) w K:=by
 obtain⟨g,op,i,pos,e,d⟩:=o;simp only at ho;subst ho;refine .inl ⟨_,w,?_,.refl _,hK⟩;cases b<;>simp at hr<;>simp[execOp,hc,asBool,hr]
def U1 (os:List Oper)(ρ ρ':Env):Prop:=∀i,(os.filterMap (·.dst)).contains i=false->∀v,ρ i=some v->ρ' i=some v
theorem U1.cons {o:Oper}{os:List Oper}{ρ ρ':Env}{v:Value}(h:U1 os (ρ.iY o.dst v) ρ'):U1 (o::os) ρ ρ':=by
 intro i hi u hu;cases hd:o.dst with
 | none=>rw[hd]at h;exact h i (by simpa[hd]using hi) u hu
 | some d=>
  rw[hd]at h;simp[hd]at hi;refine h i (by simpa using hi.2) u ?_;simp only[Env.iY,Env.put];have:Nat.beq i d=false:=by
   cases hb:Nat.beq i d
   ·rfl
   ·exact absurd (lL hb) hi.1
  rw[this];exact hu
theorem U1.dA {os rest:List Oper}{pk:Oper}{m d:Nat}{ρ ρ':Env}{r:Bool}(hd:pk.dst=some d)(hdrop:os.drop m=pk::rest)(h:U1 rest ((ρ.fB ((os.take m).filterMap (·.dst))).put d (.bool r)) ρ'):U1 os ρ ρ':=by
 intro i hi u hu;rw[←nS m os,hdrop,vw,BZ,hd]at hi;simp only[sQ,zP,zT,decide_eq_false_iff_not,not_or]at hi;refine h i (by simpa using hi.2.2) u ?_;simp only[Env.put,Env.fB];have:Nat.beq i d=false:=by
  cases hb:Nat.beq i d
  ·rfl
  ·exact absurd (lL hb) hi.2.1
 rw[this];have a:((os.take m).filterMap (·.dst)).contains i=false:=by simpa using hi.1
 rw[a];exact hu
theorem Fits.AL {N:Nat}{os:List Oper}{ρ ρ':Env}{a:Act}{c:Nat}{b b':Bool}(h:Fits N ρ' a)(hc:ρ c=some (.bool b))(e:b=b')(k:U1 os (ρ.put c (.bool b')) ρ'):Fits N (ρ.fB (os.filterMap (·.dst))) a:=by
 refine h.weaken λi v d=>?_;simp only[Env.fB]at d;cases hci:(os.filterMap (·.dst)).contains i
 ·rw[hci]at d;refine k i hci v ?_;simp only[Env.put];cases hb:Nat.beq i c
  ·exact d
  ·have g:i=c:=lL hb;subst g;simp only[cond_false]at d;rw[hc]at d;simp only[cond_true];rw[←e];exact d
 ·rw[hci]at d;cases d
theorem AS {ρ:Env}{c:Nat}{b:Bool}(h:tP ρ c b=true):ρ c=some (.bool b):=by
 unfold tP at h;split at h
 ·rename_i b' hb;simp at h;rw[hb,h]
 ·cases h
theorem Vi {P:Program}{N:Nat}{ops:Array Oper}{Q:Exit->Act->World->Prop}:∀(n:Nat) {hs:List RI} {os:List Oper} {tail:List Oper} {ρ:Env} {a:Act} {w:World} {K:Env->Hp->Prop},
 fS P N ops n hs os ρ w.heap K->Fits N ρ a->(∀ρ' a' w',Fits N ρ' a'->ZV w w'->U1 os ρ ρ'->K ρ' w'.heap->wpList P ops Q tail a' w')->wpList P ops Q (os++tail) a w
 | 0,_,_,_,_,_,_,_,h,_,_=>(by simp only[fS]at h)
 | n+1,[],[],tail,ρ,a,w,K,h,hf,hK=>by
  simp only[fS]at h;exact hK ρ a w hf (.refl _) (λ_ _ _ h=>h) h
 | n+1,[],o::os,tail,ρ,a,w,K,h,hf,hK=>(by simp only[fS]at h)
 | n+1,.op::hs,[],tail,ρ,a,w,K,h,hf,hK=>(by simp only[fS]at h)
 | n+1,.op::hs,o::os,tail,ρ,a,w,K,h,hf,hK=>by
  simp only[fS]at h;rw[WH]at h;obtain⟨hc,h⟩:=h;simp only[zF]at hc;have H:=Qe hf hc.1;simp only[lZ,wpList,H,zV];refine .inl (Vq.upon (I9 hf.ev o h) λv w' D j=>?_);exact Vi n j (hf.put hc.2 v) λρ' a' A g p B s=>hK ρ' a' A g (D.trans p) B.cons s
 | n+1,.it ki c::hs,[],tail,ρ,a,w,K,h,hf,hK=>(by simp only[fS]at h)
 | n+1,.it ki c::hs,o::os,tail,ρ,a,w,K,h,hf,hK=>by
  simp only[fS]at h;rw[WH]at h;obtain⟨hc,h⟩:=h;simp only[zF]at hc;have H:=Qe hf hc.1;simp only[lZ,wpList,H,zV];refine .inl (Vq.upon (WgL hf.ev o h) λv w' D j=>?_);exact Vi n j (hf.put hc.2 v) λρ' a' A g p B s=>hK ρ' a' A g (D.trans p) B.cons s
 | n+1,.dA and m inner::hs,os,tail,ρ,a,w,K,h,hf,hK=>by
  simp only[fS]at h;split at h
  case h_2=>exact h.elim
  rename_i pk rest hdrop;split at h
  case h_2=>exact h.elim
  rename_i c x y d hop hd;split at h
  case h_2=>exact h.elim
  rename_i b hb;rw[WH]at h;obtain⟨hc,J,hJ,h⟩:=h;simp only[zF]at hc;obtain⟨U,G,W,ab,E⟩:=hc;have ac:uB N pk.dst=true:=by rw[hd];exact U
  have Y:os++tail=os.take m++(pk::rest++tail):=by
   rw[←hdrop,←kF,nS]
  rw[Y];have u:∀(r b':Bool) (z:Operand) a' w',b=b'->(bif b' then x else y)=z->Fits N (ρ.fB ((os.take m).filterMap (·.dst))) a'->ZV w w'->J r w'.heap->Region.wanted pk (yielded ops a'.tmps)=true →
   a'.eval (.tmp c)=.bool b'->a'.eval z=.bool r->wpList P ops Q (pk::rest++tail) a' w':=by
   intro r b' z a' w' e ez g D L H C hez;simp only[lZ,wpList,H,zV];refine .inl (Vq.upon (K:=λv X=>v=.bool r/\X=w'.heap) (Pn hop C (by rw[ez];exact hez) ⟨rfl,rfl⟩) λv A p j=>?_);obtain⟨rfl,hh⟩:=j;have V:=g.put (d:=some d) U (.bool r);rw[hd];have R:=hJ _ _ L;rw[←hh]at R;exact Vi n R V λρ' aa w3 S M B s=>hK ρ' aa w3 S ((D.trans p).trans M) (U1.dA hd hdrop B) s
  have run:∀(b':Bool) (z:Operand),b=b'->(bif b' then x else y)=z →
   fS P N ops n inner (os.take m) (ρ.put c (.bool b')) w.heap (λρ' X=>gQ (pV ops pk ρ'&&tP ρ' c b') (H5 ρ' z λr=>J r X))->wpList P ops Q (os.take m++(pk::rest++tail)) a w:=by
   intro b' z e ez hseg;refine Vi n hseg (hf.lit hb e) λρ' a' w' g D B j=>?_;rw[WH]at j;simp only[zF]at j;obtain⟨⟨hg,Z⟩,j⟩:=j;obtain⟨r,hr,L⟩:=UR j;exact u r b' z a' w' e ez (g.AL hb e B) D L (Qe g hg) (g.ev _ _ (AS Z)) (g.ev _ _ hr)
  have skip:∀(b':Bool),b=b'->b' = !and->J (!and) w.heap->wpList P ops Q (os.take m++(pk::rest++tail)) a w:=by
   intro b' e eb L;subst eb;refine Mq E (hf.lit hb e) λa' g=>?_;have F:Fits N (ρ.fB ((os.take m).filterMap (·.dst))) a':=g.AL (ρ':=(ρ.put c (.bool (!and))).fB ((os.take m).filterMap (·.dst))) hb e (λi hi v hv=>by simp only[Env.fB,hi];exact hv);have C:=g.ev (.tmp c) _ (AS ab);refine u (!and) (!and) (bif (!and)then x else y) a' w e rfl F (.refl _) L (Qe F W) C ?_;refine LI ?_ _ (λv=>rfl);cases and<;>exact G
  cases and
  ·simp only[cond_false]at h;cases b
   ·exact run false y rfl rfl (h.f rfl)
   ·exact skip true rfl rfl (h.t rfl)
  ·simp only[cond_true]at h;cases b
   ·exact skip false rfl rfl (h.f rfl)
   ·exact run true x rfl rfl (h.t rfl)
variable {P:Program}{ops:Array Oper}{Q:Exit->Act->World->Prop}
def xf (ops:Array Oper)(k i:Nat):Bool:=match ops[k]? with
 | none=>false
 | some o=>o.after.toList.any λe=>Region.binds .any e&&Nat.beq e.on i
def TS (S:World->Prop)(C:List Nat)(listed:Array Bool)(w:World):Prop:=S w\/∃k∈C,listed.getD k false=true
def anyS (P:Program)(ops:Array Oper)(Q:Exit->Act->World->Prop)(S:World->Prop)(C:List Nat):Nat->Array Bool->Act->World->Prop
 | 0,listed,a,w=>Region.ready .any ops listed=[]/\Q .normal a w
 | m+1,listed,a,w=>(Region.ready .any ops listed=[]->Q .normal a w) ∧
  ∀i,i∈Region.ready .any ops listed->wpOp P ops Q i (λa' w'=>TS S C (listed.setIfInBounds i true) w'/\anyS P ops Q S C m (listed.setIfInBounds i true) a' w') a w
theorem JH {S:World->Prop}{C:List Nat}:∀(m:Nat) (listed:Array Bool) (a:Act) (w:World),anyS P ops Q S C m listed a w->wpAny P .any ops Q m listed a w
 | 0,_,_,_,h=>h
 | m+1,_,_,_,h=>⟨h.1,λi hi=>wpOp_mono (λ_ _ h'=>JH m _ _ _ h'.2) (h.2 i hi)⟩
theorem TS.out {S:World->Prop}{C:List Nat}{listed:Array Bool}{w:World}(h:TS S C listed w)(hn:∀k∈C,listed.getD k false=false):S w:=by
 rcases h with h|⟨k,hk,hl⟩
 ·exact h
 ·rw[hn k hk]at hl;cases hl
theorem WkP {k i:Nat}{o:Oper}(ho:ops[k]?=some o)(hno:∀e∈o.after,Region.binds .any e=true->e.on≠i):xf ops k i=false:=by
 unfold xf;rw[ho];simp only;rw[np];intro e he hb;simp only[zF]at hb;exact hno e (by simpa using he) hb.1 (lL hb.2)
theorem TS.drop {S:World->Prop}{C:List Nat}{listed:Array Bool}{w:World}{i j:Nat}(hij:i≠j)(hi:∀k∈C,k≠i)(h:TS S C ((listed.setIfInBounds i true).setIfInBounds j true) w):TS S C (listed.setIfInBounds j true) w:=by
 refine h.imp id ?_;rintro⟨k,hk,hl⟩;refine⟨k,hk,?_⟩;rw[Array.setIfInBounds_comm _ _ hij,getD_set_ne false (Ne.symm (hi k hk))]at hl;exact hl
theorem OZ {S T:World->Prop}{C:List Nat}{i:Nat}{oi:Oper}{v:Value}(hi:ops[i]?=some oi)(hsel:∀(j:Nat) (o:Oper) cs b,ops[j]?=some o->o.op≠.select cs b)
 (hQ:∀c a w,Q (.panic c) (a.put oi.dst v) w->Q (.panic c) a w) (hiC:∀k∈C,k≠i) (hT:(∀w,T w)\/((∀w,S w->T w)/\∀k∈C,xf ops k i=true)) :
 ∀(m:Nat) (listed:Array Bool) (a:Act) (w:World),
  (∀j oj,ops[j]?=some oj->j≠i->listed.getD j true=false->(∀e∈oj.after,Region.binds .any e=true->e.on≠i)->oi.apart ops oj=true) →
  i∈Region.ready .any ops listed->((∀w,T w)\/∀k∈C,listed.getD k false=false)->YieldsIf P ops T oi v a->TS S C listed w →
  anyS P ops Q S C m (listed.setIfInBounds i true) (a.put oi.dst v) w->anyS P ops Q S C (m+1) listed a w:=by
 have s:∀{listed:Array Bool} {a:Act} {w:World} {K:Act->World->Prop},((∀w,T w)\/∀k∈C,listed.getD k false=false)->YieldsIf P ops T oi v a->TS S C listed w->K (a.put oi.dst v) w →
  wpOp P ops Q i (λJ D=>TS S C (listed.setIfInBounds i true) D/\K J D) a w:=by
  intro listed a w K g hy hS hK;refine hy.wpOp hi ?_ ⟨?_,hK⟩
  ·rcases hT with hT|⟨hT,_⟩
   ·exact hT w
   ·rcases g with g|g
    ·exact g w
    ·exact hT w (hS.out g)
  ·refine hS.imp id ?_;rintro⟨k,u,hl⟩;exact⟨k,u,by rw[getD_set_ne false (Ne.symm (hiC k u))];exact hl⟩
 intro m
 induction m with
 | zero=>
  intro listed a w _ hr g hy hS H;refine⟨λh=>by rw[h]at hr;simp at hr,λj B=>?_⟩;by_cases hji:j=i
  ·rw[hji];exact s g hy hS H
  ·have p:=ready_mono B hji;rw[H.1]at p;simp at p
 | succ m ih=>
  intro listed a w hfree hr g hy hS H;refine⟨λh=>by rw[h]at hr;simp at hr,λj B=>?_⟩;by_cases hji:j=i
  ·rw[hji];exact s g hy hS H
  ·obtain⟨A,oj,r,y⟩:=mem_ready.1 B;have d:=(mem_ready.1 hr).1;have z:∀e∈oj.after,Region.binds .any e=true->e.on≠i:=by
    intro e he hb heq;have p:=y e he hb;rw[heq]at p;rw[sG]at p d;cases hg:listed[i]? with
    | none=>rw[hg]at p;cases p
    | some b=>rw[hg]at p d;simp only[px]at p d;rw[d]at p;cases p
   have M:=wpOp_putIf r (hfree j oj r hji A z) (λcs b=>hsel i oi cs b hi) (λcs b=>hsel j oj cs b r) hQ hy (H.2 j (ready_mono B hji));refine wpOp_mono (λJ D L=>?_) M;have x:=L.2.1.drop (Ne.symm hji) hiC;refine⟨x,ih _ J D (λk ok u G F E=>?_) (ready_mono hr (Ne.symm hji)) ?_ L.1 x ?_⟩
   ·refine hfree k ok u G ?_ E;by_cases hjk:j=k
    ·rw[←hjk];exact A
    ·rwa [getD_set_ne true hjk]at F
   ·rcases hT with hT|⟨_,hw⟩
    ·exact .inl hT
    refine g.imp id λg k u=>?_;by_cases hjk:j=k
    ·exfalso;have:=hw k u;rw[←hjk,WkP r z]at this;cases this
    ·rw[getD_set_ne false hjk];exact g k u
   ·rw[Array.setIfInBounds_comm _ _ hji];exact L.2.2
theorem Ea {S T:World->Prop}{C:List Nat}{i m:Nat}{oi:Oper}{v:Value}{listed:Array Bool}{a:Act}{w:World}(hi:ops[i]?=some oi)(hs:Region.noSelect ops=true)(hf:Region.free .any ops listed i=true)
 (hr:i∈Region.ready .any ops listed) (hQ:∀c a w,Q (.panic c) (a.put oi.dst v) w->Q (.panic c) a w) (hiC:C.contains i=false)
 (hT:(∀w,T w)\/((∀w,S w->T w)/\∀k∈C,xf ops k i=true)) (hn:(∀w,T w)\/∀k∈C,listed.getD k false=false) (hy:YieldsIf P ops T oi v a) (hS:TS S C listed w)
 (h:anyS P ops Q S C m (listed.setIfInBounds i true) (a.put oi.dst v) w):anyS P ops Q S C (m+1) listed a w:=
 OZ hi (Region.noSelect_spec hs) hQ (λk b e=>by subst e;rw[tL.2 b]at hiC;cases hiC) hT m listed a w (Region.free_spec hi hf) hr hn hy hS h
theorem WkB {S:World->Prop}{C:List Nat}{rs:List Nat}{m:Nat}{listed:Array Bool}{a:Act}{w:World}(hr:Region.ready .any ops listed=rs)(hne:rs≠[])
 (h:∀i∈rs,wpOp P ops Q i (λa' w'=>TS S C (listed.setIfInBounds i true) w'/\anyS P ops Q S C m (listed.setIfInBounds i true) a' w') a w):anyS P ops Q S C (m+1) listed a w:=
 ⟨λb=>absurd (hr▸b) hne,hr▸h⟩
theorem Μ {S:World->Prop}{C:List Nat}{listed:Array Bool}{a:Act}{w:World}(hr:Region.ready .any ops listed=[])(h:Q .normal a w):∀m,anyS P ops Q S C m listed a w
 | 0=>⟨hr,h⟩
 | _+1=>⟨λ_=>h,by rw[hr];simp⟩
theorem U3 {S:World->Prop}{C:List Nat}{id:Nat}{a:Act}{w:World}(hm:P.follows .mixedOrders=true)
 (h:anyS P ops Q S C ops.size (Array.replicate ops.size false) a {w with drawn:=w.drawn+1}):(Code.region id ops true).wp P Q a w:=
 wp_region_any hm (JH _ _ _ _ h)
end Go.Vc
namespace Go.Vc
open Go
def G7 (P:Program):Op->Bool
 | .load _ _=>false
 | .lookup .. => false
 | .typeAssert .. => false
 | .convert s _ _=>match P.underlying s with
  | some (.slice _)=>false
  | _=>true
 | .call c=>match c.callee,c.argTypes.toList with
  | .builtin .len,[t]=>match P.underlying t with
   | some (.map _ _)=>false
   | some _=>true
   | none=>false
  | .builtin .cap,_=>true
  | .builtin .max,_=>true
  | .builtin .min,_=>true
  | _,_=>false
 | o=>uH o
theorem CQ {op:BinOp}{k:IntKind}{x y:Int}{K:Value->Prop}(h:qH op k x y K):∃v,K v/\qH op k x y (· = v):=by
 cases op<;>simp only[qH,Ar,Nz,Nn]at h ⊢
 all_goals first
  | exact⟨_,h,rfl⟩
  | exact⟨_,h.2,h.1,rfl⟩
theorem Gp {op:BinOp}{b:Bool}{K:Value->Prop}(h:od op b K):∃v,K v/\od op b (· = v):=by
 cases op<;>simp only[od]at h ⊢ <;> first|exact h.elim|exact⟨_,h,rfl⟩
theorem Wlp {P:Program}{op:BinOp}{t:Nat}{x y:Value}{K:Value->Prop}(h:mB P op t x y K):∃v,K v/\mB P op t x y (· = v):=by
 unfold mB at h ⊢;split at h
 ·obtain⟨v,a,b⟩:=Gp h;exact⟨v,a,by simp only[*]⟩
 ·obtain⟨v,a,b⟩:=Gp h;exact⟨v,a,by simp only[*]⟩
 ·obtain⟨v,a,b⟩:=Gp h;exact⟨v,a,by simp only[*]⟩
 ·obtain⟨d,h⟩:=h;obtain⟨v,a,b⟩:=Gp h;exact⟨v,a,by simp only[*];trivial⟩
 ·exact h.elim
theorem Sy {P:Program}{op:BinOp}{t:Nat}{x y:Value}{K:Value->Prop}(h:mE P op t x y K):∃v,K v/\mE P op t x y (· = v):=by
 unfold mE at h ⊢;split at h
 ·split at h
  ·obtain⟨v,a,b⟩:=CQ h;exact⟨v,a,by simpa[*]using b⟩
  ·rename_i hne;cases op<;>simp only at h
   all_goals try exact h.elim
   ·obtain⟨v,a,b⟩:=CQ h;exact⟨v,a,by simpa[hne]using b⟩
   ·obtain⟨v,a,b⟩:=CQ h;exact⟨v,a,by simpa[hne]using b⟩
 ·split at h
  ·obtain⟨v,a,b⟩:=Gp h;exact⟨v,a,by simp only[*]⟩
  ·exact h.elim
 ·cases op<;>simp only at h ⊢ <;> first|exact h.elim|exact⟨_,h,rfl⟩
 ·exact h.elim
theorem TI {P:Program}{op:BinOp}{t:Nat}{xs ys:List Value}{K:Value->Prop}(h:oQ P op t xs ys K):∃v,K v/\oQ P op t xs ys (· = v):=by
 unfold oQ at h ⊢;split at h
 case h_3=>exact h.elim
 all_goals
  rename_i hu;rw[WH]at h;obtain⟨a,h⟩:=h;split at h
  case h_2=>exact h.elim
  rename_i b hb;obtain⟨v,d,e⟩:=Gp h;exact⟨v,d,by simp only[hu,WH,hb];exact⟨a,e⟩⟩
theorem Φ {P:Program}{op:BinOp}{t:Nat}{y:Operand}{vx vy:Value}{K:Value->Prop}(h:yc P op t y vx vy K):∃v,K v/\yc P op t y vx vy (· = v):=by
 unfold yc at h ⊢;cases hn:xg y
 ·rw[hn]at h;simp only[cond_false]at h ⊢;split at h
  ·exact TI h
  ·exact Sy h
 ·rw[hn]at h;exact Wlp h
theorem vV {o:Option Value}{K:Value->Prop}(h:wv o K):∃v,K v/\wv o (· = v):=by
 obtain⟨v,rfl,a⟩:=Wr h;exact⟨v,a,rfl⟩
theorem Tl {P:Program}{t off:Nat}{cs:List Value}{K:Value->Prop}(h:vI P t cs off K):∃v,K v/\vI P t cs off (· = v):=by
 unfold vI at h ⊢;split at h
 case h_2=>exact h.elim
 rename_i d ti hu hi;cases hd:UK d
 ·rw[hd]at h;obtain⟨v,a,b⟩:=vV h;exact⟨v,a,by simpa[hd]using b⟩
 ·rw[hd]at h;exact⟨_,h,by simp⟩
theorem WkS {P:Program}{t:Nat}{ps:List (Nat×Value)}{K:Value->Prop}(h:oT P t ps K):∃v,K v/\oT P t ps (· = v):=by
 unfold oT at h ⊢;split at h
 ·split at h
  ·rename_i z hz;have key:∀{ps:List (Nat×Value)} {raw:Nat->Bool} {A:Prop},mQ raw ps A->A/\∀B:Prop,B->mQ raw ps B:=by
    intro ps raw
    induction ps with
    | nil=>intro A h;exact⟨h,λB b=>b⟩
    | cons x ps ih=>
     intro A h;simp only[mQ]at h ⊢;cases hr:raw x.1
     ·rw[hr]at h;exact ih h
     ·rw[hr]at h;simp only[cond_true]at h ⊢;exact⟨(ih h.2).1,λB b=>⟨h.1,(ih h.2).2 B b⟩⟩
   obtain⟨h,a⟩:=key h;split at h
   ·rename_i cs hf;rw[WH]at h;refine⟨_,h.2,?_⟩;simp only[*];refine a _ ?_;rw[WH]
    first|exact⟨h.1,trivial⟩|exact⟨rfl,trivial⟩
   ·exact h.elim
  ·exact h.elim
 ·split at h
  ·split at h
   ·refine⟨_,h,?_⟩;simp only[*]
   ·exact h.elim
  ·exact h.elim
 ·exact h.elim
theorem O3 {P:Program}{t:Nat}{x:Value}{lo hi mx:Option Value}{K:Value->Prop}(h:oH P t x lo hi mx K):∃v,K v/\oH P t x lo hi mx (· = v):=by
 unfold oH at h ⊢;split at h
 case h_2=>exact h.elim
 rename_i e a n c hu;split at h
 case h_2=>exact h.elim
 rename_i ti hi';simp only at h ⊢;split at h
 case h_2=>exact h.elim
 rename_i l hh m hlo hhi hmx;obtain⟨b,d,g,i,j⟩:=h;refine⟨_,j,?_⟩;simp only[hu,hi',hlo,hhi,hmx];exact⟨b,d,g,i,rfl⟩
theorem BY:∀{vs:List Value} {v:Value} {b:Bool} {K:Value->Prop},pT b v vs K->∃z,K z/\pT b v vs (· = z)
 | [],v,b,K,h=>⟨v,by simpa[pT]using h,by simp[pT]⟩
 | u::vs,v,b,K,h=>by
  cases v<;>cases u<;>simp only[pT]at h ⊢ <;> try exact h.elim
  exact BY h
theorem NZ {P:Program}{o:Op}(hp:G7 P o=true){ρ:Env}{h:Hp}{K:Value->Prop}(hk:qK P o ρ h K):∃v,K v/\∀h',qK P o ρ h' (· = v):=by
 unfold qK at hk;split at hk
 case h_1 x=>obtain⟨v,a,e⟩:=vV hk;exact⟨v,a,λ_=>e⟩
 case h_2 x=>obtain⟨v,a,e⟩:=vV hk;exact⟨v,a,λ_=>e⟩
 case h_3 c x y=>
  obtain⟨v,B,hk⟩:=Wr hk;split at hk
  ·obtain⟨u,a,e⟩:=vV hk;exact⟨u,a,λ_=>by simpa only[qK,B,wv]using e⟩
  ·obtain⟨u,a,e⟩:=vV hk;exact⟨u,a,λ_=>by simpa only[qK,B,wv]using e⟩
  ·exact hk.elim
 case h_4=>simp[G7]at hp
 case h_5 x=>
  obtain⟨v,B,hk⟩:=Wr hk;split at hk
  ·obtain⟨E,rfl,w⟩:=hk;exact⟨_,w,λ_=>by simp only[qK,B,wv];exact⟨E,rfl,rfl⟩⟩
  ·exact⟨_,hk,λ_=>by simp only[qK,B,wv]⟩
  ·exact hk.elim
 case h_6 op t x y yt=>
  obtain⟨j,g,hk⟩:=Wr hk;obtain⟨N,M,D⟩:=Wr hk;obtain⟨v,a,e⟩:=Φ D;exact⟨v,a,λ_=>by simpa only[qK,g,M,wv]using e⟩
 case h_7 op t x=>
  obtain⟨j,g,hk⟩:=Wr hk;split at hk
  ·exact⟨_,hk,λ_=>by simp only[qK,g,wv]⟩
  ·exact⟨_,hk,λ_=>by simp only[qK,g,wv,Ar]⟩
  ·exact hk.elim
 case h_8 s d x=>
  obtain⟨j,g,hk⟩:=Wr hk;split at hk
  ·rename_i a e;exact⟨_,hk,λ_=>by simp only[qK,g,wv,a,e,Ar]⟩
  ·rename_i a e;exact⟨_,hk,λ_=>by simp only[qK,g,wv,a,e]⟩
  ·rename_i a e;simp[G7,a]at hp
  ·exact hk.elim
 case h_9 s x f=>
  obtain⟨j,g,hk⟩:=Wr hk;obtain⟨F,H,C,p,hk⟩:=A0 hk;split at hk
  ·rw[WH]at hk;exact⟨_,hk.2,λ_=>by simp only[qK,g,wv,oI,C,p,WH];exact⟨hk.1,trivial⟩⟩
  ·exact hk.elim
 case h_10 s x f=>
  obtain⟨j,g,hk⟩:=Wr hk;obtain⟨F,H,C,p,hk⟩:=A0 hk;split at hk
  ·obtain⟨v,a,e⟩:=Tl hk;exact⟨v,a,λ_=>by simpa only[qK,g,wv,oI,C,p]using e⟩
  ·exact hk.elim
 case h_11 t x i=>
  obtain⟨j,g,hk⟩:=Wr hk;obtain⟨L,A,hk⟩:=Wr hk;split at hk
  ·have r:=(by assumption:P.underlying t=some _);rw[WH]at hk;obtain⟨a,E,rfl,e,z,w⟩:=hk;exact⟨_,w,λ_=>by simp only[qK,g,A,wv,r,WH];exact⟨a,E,rfl,e,z,rfl⟩⟩
  ·have r:=(by assumption:P.underlying t=some _);rw[WH]at hk;obtain⟨a,e,z,w⟩:=hk;exact⟨_,w,λ_=>by simp only[qK,g,A,wv,r,WH];exact⟨a,e,z,rfl⟩⟩
  ·exact hk.elim
 case h_12 t x i=>
  obtain⟨j,g,hk⟩:=Wr hk;obtain⟨L,A,hk⟩:=Wr hk;split at hk
  ·have r:=(by assumption:P.underlying t=some _);obtain⟨b,a,e,w⟩:=hk;exact⟨_,w,λ_=>by simp only[qK,g,A,wv,r];exact⟨b,a,e,rfl⟩⟩
  ·exact hk.elim
 case h_13=>simp[G7]at hp
 case h_14 t i=>
  obtain⟨j,g,hk⟩:=Wr hk;split at hk
  ·obtain⟨v,a,e⟩:=vV hk;exact⟨v,a,λ_=>by simpa only[qK,g,wv]using e⟩
  ·exact hk.elim
 case h_15 fn x y=>
  split at hk
  ·rename_i va vb a e;exact⟨_,hk,λ_=>by simp only[qK,a,e]⟩
  ·exact hk.elim
 case h_16 t ps=>
  split at hk
  ·rename_i vs a;obtain⟨v,e,z⟩:=WkS hk;exact⟨v,e,λ_=>by simpa only[qK,a]using z⟩
  ·exact hk.elim
 case h_17 t x lo A mx=>
  obtain⟨j,g,hk⟩:=Wr hk;split at hk
  ·rename_i l h m a e z;obtain⟨v,J,G⟩:=O3 hk;exact⟨v,J,λ_=>by simpa only[qK,g,wv,a,e,z]using G⟩
  ·exact hk.elim
 case h_18 t x=>
  obtain⟨j,g,hk⟩:=Wr hk;rw[WH]at hk;exact⟨_,hk.2,λ_=>by simp only[qK,g,wv,WH];exact⟨hk.1,trivial⟩⟩
 case h_19=>simp[G7]at hp
 case h_20 c=>
  split at hk
  ·rename_i x t hc ha ht;unfold mO at hk;split at hk
   ·exact⟨_,hk,λ_=>by simp only[qK,hc,ha,ht,mO, *]⟩
   ·exact⟨_,hk,λ_=>by simp only[qK,hc,ha,ht,mO, *]⟩
   ·exact⟨_,hk,λ_=>by simp only[qK,hc,ha,ht,mO, *]⟩
   ·rename_i r;simp only[G7,hc,ht,r]at hp;cases hp
   ·exact hk.elim
  ·rename_i hc ha ht;split at hk
   ·exact⟨_,hk,λ_=>by simp only[qK,hc,ha,ht, *]⟩
   ·exact hk.elim
  ·rename_i hc ha;obtain⟨v,a,e⟩:=BY hk;exact⟨v,a,λ_=>by simpa only[qK,hc,ha]using e⟩
  ·rename_i hc ha;obtain⟨v,a,e⟩:=BY hk;exact⟨v,a,λ_=>by simpa only[qK,hc,ha]using e⟩
  ·exact hk.elim
 ·exact hk.elim
def gT (S:aP)(c:CK)(a:Addr)(K:c.T->Prop):Prop:=∃x,(∀h,S h->cell h a=some (c.v x))/\K x
def tH (S:aP):List CK->Addr->Nat->(List Value->Prop)->Prop
 | [],_,_,K=>K []
 | c::cs,a,i,K=>gT S c (a.add i) λx=>tH S cs a (i+1) λvs=>K (c.v x::vs)
def LkH (S:aP)(k:IntKind)(c:CK)(m:Option Nat)(n:Int)(K:Option c.T->Prop):Prop:=∃l,(∀h,S h->jQ h m k c l)/\K (bV l n)
def WpN (S:aP)(k:IntKind)(c:CK)(m:Option Nat)(K:Int->Prop):Prop:=∃l,(∀h,S h->jQ h m k c l)/\K (l.length:Int)
def qS (P:Program)(S:aP)(o:Op)(ρ:Env)(K:Value->Prop):Prop:=
 match o with
 | .load t a=>wv (ev ρ a) λv=>match v,ky P t with
  | .pointer (some a),some (.one c)=>gQ (P.info? t).isSome (gT S c a λx=>K (c.v x))
  | .pointer (some a),some (.agg cs)=>gQ (P.cellsOf t==cs.length) (gQ (P.info? t).isSome (tH S cs a 0 λvs=>K (.agg vs.toArray)))
  | _,_=>False
 | .lookup t x i ok=>wv (ev ρ x) λvx=>wv (ev ρ i) λvi=>match P.underlying t,vx,vi with
  | some (.map kt et),.map m,.int k n=>match P.underlying kt,ql P et,P.info? et with
   | some (.int k'),some (.one c),some ti=>match ti.zero with
    | some z=>if k=k' then pX c z λz=>LkH S k c m n λo=>K (bif ok then .tuple #[c.v (o.getD z),.bool o.isSome]else c.v (o.getD z))else False
    | none=>False
   | _,_,_=>False
  | _,_,_=>False
 | .call c=>match c.callee,q8 ρ c.args.toList,c.argTypes.toList with
  | .builtin .len,some [.map m],[t]=>sv P t λk c=>WpN S k c m λz=>K (.int .i64 z)
  | _,_,_=>False
 | _=>False
theorem LS {S:aP}:∀{cs:List CK} {a:Addr} {i:Nat} {K:List Value->Prop},tH S cs a i K->∃vs,K vs/\∀h,S h->om cs a i h (· = vs)
 | [],a,i,K,hk=>⟨[],hk,λh _=>rfl⟩
 | c::cs,a,i,K,⟨x,hx,hk⟩=>by
  obtain⟨vs,hK,hall⟩:=LS hk;refine⟨c.v x::vs,hK,λh b=>?_⟩;have d:om cs a (i+1) h λus=>c.v x::us=c.v x::vs:=by
   have key:∀{cs:List CK} {i:Nat} {K K':List Value->Prop},(∀vs,K vs->K' vs)->om cs a i h K->om cs a i h K':=by
    intro cs
    induction cs with
    | nil=>intro i K K' hh hk;exact hh _ hk
    | cons c cs ih=>
     intro i K K' hh hk;simp only[om]at hk ⊢;cases c<;>(obtain⟨y,m,hk⟩:=hk;exact⟨y,m,ih (λvs g=>hh _ g) hk⟩)
   exact key (λus j=>by rw[j]) (hall h b)
  simp only[om];have e:=hx h b;cases c<;>exact⟨x,e,d⟩
theorem OI {P:Program}{t:Nat}{K:IntKind->CK->Prop}(h:sv P t K):∃kt et k c,P.underlying t=some (.map kt et)/\P.underlying kt=some (.int k)/\ql P et=some (.one c)/\K k c:=by
 unfold sv at h;split at h
 ·split at h
  ·exact⟨_,_,_,_,by assumption,by assumption,by assumption,h⟩
  ·exact h.elim
 ·exact h.elim
theorem ς {P:Program}{S:aP}{o:Op}{ρ:Env}{K:Value->Prop}(hk:qS P S o ρ K):∃v,K v/\∀h,S h->qK P o ρ h (· = v):=by
 unfold qS at hk;split at hk
 ·obtain⟨M,r,hk⟩:=Wr hk;split at hk
  ·rename_i ad c hs;rw[WH]at hk;obtain⟨A,x,B,d⟩:=hk;refine⟨_,d,λh b=>?_⟩;simp only[qK,r,wv,hs,WH];refine⟨A,?_⟩;have s:=B h b;cases c<;>exact⟨x,s,rfl⟩
  ·rename_i ad cs hs;rw[WH,WH]at hk;obtain⟨A,D,hk⟩:=hk;obtain⟨vs,d,j⟩:=LS hk;refine⟨_,d,λh b=>?_⟩;simp only[qK,r,wv,hs,WH];refine⟨A,D,?_⟩;have key:∀{cs:List CK} {i:Nat} {K K':List Value->Prop},(∀vs,K vs->K' vs)->om cs ad i h K->om cs ad i h K':=by
    intro cs
    induction cs with
    | nil=>intro i K K' hh hk;exact hh _ hk
    | cons c cs ih=>
     intro i K K' hh hk;simp only[om]at hk ⊢;cases c<;>(obtain⟨y,F,hk⟩:=hk;exact⟨y,F,ih (λvs L=>hh _ L) hk⟩)
   exact key (λus g=>by rw[g]) (j h b)
  ·exact hk.elim
 ·obtain⟨R,B,p⟩:=Wr hk;obtain⟨N,J,a⟩:=Wr p;clear hk p;split at a
  case h_2=>exact a.elim
  rename_i G H m k n g;split at a
  case h_2=>exact a.elim
  rename_i k' c ti hkk hs hti;split at a
  case h_2=>exact a.elim
  rename_i z hz;split at a
  case isFalse=>exact a.elim
  rename_i e;subst e;obtain⟨Q,rfl,l,C,d⟩:=UC a;refine⟨_,d,λh b=>?_⟩;simp only[qK,B,J,wv,yj,g,hkk,hs,hti,hz,zV];have E:=C h b;rw[WpK];exact⟨l,E,rfl⟩
 ·split at hk
  ·rename_i m t s r ht;obtain⟨G,H,k,c,g,u,w,l,C,d⟩:=OI hk;refine⟨_,d,λh b=>?_⟩;simp only[qK,s,r,ht,mO,g,u,w];exact⟨l,C h b,rfl⟩
  ·exact hk.elim
 ·exact hk.elim
structure iZ (ops:Array Oper) (listed:Array Bool) (D:List Nat):Prop where
 size:listed.size=ops.size
 at_:∀j,j<ops.size->listed[j]?=some (D.contains j)
 lt:∀j∈D,j<ops.size
theorem iZ.getD {ops:Array Oper}{listed:Array Bool}{D:List Nat}(h:iZ ops listed D){j:Nat}(hj:j<ops.size)(b:Bool):listed.getD j b=D.contains j:=by
 rw[sG,h.at_ j hj];rfl
theorem iZ.nO {ops:Array Oper}{listed:Array Bool}{D:List Nat}(h:iZ ops listed D)(j:Nat):listed.getD j false=D.contains j:=by
 rcases mw j ops.size with hj|hj
 ·exact h.getD hj false
 ·rw[sG,Array.getElem?_eq_none (by rw[h.size];exact hj)]
  symm
  simp only[Option.getD_none,sQ,decide_eq_false_iff_not];exact λa=>by have:=h.lt j a;omega
theorem iZ.start (ops:Array Oper):iZ ops (Array.replicate ops.size false) []:=
 ⟨by simp,λj a=>by simp[a],λj a=>by simp at a⟩
theorem iZ.cons {ops:Array Oper}{listed:Array Bool}{D:List Nat}(h:iZ ops listed D){i:Nat}(hi:i<ops.size):iZ ops (listed.setIfInBounds i true) (i::D):=by
 refine⟨by simp[h.size],λj a=>?_,λj a=>?_⟩
 ·by_cases hij:i=j
  ·subst hij;simp[h.size,a]
  ·rw[Aq hij,h.at_ j a];have:(j==i)=false:=by simpa using λe=>hij e.symm
   simp only[List.contains_cons,this,yF]
 ·rcases zT.1 a with rfl|h'
  ·exact hi
  ·exact h.lt j h'
def nI (ops:Array Oper)(D:List Nat)(i:Nat):Bool:=match ops[i]? with
 | none=>false
 | some o=>!D.contains i&&o.after.toList.all λe=>!Region.binds .any e||D.contains e.on
def DN (ops:Array Oper)(D:List Nat)(i:Nat):Bool:=match ops[i]? with
 | none=>false
 | some oi=>(List.range ops.size).all λj=>Nat.beq j i||(D.contains j||match ops[j]? with
  | some oj=>oj.after.toList.any (λe=>Region.binds .any e&&Nat.beq e.on i)||oi.apart ops oj
  | none=>true)
theorem DL {ops:Array Oper}{D:List Nat}{i:Nat}(h:nI ops D i=true):i<ops.size:=by
 unfold nI at h;split at h
 ·cases h
 ·rename_i o ho;exact(mT.1 ho).1
theorem y7 {ops:Array Oper}{listed:Array Bool}{D:List Nat}(h:iZ ops listed D)(i:Nat):i∈Region.ready .any ops listed↔nI ops D i=true:=by
 rw[mem_ready];unfold nI;cases ho:ops[i]? with
 | none=>simp
 | some o=>
  have d:i<ops.size:=(mT.1 ho).1;simp only[h.getD d,Option.some.injEq,exists_eq_left',zF,nj,kR,nX];constructor
  ·rintro⟨h1,h2⟩;refine⟨h1,λe a=>?_⟩;cases b:Region.binds .any e
   ·exact .inl rfl
   ·right;have:=h2 e (by simpa using a) b
    rwa [h.nO]at this
  ·rintro⟨h1,h2⟩;refine⟨h1,λe a b=>?_⟩;have:=h2 e (by simpa using a);rw[b]at this;rw[h.nO];simpa using this
theorem GD {ops:Array Oper}{listed:Array Bool}{D:List Nat}(h:iZ ops listed D){i:Nat}(hf:DN ops D i=true):Region.free .any ops listed i=true:=by
 unfold DN at hf;unfold Region.free;cases ho:ops[i]? with
 | none=>rw[ho]at hf;cases hf
 | some oi=>
  rw[ho]at hf;simp only[kR,zW]at hf ⊢;intro j hj;have:=hf j hj;rw[h.getD hj];simp only[nX]at this ⊢;rcases this with h1|h1|h1
  ·exact .inl (.inl (by simpa using lL h1))
  ·exact .inl (.inr h1)
  ·right;split at h1
   ·rename_i oj hoj;simp only[hoj,nX]at h1 ⊢;rcases h1 with h1|h1
    ·left;rw[zq]at h1;obtain⟨e,b,a⟩:=h1;simp only[zF]at a;rw[Array.any_eq_true'];exact⟨e,by simpa using b,by simp[a.1,lL a.2]⟩
    ·exact .inr h1
   ·rename_i hoj;simp[hoj]
inductive SH where
 | done
 | take (i:Nat) (r:SH)
 | split (c:Nat) (t f:SH)
 | all (l:List (Nat×SH))
def SH.tk:List Nat->SH->SH
 |[],s=>s
 |i::l,s=>.take i (SH.tk l s)
def Sx (sm:Bool)(S:aP)(h:Hp)(X:Prop):Prop:=match sm with
 | true=>S h/\X
 | false=>X
def shut (C D:List Nat):Bool:=C.any λk=>D.contains k
def uU (f:Nat->SH->Prop):List (Nat×SH)->Prop
 | []=>True
 | [x]=>f x.1 x.2
 | x::y::l=>f x.1 x.2/\uU f (y::l)
def Uv (P:Program)(N:Nat)(ops:Array Oper)(sm:Bool)(C:List Nat)(S:aP)(K:Env->Hp->Prop):Nat->Nat->SH->List Nat->Env->Hp->Prop
 | 0,_,_,_,_,_=>False
 | n+1,_,.done,D,ρ,h=>gQ ((List.range ops.size).all λj=>D.contains j) (K ρ h)
 | n+1,m+1,.take i r,D,ρ,h=>match ops[i]? with
  | some o=>gQ (nI ops D i&&(DN ops D i&&(uB N o.dst && !C.contains i)))
   (bif tN ops o ρ then Uv P N ops sm C S K n m r (i::D) (ρ.iY o.dst undef) h
    else gQ (pV ops o ρ) (bif G7 P o.op then qK P o.op ρ h λv=>Uv P N ops sm C S K n m r (i::D) (ρ.iY o.dst v) h
     else gQ (sm&&((C.all λk=>xf ops k i) && !shut C D)) (qS P S o.op ρ λv=>Uv P N ops sm C S K n m r (i::D) (ρ.iY o.dst v) h)))
  | none=>False
 | n+1,m,.split c t f,D,ρ,h=>H5 ρ (.tmp c) λb=>If b (Uv P N ops sm C S K n m t D (ρ.put c (.bool true)) h) (Uv P N ops sm C S K n m f D (ρ.put c (.bool false)) h)
 | n+1,m+1,.all l,D,ρ,h=>gQ ((!l.isEmpty&&l.all λx=>Nat.blt x.1 ops.size)&&((List.range ops.size).all λj=>nI ops D j==l.any λx=>Nat.beq x.1 j))
  (uU (λi r=>match ops[i]? with
   | some o=>gQ (uB N o.dst) (bif tN ops o ρ then Sx (sm && !shut C (i::D)) S h (Uv P N ops sm C S K n m r (i::D) (ρ.iY o.dst undef) h)
    else gQ (pV ops o ρ) (xH P o.op o.type ρ h λv h'=>Sx (sm && !shut C (i::D)) S h' (Uv P N ops sm C S K n m r (i::D) (ρ.iY o.dst v) h')))
   | none=>False) l)
 | _,_,_,_,_,_=>False
def dW (h:Hp)(body:(Hp->Prop)->Prop):Prop:=∃S:Hp->Prop,S h/\body S
theorem I5 {f:Nat->SH->Prop}:∀{l:List (Nat×SH)},uU f l->∀x∈l,f x.1 x.2
 | [],_,x,hx=>by simp at hx
 | [y],h,x,hx=>by simp at hx;subst hx;exact h
 | y::z::l,h,x,hx=>by
  rcases zT.1 hx with rfl|hx
  ·exact h.1
  ·exact I5 h.2 x hx
theorem xZ {ds:List Nat}{ρ ρ':Env}{ops:Array Oper}{i:Nat}{o:Oper}(ho:ops[i]?=some o){v:Value}
 (k:∀j,(ops.toList.filterMap (·.dst)).contains j=false->∀u,(ρ.iY o.dst v) j=some u->ρ' j=some u):∀j,(ops.toList.filterMap (·.dst)).contains j=false->∀u,ρ j=some u->ρ' j=some u:=by
 intro j hj u hu;refine k j hj u ?_;cases hd:o.dst with
 | none=>exact hu
 | some d=>
  simp only[Env.iY,Env.put];cases hb:Nat.beq j d
  ·exact hu
  ·have e:j=d:=lL hb;subst e;exfalso;simp only[sQ,decide_eq_false_iff_not,xL,not_exists,not_and]at hj;refine hj o ?_ hd;have:=Cu ho;simpa using this
def TD (S:aP)(C D:List Nat)(h:Hp):Prop:=S h\/shut C D=true
theorem TD.ts {S:aP}{C D:List Nat}{ops:Array Oper}{listed:Array Bool}{w:World}(hD:iZ ops listed D)(h:TD S C D w.heap):TS (λw=>S w.heap) C listed w:=by
 refine h.imp id λa=>?_;unfold shut at a;rw[zq]at a;obtain⟨k,d,b⟩:=a;exact⟨k,d,by rw[hD.nO];exact b⟩
theorem Px {C D:List Nat}{ops:Array Oper}{listed:Array Bool}(hD:iZ ops listed D)(h:shut C D=false):∀k∈C,listed.getD k false=false:=by
 intro k hk;unfold shut at h;rw[np]at h;rw[hD.nO];simpa using h k hk
theorem Ty {C D:List Nat}{i:Nat}(h:shut C D=true):shut C (i::D)=true:=by
 unfold shut at *;rw[zq]at *;obtain⟨k,b,a⟩:=h;refine⟨k,b,?_⟩;rw[tL]at *;exact lz _ a
theorem Mu {sm:Bool}{S:aP}{C D:List Nat}{h:Hp}{X:Prop}(hs:sm=false->∀h,S h)(hx:Sx (sm && !shut C D) S h X):TD S C D h/\X:=by
 cases hc:shut C D
 ·rw[hc]at hx;simp only[yP,uG]at hx;cases sm
  ·exact⟨.inl (hs rfl h),hx⟩
  ·exact⟨.inl hx.1,hx.2⟩
 ·rw[hc]at hx;simp only[Bool.not_true,sP]at hx;exact⟨.inr hc,hx⟩
theorem QE {P:Program}{N:Nat}{ops:Array Oper}{sm:Bool}{C:List Nat}{S:aP}{K:Env->Hp->Prop}{Qn:Act->World->Prop}(hsel:Region.noSelect ops=true)(hsm:sm=false->∀h,S h):∀(n m:Nat) {sh:SH} {D:List Nat} {ρ:Env} {a:Act} {w:World} {listed:Array Bool},
 Uv P N ops sm C S K n m sh D ρ w.heap->Fits N ρ a->iZ ops listed D->TD S C D w.heap->(∀ρ' a' w',Fits N ρ' a'->ZV w w'->U1 ops.toList ρ ρ'->K ρ' w'.heap->Qn a' w') →
 anyS P ops (λe a w=>match e with | .normal=>Qn a w|_=>False) (λw=>S w.heap) C m listed a w
 | 0,m,sh,D,ρ,a,w,listed,h,hf,hD,hS,hK=>(by simp only[Uv]at h)
 | n+1,m,.done,D,ρ,a,w,listed,h,hf,hD,hS,hK=>by
  have h':gQ ((List.range ops.size).all λj=>D.contains j) (K ρ w.heap):=by cases m<;>exact h
  rw[WH]at h';refine Μ ?_ (hK ρ a w hf (.refl _) (λ_ _ _ h=>h) h'.2) m;rw[List.eq_nil_iff_forall_not_mem];intro j Z;have B:=(y7 hD j).1 Z;have:=kR.1 h'.1 j (zW.2 (DL B));unfold nI at B;split at B
  ·cases B
  ·rw[this]at B;simp at B
 | n+1,0,.take i r,D,ρ,a,w,listed,h,hf,hD,hS,hK=>(by simp only[Uv]at h)
 | n+1,m+1,.take i r,D,ρ,a,w,listed,h,hf,hD,hS,hK=>by
  simp only[Uv]at h;split at h
  case h_2=>exact h.elim
  rename_i o ho;rw[WH]at h;obtain⟨X,h⟩:=h;simp only[zF,nj]at X;obtain⟨Y,W,s,V⟩:=X;have H:=DL Y;have z:i∈Region.ready .any ops listed:=(y7 hD i).2 Y;have p:TD S C (i::D) w.heap:=hS.imp id Ty;cases hg:tN ops o ρ
  ·rw[hg]at h;simp only[cond_false]at h;rw[WH]at h;obtain⟨M,h⟩:=h;have hw:=Qe hf M;cases hp:G7 P o.op
   ·rw[hp]at h;simp only[cond_false]at h;rw[WH]at h;obtain⟨L,h⟩:=h;simp only[zF,nj,kR]at L;obtain⟨v,J,F⟩:=ς h;refine Ea (T:=λw=>S w.heap) ho hsel (GD hD W) z (λ_ _ _ h=>h) V (.inr ⟨λ_ h=>h,L.2.1⟩) (.inr (Px hD L.2.2)) (v:=v) (.inl ⟨hw,λw' p=>?_⟩) (hS.ts hD) ?_
    ·obtain⟨u,B,rfl⟩:=yH hf.ev o (F w'.heap p);exact B
    ·exact QE hsel hsm n m J (hf.put s v) (hD.cons H) p λρ' a' w' d G E g=>hK ρ' a' w' d G (xZ (ds:=[]) ho E) g
   ·rw[hp]at h;simp only[cond_true]at h;obtain⟨v,J,F⟩:=NZ hp h;refine Ea (T:=λ_=>True) ho hsel (GD hD W) z (λ_ _ _ h=>h) V (.inl λ_=>trivial) (.inl λ_=>trivial) (v:=v) (.inl ⟨hw,λw' _=>?_⟩) (hS.ts hD) ?_
    ·obtain⟨u,B,rfl⟩:=yH hf.ev o (F w'.heap);exact B
    ·exact QE hsel hsm n m J (hf.put s v) (hD.cons H) p λρ' a' w' d G E g=>hK ρ' a' w' d G (xZ (ds:=[]) ho E) g
  ·rw[hg]at h;simp only[cond_true]at h;refine Ea (T:=λ_=>True) ho hsel (GD hD W) z (λ_ _ _ h=>h) V (.inl λ_=>trivial) (.inl λ_=>trivial) (v:=undef) (.inr ⟨VM hf hg,rfl⟩) (hS.ts hD) ?_;exact QE hsel hsm n m h (hf.put s undef) (hD.cons H) p λρ' a' w' d G E g=>hK ρ' a' w' d G (xZ (ds:=[]) ho E) g
 | n+1,m,.split c t f,D,ρ,a,w,listed,h,hf,hD,hS,hK=>by
  have h':H5 ρ (.tmp c) λb=>If b (Uv P N ops sm C S K n m t D (ρ.put c (.bool true)) w.heap) (Uv P N ops sm C S K n m f D (ρ.put c (.bool false)) w.heap):=by cases m<;>exact h
  obtain⟨b,hb,ab⟩:=UR h';have A:=λe=>ab.t e;have h2:=λe=>ab.f e;have R:ρ c=some (.bool b):=hb;have kk:∀(b':Bool),b=b'->∀ρ',U1 ops.toList (ρ.put c (.bool b')) ρ'->U1 ops.toList ρ ρ':=by
   intro b' e ρ' k i H u hu;refine k i H u ?_;simp only[Env.put];cases hic:Nat.beq i c
   ·exact hu
   ·have e2:i=c:=lL hic;subst e2;rw[R]at hu;simp only[cond_true];rw[←e];exact hu
  cases b
  ·exact QE hsel hsm n m (h2 rfl) (hf.lit R rfl) hD hS λρ' a' w' d G E g=>hK ρ' a' w' d G (kk false rfl ρ' E) g
  ·exact QE hsel hsm n m (A rfl) (hf.lit R rfl) hD hS λρ' a' w' d G E g=>hK ρ' a' w' d G (kk true rfl ρ' E) g
 | n+1,0,.all l,D,ρ,a,w,listed,h,hf,hD,hS,hK=>(by simp only[Uv]at h)
 | n+1,m+1,.all l,D,ρ,a,w,listed,h,hf,hD,hS,hK=>by
  simp only[Uv]at h;rw[WH]at h;obtain⟨X,h⟩:=h;simp only[zF,nj,kR,zW,zZ]at X;obtain⟨⟨af,ae⟩,aa⟩:=X;have ad:∀j,j∈Region.ready .any ops listed->∃r,(j,r)∈l:=by
   intro j Z;have B:=(y7 hD j).1 Z;have:=aa j (DL B);rw[B]at this;have:=zq.1 this.symm;obtain⟨x,hx,hb⟩:=this;have e:x.1=j:=lL hb;exact⟨x.2,by rw[←e];exact hx⟩
  refine WkB (rs:=Region.ready .any ops listed) rfl ?_ λj Z=>?_
  ·intro hnil
   match l,af with
   | x::l',_=>
    have hx:=Nat.blt_eq.mp (ae x aA);have:=aa x.1 hx;have ac:(x::l').any (λy=>Nat.beq y.1 x.1)=true:=zq.2 ⟨x,by simp,by simp⟩;rw[ac]at this;have:=(y7 hD x.1).2 this;rw[hnil]at this;simp at this
  ·obtain⟨r,B⟩:=ad j Z;have A:=I5 h (j,r) B;simp only at A;split at A
   case h_2=>exact A.elim
   rename_i o ho;have H:j<ops.size:=(mT.1 ho).1;rw[WH]at A;obtain⟨s,A⟩:=A;unfold wpOp;simp only[ho];cases hg:tN ops o ρ
   ·rw[hg]at A;simp only[cond_false]at A;rw[WH]at A;obtain⟨M,A⟩:=A;rw[zB (Qe hf M)];refine .inl (Vq.upon (I9 hf.ev o A) λv w' G J=>?_);obtain⟨p,J⟩:=Mu hsm J;exact⟨p.ts (hD.cons H),QE hsel hsm n m J (hf.put s v) (hD.cons H) p λρ' a' Q d U E g=>hK ρ' a' Q d (G.trans U) (xZ (ds:=[]) ho E) g⟩
   ·rw[hg]at A;simp only[cond_true]at A;rw[VM hf hg];simp only[zc,zz];obtain⟨p,J⟩:=Mu hsm A;exact⟨p.ts (hD.cons H),QE hsel hsm n m J (hf.put s undef) (hD.cons H) p λρ' a' Q d U E g=>hK ρ' a' Q d U (xZ (ds:=[]) ho E) g⟩
def C8 (P:Program)(N:Nat)(sm:Bool)(C:List Nat)(sh:SH)(ops:Array Oper)(ρ:Env)(h:Hp)(K:Env->Hp->Prop):Prop:=
 match sm with
 | true=>dW h λS=>Uv P N ops true C S K 400 ops.size sh [] ρ h
 | false=>Uv P N ops false C (λ_=>True) K 400 ops.size sh [] ρ h
theorem UF {P:Program}{N id:Nat}{ops:Array Oper}{sm:Bool}{C:List Nat}{sh:SH}{K:Env->Hp->Prop}{ρ:Env}{a:Act}{w:World}{Q:Exit->Act->World->Prop}
 (hm:P.follows .mixedOrders=true) (hsel:Region.noSelect ops=true) (h:C8 P N sm C sh ops ρ w.heap K)
 (hf:Fits N ρ a) (hK:∀ρ' a' w',Fits N ρ' a'->ZV w w'->U1 ops.toList ρ ρ'->K ρ' w'.heap->Q .normal a' w'):(Code.region id ops true).wp P Q a w:=by
 refine wp_mono (Q:=λe a w=>match e with | .normal=>Q .normal a w|_=>False) ?_ (λe a w j=>by cases e<;>first|exact j|exact j.elim)
 have hd:ZV w {w with drawn:=w.drawn+1}:=⟨rfl,rfl,rfl,zC _⟩;cases sm
 ·exact U3 (S:=λw=>True) hm (QE (S:=λ_=>True) (w:={w with drawn:=w.drawn+1}) (Qn:=Q .normal) hsel (λ_ _=>trivial) 400 ops.size h hf (iZ.start ops) (.inl trivial) λρ' a' w' b d g i=>hK ρ' a' w' b (hd.trans d) g i)
 ·obtain⟨S,m,h⟩:=h;exact U3 hm (QE (S:=S) (w:={w with drawn:=w.drawn+1}) (Qn:=Q .normal) hsel (λe=>by cases e) 400 ops.size h hf (iZ.start ops) (.inl m) λρ' a' w' b d g i=>hK ρ' a' w' b (hd.trans d) g i)
abbrev Js:=List (Nat×SK)
def py (js:Js):List CK:=iK (js.map (·.2))
def tn (ρ:Env):Js->Option (List Value)
 | []=>some []
 | (i,.one _)::js=>match ρ i,tn ρ js with|some v,some vs=>some (v::vs)|_,_=>none
 | (i,.agg cs)::js=>match ρ i,tn ρ js with
  | some (.agg a),some vs=>bif a.size==cs.length then some (a.toList++vs)else none
  | _,_=>none
def vE (js:Js)(ρ:Env)(J:eJ (py js))(h:Hp):Prop:=match tn ρ js with
 | some vs=>wR (py js) J vs h
 | none=>False
def je:Env->Js->List Value->Env
 | ρ,[],_=>ρ
 | ρ,(i,.one _)::js,v::vs=>je (ρ.put i v) js vs
 | ρ,(i,.one _)::js,[]=>je ρ js []
 | ρ,(i,.agg cs)::js,vs=>je (ρ.put i (.agg (vs.take cs.length).toArray)) js (vs.drop cs.length)
def Jn (ks:List CK)(K:eJ ks)(body:eJ ks->Prop):Prop:=∃J:eJ ks,eJ.le ks J K/\body J
theorem eJ.le_refl:∀(ks:List CK) (R:eJ ks),eJ.le ks R R
 | [],_=>λ_ h=>h
 | _::cs,_=>λ_=>eJ.le_refl cs _
theorem Jn.intro {ks:List CK}{K:eJ ks}{body:eJ ks->Prop}(h:body K):Jn ks K body:=⟨K,eJ.le_refl ks K,h⟩
def oL (ds:List Nat)(i:Nat):Bool:=ds.contains i
def VL (ds:List Nat)(ρ ρ':Env):Prop:=∀i,ds.contains i=false->∀v,ρ i=some v->ρ' i=some v
theorem VL.trans {d1 d2:List Nat}{a b c:Env}(h:VL d1 a b)(k:VL d2 b c):VL (d1++d2) a c:=by
 intro i hi v hv;simp only[sQ,zP,decide_eq_false_iff_not,not_or]at hi;exact k i (by simpa using hi.2) v (h i (by simpa using hi.1) v hv)
theorem VL.mono {d1 d2:List Nat}{a b:Env}(h:VL d1 a b)(hs:∀i,i∈d1->i∈d2):VL d2 a b:=by
 intro i hi v hv;refine h i ?_ v hv;simp only[sQ,decide_eq_false_iff_not]at hi ⊢;exact λd=>hi (hs i d)
theorem VL.refl (ds:List Nat)(a:Env):VL ds a a:=λ_ _ _ h=>h
theorem Vh (ds:List Nat):∀(js:Js) (ρ:Env) (vs:List Value),(js.all λs=>oL ds s.1)=true->VL ds ρ (je ρ js vs)
 | [],ρ,vs,_=>by simp only[je];exact .refl _ _
 | (i,.one c)::js,ρ,[],h=>by
  simp only[wc,zF]at h;simp only[je];exact Vh ds js ρ [] h.2
 | (i,.one c)::js,ρ,v::vs,h=>by
  simp only[wc,zF]at h;simp only[je];intro j hj u hu;refine Vh ds js _ vs h.2 j hj u ?_;simp only[Env.put];cases hb:Nat.beq j i
  ·exact hu
  ·have e:j=i:=lL hb;subst e;simp only[oL]at h;rw[hj]at h;cases h.1
 | (i,.agg cs)::js,ρ,vs,h=>by
  simp only[wc,zF]at h;simp only[je];intro j hj u hu;refine Vh ds js _ _ h.2 j hj u ?_;simp only[Env.put];cases hb:Nat.beq j i
  ·exact hu
  ·have e:j=i:=lL hb;subst e;simp only[oL]at h;rw[hj]at h;cases h.1
theorem VV {N:Nat}:∀(js:Js) {ρ ρ':Env} {a:Act} {vs:List Value},Fits N ρ a->Fits N ρ' a->tn ρ' js=some vs->Fits N (je ρ js vs) a
 | [],ρ,ρ',a,vs,h,_,_=>h
 | (i,.one c)::js,ρ,ρ',a,vs,h,h',hv=>by
  simp only[tn]at hv;split at hv
  ·rename_i v vs' h1 h2;cases hv;simp only[je];refine VV js ⟨h.defers,h.size,λj u hu=>?_⟩ h' h2;simp only[Env.put]at hu;cases hb:Nat.beq j i
   ·rw[hb]at hu;exact h.at_ j u hu
   ·have e:j=i:=lL hb;subst e;rw[hb]at hu;simp only[cond_true,Option.some.injEq]at hu;subst hu;exact h'.at_ j _ h1
  ·cases hv
 | (i,.agg cs)::js,ρ,ρ',a,vs,h,h',hv=>by
  simp only[tn]at hv;split at hv
  ·rename_i ar vs' h1 h2;cases hs:(ar.size==cs.length)
   ·rw[hs]at hv;cases hv
   ·rw[hs]at hv;simp only[cond_true,Option.some.injEq]at hv;subst hv;have b:ar.toList.length=cs.length:=by simpa using hs
    simp only[je];rw[←b,List.take_left,List.drop_left];refine VV js ⟨h.defers,h.size,λj u hu=>?_⟩ h' h2;simp only[Env.put]at hu;cases hb:Nat.beq j i
    ·rw[hb]at hu;exact h.at_ j u hu
    ·have e:j=i:=lL hb;subst e;rw[hb]at hu;simp only[cond_true,Option.some.injEq]at hu;subst hu;simpa using h'.at_ j _ h1
  ·cases hv
theorem Aj {js:Js}{ρ:Env}{J:eJ (py js)}{h:Hp}(hj:vE js ρ J h):∃vs,tn ρ js=some vs/\Sat (py js) J vs h:=by
 unfold vE at hj;split at hj
 ·exact⟨_,by assumption,Ah hj⟩
 ·exact hj.elim
theorem H9 {N:Nat}{ds:List Nat}{ρ ρ':Env}{a:Act}(h:Fits N ρ' a)(k:VL ds ρ ρ'):Fits N (ρ.fB ds) a:=by
 refine h.weaken λi v b=>?_;simp only[Env.fB]at b;cases hc:ds.contains i
 ·rw[hc]at b;exact k i hc v b
 ·rw[hc]at b;cases b
theorem GP (ds:List Nat)(ρ:Env):VL ds ρ (ρ.fB ds):=by
 intro i hi v hv;simp only[Env.fB,hi];exact hv
def yY:Op->Bool
 | .pick .. => true
 | _=>false
def lf (os:List Oper):Bool:=os.all λo=>uH o.op||yY o.op
theorem V3 {P:Program}{N:Nat}{ops:Array Oper}{Q:Act->Prop}{w:World}:∀(n:Nat) {hs:List RI} {os:List Oper} {tail:List Oper} {ρ:Env} {a:Act} {K:Env->Hp->Prop},
 fS P N ops n hs os ρ w.heap K->lf os=true->Fits N ρ a->(∀ρ' a',Fits N ρ' a'->U1 os ρ ρ'->K ρ' w.heap->wpStill P ops w Q tail a')->wpStill P ops w Q (os++tail) a
 | 0,_,_,_,_,_,_,h,_,_,_=>(by simp only[fS]at h)
 | n+1,[],[],tail,ρ,a,K,h,hq,hf,hK=>by
  simp only[fS]at h;exact hK ρ a hf (λ_ _ _ h=>h) h
 | n+1,[],o::os,tail,ρ,a,K,h,hq,hf,hK=>(by simp only[fS]at h)
 | n+1,.op::hs,[],tail,ρ,a,K,h,hq,hf,hK=>(by simp only[fS]at h)
 | n+1,.it ki c::hs,[],tail,ρ,a,K,h,hq,hf,hK=>(by simp only[fS]at h)
 | n+1,.it ki c::hs,o::os,tail,ρ,a,K,h,hq,hf,hK=>by
  simp only[fS]at h;rw[WH]at h;simp only[lf,wc,zF,nX]at hq;have h2:=h.2;unfold Ao at h2;split at h2
  ·rename_i heq;rw[heq]at hq;simp[uH,yY]at hq
  ·rename_i heq;rw[heq]at hq;simp[uH,yY]at hq
  ·exact h2.elim
 | n+1,.op::hs,o::os,tail,ρ,a,K,h,hq,hf,hK=>by
  simp only[fS]at h;rw[WH]at h;obtain⟨B,h⟩:=h;simp only[zF]at B;have S:=Qe hf B.1;simp only[lf,wc,zF,nX]at hq;have M:uH o.op=true:=by
   rcases hq.1 with h1|h1
   ·exact h1
   ·unfold yY at h1;split at h1
    ·rename_i heq;rw[heq];rfl
    ·cases h1
  unfold xH at h;rw[M]at h;obtain⟨v,Z,p⟩:=yH hf.ev o h;simp only[lZ,wpStill,S,zV,Oper.still,Z,Oper.stillUpon];exact⟨trivial,V3 n p (by simpa[lf]using hq.2) (hf.put B.2 v) λρ' a' g G u=>hK ρ' a' g G.cons u⟩
 | n+1,.dA and m inner::hs,os,tail,ρ,a,K,h,hq,hf,hK=>by
  simp only[fS]at h;split at h
  case h_2=>exact h.elim
  rename_i pk rest hdrop;split at h
  case h_2=>exact h.elim
  rename_i c x y d hop hd;split at h
  case h_2=>exact h.elim
  rename_i b hb;rw[WH]at h;obtain⟨B,J,hJ,h⟩:=h;simp only[zF]at B;obtain⟨ac,D,R,ad,A⟩:=B;have V:os++tail=os.take m++(pk::rest++tail):=by
   rw[←hdrop,←kF,nS]
  have aa:lf (os.take m)=true:=by
   rw[lf,kR]at hq ⊢;exact λo U=>hq o (m7 U)
  have W:lf rest=true:=by
   rw[lf,kR]at hq ⊢;exact λo U=>hq o (qZ (i:=m) (by rw[hdrop];exact lz _ U))
  rw[V];have j:∀(r b':Bool) (z:Operand) a',b=b'->(bif b' then x else y)=z->Fits N (ρ.fB ((os.take m).filterMap (·.dst))) a'->J r w.heap->Region.wanted pk (yielded ops a'.tmps)=true →
   a'.eval (.tmp c)=.bool b'->a'.eval z=.bool r->wpStill P ops w Q (pk::rest++tail) a':=by
   intro r b' z a' e ez g F S s hez;have E:(execOp a'.eval pk).run P w=.ok (.value (.bool r)) w:=by
    obtain⟨dst,op,ty,pos,aft,Y⟩:=pk;simp only at hop;subst hop;subst ez;cases b'<;>simp at hez<;>simp[execOp,s,asBool,hez]
   simp only[lZ,wpStill,S,zV,Oper.still,E,Oper.stillUpon];have L:=g.put (d:=some d) ac (.bool r);rw[hd];exact⟨trivial,V3 n (hJ _ _ F) W L λρ' ab H G u=>hK ρ' ab H (U1.dA hd hdrop G) u⟩
  have run:∀(b':Bool) (z:Operand),b=b'->(bif b' then x else y)=z →
   fS P N ops n inner (os.take m) (ρ.put c (.bool b')) w.heap (λρ' h'=>gQ (pV ops pk ρ'&&tP ρ' c b') (H5 ρ' z λr=>J r h'))->wpStill P ops w Q (os.take m++(pk::rest++tail)) a:=by
   intro b' z e ez hseg;refine V3 n hseg aa (hf.lit hb e) λρ' a' g G p=>?_;rw[WH]at p;simp only[zF]at p;obtain⟨⟨hg,X⟩,p⟩:=p;obtain⟨r,Z,F⟩:=UR p;exact j r b' z a' e ez (g.AL hb e G) F (Qe g hg) (g.ev _ _ (AS X)) (g.ev _ _ Z)
  have skip:∀(b':Bool),b=b'->b' = !and->J (!and) w.heap->wpStill P ops w Q (os.take m++(pk::rest++tail)) a:=by
   intro b' e eb F;subst eb;refine Fw A (hf.lit hb e) λa' g=>?_;have C:Fits N (ρ.fB ((os.take m).filterMap (·.dst))) a':=g.AL (ρ':=(ρ.put c (.bool (!and))).fB ((os.take m).filterMap (·.dst))) hb e (λi hi v hv=>by simp only[Env.fB,hi];exact hv);have s:=g.ev (.tmp c) _ (AS ad);refine j (!and) (!and) (bif (!and)then x else y) a' e rfl C F (Qe C R) s ?_;refine LI ?_ _ (λv=>rfl);cases and<;>exact D
  cases and
  ·simp only[cond_false]at h;cases b
   ·exact run false y rfl rfl (h.f rfl)
   ·exact skip true rfl rfl (h.t rfl)
  ·simp only[cond_true]at h;cases b
   ·exact skip false rfl rfl (h.f rfl)
   ·exact run true x rfl rfl (h.t rfl)
inductive RH where
 | seq (hs:List RI)
 | quiet (hs:List RI)
 | tail (n:Nat) (hs1 hs2:List RI)
 | held (sm:Bool) (C:List Nat) (sh:SH)
 | ic (sm:Bool) (C:List Nat) (js:Js) (sh:SH)
def vf (ops:Array Oper):List Nat:=ops.toList.filterMap (·.dst)
def uv (P:Program)(N:Nat)(r:RH)(ops:Array Oper)(draw:Bool)(ρ:Env)(h:Hp)(K:Env->Hp->Prop):Prop:=
 match r,draw with
 | .seq hs,false=>fS P N ops 400 hs ops.toList ρ h K
 | .quiet hs,true=>gQ (P.follows .mixedOrders&&(Region.lexB .any ops&&lf ops.toList)) (fS P N ops 400 hs ops.toList ρ h K)
 | .tail n hs1 hs2,true=>gQ (P.follows .mixedOrders&&(Region.lexTailB .any ops n&&lf (ops.toList.take n)))
  (fS P N ops 400 hs1 (ops.toList.take n) ρ h λρ' h'=>fS P N ops 400 hs2 (ops.toList.drop n) ρ' h' K)
 | .held sm C sh,true=>gQ (P.follows .mixedOrders&&Region.noSelect ops) (C8 P N sm C sh ops ρ h K)
 | .ic sm C js sh,true=>gQ (P.follows .mixedOrders&&(Region.noSelect ops&&js.all λs=>oL (vf ops) s.1))
  (Jn (py js) (lam (py js) λvs h'=>K (je (ρ.fB (vf ops)) js vs) h') λJ=>C8 P N sm C sh ops ρ h λρ' h'=>vE js ρ' J h')
 | _,_=>False
theorem Ω {P:Program}{N id:Nat}{r:RH}{ops:Array Oper}{draw:Bool}{ρ:Env}{a:Act}{w:World}{K:Env->Hp->Prop}{Q:Exit->Act->World->Prop}
 (h:uv P N r ops draw ρ w.heap K) (hf:Fits N ρ a) (hK:∀ρ' a' w',Fits N ρ' a'->ZV w w'->U1 ops.toList ρ ρ'->K ρ' w'.heap->Q .normal a' w'):(Code.region id ops draw).wp P Q a w:=by
 unfold uv at h;split at h
 ·rename_i A;refine wp_region_list ?_;have:=Vi (Q:=Q) (tail:=[]) 400 h hf λρ' a' w' d p g j=>hK ρ' a' w' d p g j;simpa using this
 ·rename_i A;rw[WH]at h;simp only[zF]at h;obtain⟨⟨u,z,x⟩,h⟩:=h;refine wp_region_still u z ?_;have:=V3 (w:={w with drawn:=w.drawn+1}) (Q:=λa'=>Q .normal a' {w with drawn:=w.drawn+1}) (tail:=[]) 400 h x hf λρ' a' d g j=>hK ρ' a' _ d ⟨rfl,rfl,rfl,zC _⟩ g j;simpa using this
 ·rename_i n hs1 hs2;rw[WH]at h;simp only[zF]at h;obtain⟨⟨u,z,x⟩,h⟩:=h;obtain⟨l,rfl⟩:∃l:List Oper,ops=l.toArray:=⟨ops.toList,by simp⟩;refine wp_region_still_tail n u z ?_;have:=V3 (w:={w with drawn:=w.drawn+1}) (ops:=l.toArray) (Q:=λa'=>wpList P l.toArray Q (l.drop n) a' {w with drawn:=w.drawn+1}) (tail:=[]) 400 h (by simpa using x) hf (λρ' a' d g j=>by
   have:=Vi (Q:=Q) (tail:=[]) (w:={w with drawn:=w.drawn+1}) 400 j d λC G H s p y F=>hK C G H s (ZV.trans (b:={w with drawn:=w.drawn+1}) ⟨rfl,rfl,rfl,zC _⟩ p) (λi e v D=>?_) F
   ·simpa[wpStill]using this
   ·rw[show l.toArray.toList=l.take n++l.drop n by simp,vw]at e;simp only[sQ,zP,decide_eq_false_iff_not,not_or]at e;exact y i (by simpa using e.2) v (g i (by simpa using e.1) v D))
  simpa using this
 ·rename_i sm sh;rw[WH]at h;simp only[zF]at h;exact UF h.1.1 h.1.2 h.2 hf hK
 ·rename_i sm js sh;rw[WH]at h;simp only[zF]at h;obtain⟨⟨u,m,B⟩,J,L,h⟩:=h;refine UF u m h hf λρ' a' w' d p g j=>?_;obtain⟨vs,D,A⟩:=Aj j;have E:=U7 (A.mono L);refine hK _ a' w' (VV js (H9 d g) d D) p ?_ E;exact((GP (vf ops) ρ).trans (Vh (vf ops) js (ρ.fB (vf ops)) vs B)).mono λi e=>by
   simp only[zP]at e;rcases e with h|h<;>exact h
 ·exact h.elim
def gU:Code->List Nat
 | .region _ ops _=>vf ops
 | .seq a b=>gU a++gU b
 | .cond _ a b=>gU a++gU b
 | .block _ b=>gU b
 | .loop b=>gU b
 | .scope b=>gU b
 | _=>[]
def tG:(ks:List CK)->eJ ks->qj ks->(Nat->Prop)->eJ ks
 | [],I,μ,p=>λh=>I h/\p (μ h)
 | c::cs,I,μ,p=>λx=>tG cs (I x) (μ x) p
def WR (ks:List CK)(start:eJ ks->Prop)(round:eJ ks->eJ ks):Prop:=
 ∃(I:eJ ks) (μ:qj ks),start I/\∀m:Nat,eJ.le ks (tG ks I μ (· = m)) (round (tG ks I μ (· < m)))
inductive Hn where
 | leaf
 | cV (r:RH)
 | seq (a b:Hn)
 | jc (js:Js) (a b:Hn)
 | cond (a b:Hn)
 | block (b:Hn)
 | loop (js:Js) (b:Hn)
 | scope (b:Hn)
def RI.ops:Nat->List RI
 | 0=>[]
 | n+1=>.op::RI.ops n
abbrev Hn.l:Hn:=.leaf
abbrev Hn.q (a b:Hn):Hn:=.seq a b
abbrev Hn.c (a b:Hn):Hn:=.cond a b
abbrev Hn.k (a:Hn):Hn:=.block a
def Hn.o (n:Nat):Hn:=.cV (.seq (RI.ops n))
abbrev Hn.o1:Hn:=.o 1
abbrev Hn.o2:Hn:=.o 2
abbrev Hn.aJ:Hn:=.c (.q .o2 .l) .l
abbrev Hn.aK:Hn:=.c (.q .o1 .l) .l
abbrev Hn.aL:Hn:=.q .o2 .l
abbrev Hn.aM:Hn:=.q .o1 .l
abbrev Hn.o3:Hn:=.o 3
abbrev Hn.o4:Hn:=.o 4
abbrev Hn.o5:Hn:=.o 5
abbrev Hn.o6:Hn:=.o 6
abbrev Hn.o7:Hn:=.o 7
abbrev Hn.o8:Hn:=.o 8
abbrev Hn.o9:Hn:=.o 9
abbrev Hn.fW:Hn:=.o 10
def Hn.oq (n:Nat):Hn:=.cV (.quiet (RI.ops n))
def CS (next:Env->Hp->Prop)(Q:Exit->Env->Hp->Prop):Exit->Env->Hp->Prop
 | .normal,ρ,h=>next ρ h
 | e,ρ,h=>Q e ρ h
def Jd (id:Nat)(Q:Exit->Env->Hp->Prop):Exit->Env->Hp->Prop
 | .exit i,ρ,h=>match Nat.beq i id with
  | true=>Q .normal ρ h
  | false=>Q (.exit i) ρ h
 | e,ρ,h=>Q e ρ h
def Tq (Q:Exit->Env->Hp->Prop):Exit->Env->Hp->Prop
 | .goto _,_,_=>False
 | e,ρ,h=>Q e ρ h
def lF (P:Program)(N:Nat):Code->Hn->(Exit->Env->Hp->Prop)->Env->Hp->Prop
 | .skip,_,Q,ρ,h=>Q .normal ρ h
 | .ret,_,Q,ρ,h=>Q .ret ρ h
 | .exit id,_,Q,ρ,h=>Q (.exit id) ρ h
 | .region _ ops d,.cV r,Q,ρ,h=>uv P N r ops d ρ h λρ' h'=>Q .normal ρ' h'
 | .seq a b,.seq x y,Q,ρ,h=>lF P N a x (CS (λρ' h'=>lF P N b y Q ρ' h') Q) ρ h
 | .seq a b,.jc js x y,Q,ρ,h=>gQ (js.all λs=>oL (gU a) s.1)
  (Jn (py js) (lam (py js) λvs h'=>lF P N b y Q (je (ρ.fB (gU a)) js vs) h') λJ=>lF P N a x (CS (λρ' h'=>vE js ρ' J h') Q) ρ h)
 | .cond c a b,.cond x y,Q,ρ,h=>H5 ρ c λt=>If t (lF P N a x Q ρ h) (lF P N b y Q ρ h)
 | .block id b,.block x,Q,ρ,h=>lF P N b x (Jd id Q) ρ h
 | .scope b,.scope x,Q,ρ,h=>lF P N b x (Tq Q) ρ h
 | .label _,_,Q,ρ,h=>Q .normal ρ h
 | .loop b,.loop js x,Q,ρ,h=>gQ (js.all λs=>oL (gU b) s.1)
  (WR (py js) (λI=>vE js ρ I h) λJ=>lam (py js) λvs h'=>lF P N b x (CS (λρ' h''=>vE js ρ' J h'') Q) (je (ρ.fB (gU b)) js vs) h')
 | _,_,_,_,_=>False
theorem FJ:∀{ks:List CK} {I:eJ ks} {μ:qj ks} {p:Nat->Prop} {vs:List Value} {h:Hp},Sat ks (tG ks I μ p) vs h->∃n,p n/\Sat ks (tG ks I μ (· = n)) vs h
 | [],I,μ,p,[],h,hs=>⟨μ h,hs.2,hs.1,rfl⟩
 | c::cs,I,μ,p,v::vs,h,⟨x,e,hs⟩=>by
  obtain⟨n,hp,hn⟩:=FJ (I:=I x) (μ:=μ x) hs;exact⟨n,hp,x,e,hn⟩
 | [],I,μ,p,_::_,h,hs=>hs.elim
 | _::_,I,μ,p,[],h,hs=>hs.elim
theorem I3:∀{ks:List CK} {I:eJ ks} (μ:qj ks) {vs:List Value} {h:Hp},Sat ks I vs h->∃n,Sat ks (tG ks I μ (· = n)) vs h
 | [],I,μ,[],h,hs=>⟨μ h,hs,rfl⟩
 | c::cs,I,μ,v::vs,h,⟨x,e,hs⟩=>by
  obtain⟨n,hn⟩:=I3 (I:=I x) (μ x) hs;exact⟨n,x,e,hn⟩
 | [],I,μ,_::_,h,hs=>hs.elim
 | _::_,I,μ,[],h,hs=>hs.elim
theorem Ef {p:Nat->Prop}(h:∃n,p n):∃n,p n/\∀m,p m->n<=m:=by
 obtain⟨n,d⟩:=h
 induction n using Nat.strongRecOn with
 | _ n ih=>
  by_cases hm:∃m,m<n/\p m
  ·obtain⟨m,a,b⟩:=hm;exact ih m a b
  ·exact⟨n,d,λm b=>Nat.le_of_not_lt λa=>hm ⟨m,a,b⟩⟩
open Classical in
noncomputable def wU (p:Nat->Prop):Nat:=if h:∃n,p n then(Ef h).choose else 0
theorem Wff {p:Nat->Prop}(h:∃n,p n):p (wU p):=by
 unfold wU;rw[dif_pos h];exact(Ef h).choose_spec.1
theorem NS {p:Nat->Prop}{n:Nat}(h:p n):wU p<=n:=by
 unfold wU;rw[dif_pos ⟨n,h⟩];exact(Ef ⟨n,h⟩).choose_spec.2 n h
theorem Og {P:Program}{c:Code}{Q:Exit->Act->World->Prop}{a:Act}{w:World}(I:Nat->Act->World->Prop)(h0:∃n,I n a w)
 (round:∀n a w,I n a w->c.wp P (Exit.then (λa' w'=>∃m,m<n/\I m a' w') Q) a w):(Code.loop c).wp P Q a w:=by
 refine wp_loop (λa w=>∃n,I n a w) (λa w=>wU λn=>I n a w) h0 λa w g=>?_;refine wp_mono (round _ a w (Wff g)) λe a' w' d=>?_;cases e<;>try exact d
 obtain⟨m,i,b⟩:=d;exact⟨⟨m,b⟩,Nat.lt_of_le_of_lt (NS b) i⟩
theorem Kb {P:Program}{N:Nat}:∀(c:Code) {x:Hn} {Q:Exit->Env->Hp->Prop} {Q':Exit->Act->World->Prop} {ρ:Env} {a:Act} {w:World},
 lF P N c x Q ρ w.heap->Fits N ρ a->(∀e ρ' a' w',Fits N ρ' a'->ZV w w'->VL (gU c) ρ ρ'->Q e ρ' w'.heap->Q' e a' w')->c.wp P Q' a w
 | .skip,x,Q,Q',ρ,a,w,h,hf,hq=>by
  have h':Q .normal ρ w.heap:=by cases x<;>exact h
  exact wp_skip (hq _ ρ a w hf (.refl _) (.refl _ _) h')
 | .ret,x,Q,Q',ρ,a,w,h,hf,hq=>by
  have h':Q .ret ρ w.heap:=by cases x<;>exact h
  exact wp_ret (hq _ ρ a w hf (.refl _) (.refl _ _) h')
 | .exit id,x,Q,Q',ρ,a,w,h,hf,hq=>by
  have h':Q (.exit id) ρ w.heap:=by cases x<;>exact h
  exact wp_exit (hq _ ρ a w hf (.refl _) (.refl _ _) h')
 | .region id ops d,x,Q,Q',ρ,a,w,h,hf,hq=>by
  cases x<;>simp only[lF]at h
  exact Ω h hf λρ' a' w' b p r g=>hq _ ρ' a' w' b p r g
 | .seq c1 c2,x,Q,Q',ρ,a,w,h,hf,hq=>by
  cases x<;>simp only[lF]at h
  case seq x y=>
   refine wp_seq (Kb c1 h hf λe ρ' a' w' b p r g=>?_);cases e
   case normal=>exact Kb c2 g b λe ρ'' A z j s C F=>hq e ρ'' A z j (p.trans s) (r.trans C) F
   all_goals exact hq _ ρ' a' w' b p (r.mono λi u=>mr _ u) g
  case jc js x y=>
   rw[WH]at h;obtain⟨D,J,Y,h⟩:=h;refine wp_seq (Kb c1 h hf λe ρ' a' w' b p r g=>?_);cases e
   case normal=>
    obtain⟨vs,S,G⟩:=Aj g;have E:=U7 (G.mono Y);have U:=VV js (H9 b r) b S;refine Kb c2 E U λe ρ'' A z j s C F=>hq e ρ'' A z j (p.trans s) ?_ F;have Z:=(GP (gU c1) ρ).trans (Vh (gU c1) js (ρ.fB (gU c1)) vs D);exact(Z.trans C).mono λi u=>by
     simp only[gU,zP]at u ⊢;rcases u with(h|h)|h
     ·exact Or.inl h
     ·exact Or.inl h
     ·exact Or.inr h
   all_goals exact hq _ ρ' a' w' b p (r.mono λi u=>mr _ u) g
 | .cond c c1 c2,x,Q,Q',ρ,a,w,h,hf,hq=>by
  cases x<;>simp only[lF]at h
  obtain⟨t,V,h⟩:=UR h;refine wp_cond_split (hf.ev _ _ V) (λe=>?_) (λe=>?_)
  ·exact Kb c1 (h.t e) hf λe ρ' a' w' b p r g=>hq e ρ' a' w' b p (r.mono λi u=>mr _ u) g
  ·exact Kb c2 (h.f e) hf λe ρ' a' w' b p r g=>hq e ρ' a' w' b p (r.mono λi u=>qg _ u) g
 | .block id c1,x,Q,Q',ρ,a,w,h,hf,hq=>by
  cases x<;>simp only[lF]at h
  refine wp_block (Kb c1 h hf λe ρ' a' w' b p r g=>?_);cases e
  case exit i=>
   simp only[Jd]at g;simp only[Exit.inBlock];split at g
   ·rename_i e;have R:i=id:=lL e;rw[zB R];exact hq _ ρ' a' w' b p r g
   ·rename_i e;have R:i≠id:=λh=>by subst h;simp at e
    rw[zA R];exact hq _ ρ' a' w' b p r g
  all_goals exact hq _ ρ' a' w' b p r g
 | .loop c1,x,Q,Q',ρ,a,w,h,hf,hq=>by
  cases x<;>simp only[lF]at h
  rename_i js x;rw[WH]at h;obtain⟨D,I,μ,G,X⟩:=h;refine Og (λn a' w'=>∃vs,Fits N (je (ρ.fB (gU c1)) js vs) a'/\ZV w w'/\Sat (py js) (tG (py js) I μ (· = n)) vs w'.heap) ?_ ?_
  ·obtain⟨vs,S,G⟩:=Aj G;obtain⟨n,M⟩:=I3 μ G;exact⟨n,vs,VV js (hf.weaken (Be _ _)) hf S,.refl _,M⟩
  ·rintro n a' w' ⟨vs,b,p,M⟩;have:=U7 (M.mono (X n));have kJ:=(GP (gU c1) ρ).trans (Vh (gU c1) js (ρ.fB (gU c1)) vs D);refine Kb c1 this b λe ρ'' A z j s r g=>?_;have B:VL (gU c1) ρ ρ'':=(kJ.trans r).mono λi u=>by
    simp only[zP]at u;rcases u with(h|h)|h<;>exact h
   cases e
   case normal=>
    obtain⟨L,K,E⟩:=Aj g;obtain⟨m,W,H⟩:=FJ E;exact⟨m,W,L,VV js (H9 j B) j K,p.trans s,H⟩
   all_goals exact hq _ ρ'' A z j (p.trans s) B g
 | .scope c1,x,Q,Q',ρ,a,w,h,hf,hq=>by
  cases x<;>simp only[lF]at h
  refine wp_scope_straight (Kb c1 h hf λe ρ' a' w' b p r g=>?_);cases e
  case goto l=>exact g.elim
  all_goals exact hq _ ρ' a' w' b p r g
 | .label l,x,Q,Q',ρ,a,w,h,hf,hq=>by
  have h':Q .normal ρ w.heap:=by cases x<;>exact h
  exact wp_label (hq _ ρ a w hf (.refl _) (.refl _ _) h')
 | .rangeFunc ..,x,Q,Q',ρ,a,w,h,hf,hq=>(by cases x<;>simp only[lF]at h)
 | .goto ..,x,Q,Q',ρ,a,w,h,hf,hq=>(by cases x<;>simp only[lF]at h)
 | .refuse ..,x,Q,Q',ρ,a,w,h,hf,hq=>(by cases x<;>simp only[lF]at h)
def pE (P:Program)(r:ResultVar)(s:SK)(ρ:Env)(h:Hp)(K:List Value->Prop):Prop:=
 match r,s with
 | .tmp t,.one _=>wv (ρ t) λv=>K [v]
 | .tmp t,.agg cs=>wv (ρ t) λv=>match v with
  | .agg a=>gQ (a.size==cs.length) (K a.toList)
  | _=>False
 | .cell a t,.one c=>wv (ρ a) λv=>match v,ky P t with
  | .pointer (some ad),some (.one _)=>yr c ad h λx=>K [c.v x]
  | _,_=>False
 | .cell a t,.agg cs=>wv (ρ a) λv=>match v,ky P t with
  | .pointer (some ad),some (.agg _)=>gQ (P.cellsOf t==cs.length&&(P.info? t).isSome) (om cs ad 0 h λvs=>K vs)
  | _,_=>False
def pO (P:Program):List ResultVar->List SK->Env->Hp->(List Value->Prop)->Prop
 | [],[],_,_,K=>K []
 | r::rs,s::ss,ρ,h,K=>pE P r s ρ h λvs=>pO P rs ss ρ h λus=>K (vs++us)
 | _,_,_,_,_=>False
def wG (P:Program)(fn:Func)(rs:List SK)(R:eJ (iK rs)):Exit->Env->Hp->Prop
 | .normal,ρ,h=>pO P fn.results.toList rs ρ h λvs=>wR (iK rs) R vs h
 | .ret,ρ,h=>pO P fn.results.toList rs ρ h λvs=>wR (iK rs) R vs h
 | _,_,_=>False
def Cs (vs:List Value):Env:=λi=>vs[i]?
def Mo (P:Program)(fn:Func)(x:Hn)(args:List Value)(rs:List SK)(R:eJ (iK rs))(h:Hp):Prop:=
 match fn.body with
 | some c=>gQ (Nat.ble args.length fn.ntmps) (lF P fn.ntmps c x (wG P fn rs R) (Cs args) h)
 | none=>False
def Hk:SK->List Value->Value
 | .one _,[v]=>v
 | .one _,_=>undef
 | .agg _,vs=>.agg vs.toArray
def uw (tmps:Array Value):ResultVar->Sem Value
 | .tmp t=>pure (tmps.getD t undef)
 | .cell b t=>do loadVar t (←asAddr (tmps.getD b undef))
theorem Ra (fn:Func)(tmps:Array Value):results fn tmps=(do
 let vs ←fn.results.mapM (uw tmps)
 pure (if h:vs.size=1 then vs[0]else .tuple vs)):=by
 unfold results
 congr 1
theorem TQ {P:Program}{r:ResultVar}{s:SK}{ρ:Env}{K:List Value->Prop}{a:Act}{N:Nat}{w:World}(hf:Fits N ρ a)(h:pE P r s ρ w.heap K) :
 ∃vs,vs.length=s.ks.length/\K vs/\(uw a.tmps r).run P w=.ok (Hk s vs) w:=by
 unfold pE at h;split at h
 ·rename_i t c;obtain⟨v,g,e⟩:=Wr h;refine⟨[v],rfl,e,?_⟩;simp[uw,sG,hf.at_ _ _ g,Hk]
 ·rename_i t cs;obtain⟨v,g,e⟩:=Wr h;split at e
  ·rename_i ar;rw[WH]at e;refine⟨ar.toList,by simpa[SK.ks]using e.1,e.2,?_⟩;simp[uw,sG,hf.at_ _ _ g,Hk]
  ·exact e.elim
 ·rename_i b t c;obtain⟨v,g,e⟩:=Wr h;split at e
  ·rename_i ad c' hs;obtain⟨d,hd,i⟩:=Iu hs;obtain⟨x,p,e⟩:=Em e;refine⟨[c.v x],rfl,e,?_⟩;simp only[uw,sG,hf.at_ _ _ g,px,asAddr,Sem.run_bind,Sem.run_pure,Result.andThen_ok,loadVar,KT hd,i,Hk];simpa using Et p
  ·exact e.elim
 ·rename_i b t cs;obtain⟨v,g,e⟩:=Wr h;split at e
  ·rename_i ad cs' hs;rw[WH]at e;obtain⟨j,e⟩:=e;simp only[zF,zZ]at j;obtain⟨d,hd,i⟩:=JV hs;obtain⟨vs,u,e,m⟩:=CV (P:=P) e;refine⟨vs,u,e,?_⟩;simp only[uw,sG,hf.at_ _ _ g,px,asAddr,Sem.run_bind,Sem.run_pure,Result.andThen_ok,loadVar,KT hd,i,zV,QU j.2,loadCells,j.1,m,Hk];simp
  ·exact e.elim
theorem Il {P:Program}{ρ:Env}{a:Act}{N:Nat}{w:World}(hf:Fits N ρ a):∀{rv:List ResultVar} {rs:List SK} {K:List Value->Prop},pO P rv rs ρ w.heap K →
 ∃vs,K vs/\(rv.mapM (uw a.tmps)).run P w=.ok (qF rs vs) w
 | [],[],K,h=>⟨[],h,by simp[qF]⟩
 | r::rv,s::rs,K,h=>by
  obtain⟨v1,hl,hK,hr⟩:=TQ hf h;obtain⟨e,b,d⟩:=Il hf hK;refine⟨v1++e,b,?_⟩;simp only[List.mapM_cons,Sem.run_bind,hr,Result.andThen_ok,d,Sem.run_pure];cases s with
  | one c=>
   match v1,hl with
   | [v],_=>simp[qF,Hk]
  | agg cs=>
   simp only[SK.ks]at hl;simp only[qF,Hk,←hl,List.take_left,List.drop_left]
 | [],_::_,K,h=>h.elim
 | _::_,[],K,h=>h.elim
theorem JY {P:Program}{fn:Func}{ρ:Env}{a:Act}{N:Nat}{w:World}{rs:List SK}{K:List Value->Prop}(hf:Fits N ρ a)(h:pO P fn.results.toList rs ρ w.heap K) :
 ∃vs,K vs/\(results fn a.tmps).run P w=.ok (pack rs vs) w:=by
 obtain⟨vs,d,b⟩:=Il hf h;refine⟨vs,d,?_⟩;rw[Ra,Array.mapM_eq_mapM_toList];simp only[Sem.run_bind,Sem.run_map,b,Result.andThen_ok,Sem.run_pure,pack];split
 ·rename_i h1
  match hp:qF rs vs,h1 with
  | [v],_=>simp
 ·rename_i h1
  match hp:qF rs vs,h1 with
  | [],_=>rfl
  | [v],h1=>simp at h1
  | _::_::_,_=>rfl
theorem R0 {a b:Prop}(f:b)(e:a=b:=by kernel_rfl):a:=e.mpr f
theorem Wa {P:Program}{f:Nat}{fn:Func}{x:Hn}{args:List Value}{rs:List SK}{R:eJ (iK rs)}{h:Hp}(hfn:P.funcs[f]?=some fn)(hk:Mo P fn x args rs R h):We P f args.toArray rs h R:=by
 intro w hw;subst hw;unfold Mo at hk;split at hk
 case h_2=>exact hk.elim
 rename_i c hb;rw[WH]at hk;obtain⟨d,hk⟩:=hk;have r:args.length<=fn.ntmps:=Nat.le_of_ble_eq_true d;refine calls_of_wp hfn hb ?_;refine Kb c hk (ρ:=Cs args) ⟨rfl,by simp;omega,λi v g=>?_⟩ λe y z u a s A b=>?_
 ·simp only[Cs]at g;have m:i<args.length:=(cS.1 g).1;rw[D7 (by simpa using m)];simpa using g
 ·cases e<;>simp only[wG]at b
  case normal=>
   obtain⟨vs,p,j⟩:=JY a b;exact⟨a.defers,_,j,s,vs,rfl,Ah p⟩
  case ret=>
   obtain⟨vs,p,j⟩:=JY a b;exact⟨a.defers,_,j,s,vs,rfl,Ah p⟩
theorem LW {start:eJ []->Prop}{round:eJ []->eJ []}(I:aP)(μ:Hp->Nat)(h0:start I)
 (hr:∀h,I h->round (λh'=>I h'/\μ h'<μ h) h):WR [] start round:=
 ⟨I,μ,h0,λ_ h ⟨b,a⟩=>a▸hr h b⟩
theorem ZP {a:CK}{start:eJ [a]->Prop}{round:eJ [a]->eJ [a]}(I:a.T->Hp->Prop)(μ:a.T->Hp->Nat)(h0:start I)
 (hr:∀x h,I x h->round (λx' h'=>I x' h'/\μ x' h'<μ x h) x h):WR [a] start round:=
 ⟨I,μ,h0,λ_ x h ⟨b,d⟩=>d▸hr x h b⟩
theorem Kh {a bb:CK}{start:eJ [a,bb]->Prop}{round:eJ [a,bb]->eJ [a,bb]}(I:a.T->bb.T->Hp->Prop)(μ:a.T->bb.T->Hp->Nat)(h0:start I)
 (hr:∀x y h,I x y h->round (λx' y' h'=>I x' y' h'/\μ x' y' h'<μ x y h) x y h):WR [a,bb] start round:=
 ⟨I,μ,h0,λ_ x y h ⟨b,d⟩=>d▸hr x y h b⟩
theorem Im {a bb c:CK}{start:eJ [a,bb,c]->Prop}{round:eJ [a,bb,c]->eJ [a,bb,c]}(I:a.T->bb.T->c.T->Hp->Prop)(μ:a.T->bb.T->c.T->Hp->Nat)(h0:start I)
 (hr:∀x y z h,I x y z h->round (λx' y' z' h'=>I x' y' z' h'/\μ x' y' z' h'<μ x y z h) x y z h):WR [a,bb,c] start round:=
 ⟨I,μ,h0,λ_ x y z h ⟨b,d⟩=>d▸hr x y z h b⟩
theorem Fm {a bb c d e:CK}{start:eJ [a,bb,c,d,e]->Prop}{round:eJ [a,bb,c,d,e]->eJ [a,bb,c,d,e]}(I:a.T->bb.T->c.T->d.T->e.T->Hp->Prop)(μ:a.T->bb.T->c.T->d.T->e.T->Hp->Nat)(h0:start I)
 (hr:∀x y z u v h,I x y z u v h->round (λx' y' z' u' v' h'=>I x' y' z' u' v' h'/\μ x' y' z' u' v' h'<μ x y z u v h) x y z u v h):WR [a,bb,c,d,e] start round:=
 ⟨I,μ,h0,λ_ x y z u v h ⟨g,b⟩=>b▸hr x y z u v h g⟩
theorem aG {a:Addr}{K:Addr->Prop}(h:K a):bQ (some a) K:=⟨a,rfl,h⟩
theorem nV {k:IntKind}{a:Addr}{h:Hp}{n:Int}{K:Int->Prop}(hc:cell h a=some (.int k n))(hK:K n):eW k a h K:=⟨n,hc,hK⟩
theorem lu {a:Addr}{h:Hp}{n:Bool}{K:Bool->Prop}(hc:cell h a=some (.bool n))(hK:K n):j8 a h K:=⟨n,hc,hK⟩
theorem tD {a:Addr}{h:Hp}{n:Option Addr}{K:Option Addr->Prop}(hc:cell h a=some (.pointer n))(hK:K n):fX a h K:=⟨n,hc,hK⟩
theorem Mb {a:Addr}{h:Hp}{n:Option Nat}{K:Option Nat->Prop}(hc:cell h a=some (.map n))(hK:K n):m0 a h K:=⟨n,hc,hK⟩
theorem ox {a:Addr}{h:Hp}{x:Option Addr}{n c:Nat}{K:Sl->Prop}(hc:cell h a=some (.slice x n c))(hK:K ⟨x,n,c⟩):jB a h K:=⟨⟨x,n,c⟩,hc,hK⟩
theorem UV {e:Int}(h1 : -9223372036854775808<=e)(h2:e<=9223372036854775807):IntKind.i64.wrap e=e:=by
 unfold IntKind.wrap;simp[IntKind.bits,IntKind.signed];omega
theorem ar {e:Int}{K:Int->Prop}(h1 : -9223372036854775808<=e)(h2:e<=9223372036854775807)(hK:K e):Ar .i64 e K:=by
 unfold Ar;rw[UV h1 h2];exact hK
theorem TW (e:Int) : -9223372036854775808<=IntKind.i64.wrap e/\IntKind.i64.wrap e<=9223372036854775807:=by
 unfold IntKind.wrap;simp[IntKind.bits,IntKind.signed];omega
theorem nz {y:Int}{A:Prop}(h:y≠0)(hA:A):Nz y A:=⟨h,hA⟩
theorem nn {y:Int}{A:Prop}(h:0<=y)(hA:A):Nn y A:=⟨h,hA⟩
theorem ix {a:Addr}{n:Nat}{i:Int}{sz:Nat}{K:Addr->Prop}(h0:0<=i)(h1:i<(n:Int))(hK:K (a.add (i.toNat*sz))):Ix (some a) n i sz K:=⟨a,rfl,h0,h1,hK⟩
theorem cN {b:Bool}{A B:Prop}(h1:b=true->A)(h2:b=false->B):If b A B:=If.mk h1 h2
theorem cH {p:Prop}[Decidable p]{A B:Prop}(h1:p->A)(h2:¬p->B):If (decide p) A B:=
 If.mk (λh=>h1 (ot h)) (λh=>h2 (rU h))
theorem cJ {b:Bool}{A B:Prop}(hb:b=true)(h:A):If b A B:=by subst hb;exact h
theorem cF {b:Bool}{A B:Prop}(hb:b=false)(h:B):If b A B:=by subst hb;exact h
theorem mh {p:Prop}[Decidable p]{A B:Prop}(hp:p)(h:A):If (decide p) A B:=cJ (by simpa using hp) h
theorem fH {p:Prop}[Decidable p]{A B:Prop}(hp:¬p)(h:B):If (decide p) A B:=cF (by simpa using hp) h
theorem Ju (a:Int)(n:Nat):a.fdiv (2^n)=a/2^n:=Int.fdiv_eq_ediv_of_nonneg _ (Int.le_of_lt (Int.pow_pos aB))
theorem Xq {a b:Int}(h:0<=a):a.tdiv b=a/b:=Int.tdiv_eq_ediv_of_nonneg h
theorem Q4 {a b:Int}(h:0<=a):a.tmod b=a%b:=Int.tmod_eq_emod_of_nonneg h
def bW (h:Hp)(b:Nat)(cs:List Value):Prop:=∃e,h[b]?=some (.cells cs.toArray e (0,0))
theorem bW.lt {h:Hp}{b:Nat}{cs:List Value}(hb:bW h b cs):b<h.size:=by
 obtain⟨e,a⟩:=hb;exact(mT.1 a).1
theorem bW.cell {h:Hp}{b o:Nat}{cs:List Value}(hb:bW h b cs):cell h ⟨b,o,none⟩=cs[o]? := by
 obtain⟨e,a⟩:=hb;simp[Vc.cell,a]
theorem bW.pc {h:Hp}{b o:Nat}{cs:List Value}(hb:bW h b cs):pc h ⟨b,o,none⟩=false:=by
 obtain⟨e,a⟩:=hb;simp[Vc.pc,a]
theorem bW.set {h:Hp}{b o:Nat}{cs:List Value}(hb:bW h b cs)(v:Value):bW (kr h ⟨b,o,none⟩ v) b (cs.set o v):=by
 obtain⟨e,a⟩:=hb;refine⟨e,?_⟩;simp[kr,AA,a]
theorem V2 {h:Hp}{a:Addr}{v:Value}{b:Nat}(hne:b≠a.block):(kr h a v)[b]?=h[b]? := by
 simp only[kr,AA];rw[zA (Ne.symm hne)]
theorem add_lit (b o n:Nat):Addr.add ⟨b,o,none⟩ n=⟨b,o+n,none⟩:=Addr.add_lit b o n
def nu (h:Hp)(b:Nat)(cs:List Value):Prop:=∃e z,h[b]?=some (.cells cs.toArray e z)
theorem bW.q {h:Hp}{b:Nat}{cs:List Value}(hb:bW h b cs):nu h b cs:=by
 obtain⟨e,a⟩:=hb;exact⟨e,_,a⟩
theorem nu.lt {h:Hp}{b:Nat}{cs:List Value}(hb:nu h b cs):b<h.size:=by
 obtain⟨e,z,a⟩:=hb;exact(mT.1 a).1
theorem nu.cell {h:Hp}{b o:Nat}{cs:List Value}(hb:nu h b cs):cell h ⟨b,o,none⟩=cs[o]? := by
 obtain⟨e,z,a⟩:=hb;simp[Vc.cell,a]
def Ext (F:Nat->Prop)(h h':Hp):Prop:=h.size<=h'.size/\∀b,b<h.size->¬F b->h'[b]?=h[b]?
def bO (h h':Hp):Prop:=Ext (λ_=>False) h h'
theorem Ext.refl (F:Nat->Prop)(h:Hp):Ext F h h:=⟨zC _,λ_ _ _=>rfl⟩
theorem Ext.trans {F:Nat->Prop}{a b c:Hp}(h:Ext F a b)(k:Ext F b c):Ext F a c:=
 ⟨zI h.1 k.1,λi e d=>(k.2 i (vL e h.1) d).trans (h.2 i e d)⟩
theorem Ext.mono {F G:Nat->Prop}{a b:Hp}(h:Ext F a b)(hs:∀i,i<a.size->F i->G i):Ext G a b:=
 ⟨h.1,λi d g=>h.2 i d λe=>g (hs i d e)⟩
theorem bO.to {F:Nat->Prop}{a b:Hp}(h:bO a b):Ext F a b:=Ext.mono h λ_ _ h=>h.elim
theorem Ext.lX {F:Nat->Prop}{a b c:Hp}(h:Ext F a b)(k:bO b c):Ext F a c:=h.trans k.to
theorem Ext.size {F:Nat->Prop}{a b:Hp}(h:Ext F a b):a.size<=b.size:=h.1
theorem Ext.push (F:Nat->Prop)(h:Hp)(o:Obj):Ext F h (h.push o):=
 ⟨by simp,λb a _=>by rw[yE,zA (xV a)]⟩
theorem Ext.eR {F:Nat->Prop}{h h':Hp}{r:Nat}(ho:QJ h h' r)(hr:F r):Ext F h h':=
 ⟨Nat.le_of_eq ho.1.symm,λb _ a=>ho.2 b λe=>a (e▸hr)⟩
theorem Ext.kr {F:Nat->Prop}{h:Hp}{a:Addr}{v:Value}(hr:F a.block):Ext F h (kr h a v):=
 ⟨Nat.le_of_eq (Vt h a v).symm,λb _ d=>V2 λe=>d (e▸hr)⟩
theorem Ext.at_ {F:Nat->Prop}{h h':Hp}(e:Ext F h h'){b:Nat}{o:Obj}(hb:h[b]?=some o)(hf:¬F b):h'[b]?=some o:=by
 rw[e.2 b (mT.1 hb).1 hf];exact hb
theorem Ext.cA {F:Nat->Prop}{h h':Hp}(e:Ext F h h'){b:Nat}{cs:List Value}(hb:bW h b cs)(hf:¬F b):bW h' b cs:=by
 obtain⟨t,a⟩:=hb;exact⟨t,e.at_ a hf⟩
theorem Ext.gN {F:Nat->Prop}{h h':Hp}(e:Ext F h h'){r:Nat}{k:IntKind}{c:CK}{l:List (Int×c.T)}(hb:dN h r k c l)(hf:¬F r):dN h' r k c l:=by
 obtain⟨d,a,b,rest⟩:=hb;exact⟨d,a,e.at_ b hf,rest⟩
theorem dN.lt {h:Hp}{r:Nat}{k:IntKind}{c:CK}{l:List (Int×c.T)}(hb:dN h r k c l):r<h.size:=by
 obtain⟨d,b,a,_⟩:=hb;exact(mT.1 a).1
theorem dN.nodup {h:Hp}{r:Nat}{k:IntKind}{c:CK}{l:List (Int×c.T)}(hb:dN h r k c l):(l.map (·.1)).Nodup:=by
 obtain⟨e,a,d,_,b,_⟩:=hb;exact b
theorem Wp {h h':Hp}{r b:Nat}{cs:List Value}(ho:QJ h h' r)(hb:bW h b cs)(hne:b≠r):bW h' b cs:=by
 obtain⟨t,a⟩:=hb;exact⟨t,by rw[ho.2 b hne];exact a⟩
theorem HO {h h':Hp}{r b:Nat}{k:IntKind}{c:CK}{l:List (Int×c.T)}(ho:QJ h h' r)(hb:dN h b k c l)(hne:b≠r):dN h' b k c l:=by
 obtain⟨e,a,d,rest⟩:=hb;exact⟨e,a,by rw[ho.2 b hne];exact d,rest⟩
end Go.Vc
namespace Go.Bu
open Go Go.Vc
theorem M6 {a b:Nat}(ha:a<9223372036854775808)(hb:b<9223372036854775808):bits .xor .i64 (a:Int) (b:Int)=((a ^^^ b:Nat):Int):=by
 have g:a ^^^ b<2^63:=Nat.xor_lt_two_pow O O;have d:(BitVec.ofInt 64 (a:Int)).toNat=a:=by
  rw[BitVec.ofInt_natCast,BitVec.toNat_ofNat];exact vq O
 have e:(BitVec.ofInt 64 (b:Int)).toNat=b:=by
  rw[BitVec.ofInt_natCast,BitVec.toNat_ofNat];exact vq O
 show IntKind.i64.wrap ((BitVec.ofInt 64 (a:Int) ^^^ BitVec.ofInt 64 (b:Int)).toNat:Int)=_;rw[BitVec.toNat_xor,d,e,UV]<;>omega
theorem jx {a b:Nat}(ha:a<9223372036854775808)(hb:b<9223372036854775808):bits .and .i64 (a:Int) (b:Int)=((a &&& b:Nat):Int):=by
 have g:a &&& b<2^63:=Nat.and_lt_two_pow _ O;have d:(BitVec.ofInt 64 (a:Int)).toNat=a:=by
  rw[BitVec.ofInt_natCast,BitVec.toNat_ofNat];exact vq O
 have e:(BitVec.ofInt 64 (b:Int)).toNat=b:=by
  rw[BitVec.ofInt_natCast,BitVec.toNat_ofNat];exact vq O
 show IntKind.i64.wrap ((BitVec.ofInt 64 (a:Int) &&& BitVec.ofInt 64 (b:Int)).toNat:Int)=_;rw[BitVec.toNat_and,d,e,UV]<;>omega
theorem Rm (q:Nat):q ^^^ 1=iw q:=by
 apply Nat.eq_of_testBit_eq;intro i;rw[Nat.testBit_xor];unfold iw;cases i with
 | zero=>
  simp only[Nat.testBit_zero];split<;>rename_i h
  ·have:(q+1)%2=1:=by omega
   simp[h,this]
  ·have b:q%2=1:=by omega
   have:(q-1)%2=0:=by omega
   simp[b,this]
 | succ i=>
  simp only[Nat.testBit_succ];have a:(1:Nat)/2=0:=by decide
  rw[a,Nat.zero_testBit,Bool.xor_false]
  congr 1
  split<;>omega
theorem Wmc (q k:Nat):(q*2^k) ^^^ (2^k)=iw q*2^k:=by
 have h:=Nat.shiftLeft_xor_distrib (a:=q) (b:=1) (i:=k);rw[Rm,Nat.shiftLeft_eq,Nat.shiftLeft_eq,Nat.shiftLeft_eq,Nat.one_mul]at h;exact h.symm
theorem JA {k:Nat}(h:k<=62):2^k<=4611686018427387904:=pA (n:=2) aB h
def Keys (S:Nat->Bool)(k:Nat)(B:List (Int×Bool)):Prop:=
 (∀x v,(x,v)∈B->v=true/\∃q:Nat,x=((q*2^k:Nat):Int)/\can S k q=true)/\∀q,can S k q=true->(((q*2^k:Nat):Int),true)∈B
structure BH (σ:Hp) (p n:Nat) (S:Nat->Bool) (sb:Nat) (ms:List Nat):Prop where
 hd:∃cap,bW σ p [.int .i64 n,.slice (some ⟨sb,0,none⟩) ms.length cap]
 row:∃rest,bW σ sb (ms.map (λm=>Value.map (some m))++rest)
 maps:∀k m,ms[k]?=some m->∃B:List (Int×Bool),dN σ m .i64 .b B/\Keys S k B
 nd:(p::sb::ms).Nodup
 n1:1<=n
 n2:n<=1024
 lo:2^ms.length<=2*n
 hi:n<2^ms.length
 jK:Bounded S n
def fp (p sb:Nat)(ms:List Nat)(b:Nat):Prop:=b∈p::sb::ms
variable {σ h':Hp}{p n sb:Nat}{S:Nat->Bool}{ms:List Nat}
theorem BH.len (h:BH σ p n S sb ms):ms.length<=11:=by
 have:=h.lo;have:=h.n2;apply Classical.byContradiction;intro hc;have:2^12<=2^ms.length:=pA aB O;omega
theorem BH.fits (h:BH σ p n S sb ms){k q:Nat}(hf:q*2^k+2^k<=n):k<ms.length:=by
 apply Classical.byContradiction;intro hc;have:2^ms.length<=2^k:=pA aB O;have:=h.hi;omega
theorem BH.Ε (h:BH σ p n S sb ms):cell σ ⟨p,0,none⟩=some (.int .i64 n):=by
 obtain⟨cap,a⟩:=h.hd;rw[a.cell];rfl
theorem BH.lu (h:BH σ p n S sb ms):∃cap,cell σ ⟨p,1,none⟩=some (.slice (some ⟨sb,0,none⟩) ms.length cap):=by
 obtain⟨cap,a⟩:=h.hd;exact⟨cap,by rw[a.cell];rfl⟩
theorem BH.Ss (h:BH σ p n S sb ms){k m:Nat}(hm:ms[k]?=some m):cell σ ⟨sb,k,none⟩=some (.map (some m)):=by
 obtain⟨rest,a⟩:=h.row;rw[a.cell,zg (by simpa using(cS.1 hm).1),ze,hm];rfl
theorem BH.get (h:BH σ p n S sb ms){k:Nat}(hk:k<ms.length):∃m,ms[k]?=some m:=⟨ms[k],by simp[hk]⟩
theorem BH.bU (h:BH σ p n S sb ms){F:Nat->Prop}(e:Ext F σ h')(hF:∀b,fp p sb ms b->¬F b):BH h' p n S sb ms where
 hd:=by obtain⟨cap,a⟩:=h.hd;exact⟨cap,e.cA a (hF _ (by simp[fp]))⟩
 row:=by obtain⟨rest,a⟩:=h.row;exact⟨rest,e.cA a (hF _ (by simp[fp]))⟩
 maps:=λk m d=>by
  obtain⟨B,g,i⟩:=h.maps k m d;exact⟨B,e.gN g (hF _ (by simp[fp,zE d])),i⟩
 nd:=h.nd
 n1:=h.n1
 n2:=h.n2
 lo:=h.lo
 hi:=h.hi
 jK:=h.jK
theorem BH.bK (h:BH σ p n S sb ms)(e:bO σ h'):BH h' p n S sb ms:=h.bU e λ_ _=>id
theorem Wls {k:Nat}{B:List (Int×Bool)}(hK:Keys S k B)(hn:(B.map (·.1)).Nodup)(q:Nat):bV B ((q*2^k:Nat):Int)=if can S k q then some true else none:=by
 unfold bV;cases hf:B.find? λx=>x.1==((q*2^k:Nat):Int)with
 | some x=>
  have i:=tQ hf;have a:=uQ hf;obtain⟨e,m⟩:=x;obtain⟨j,p,g,b⟩:=hK.1 e m a;have d:e=((q*2^k:Nat):Int):=by simpa using i
  rw[d]at g;have:q*2^k=p*2^k:=by exact_mod_cast g
  have:=wC (kY k) this;subst this;subst j;simp[b]
 | none=>
  rw[oV]at hf;by_cases b:can S k q=true
  ·have:=hf _ (hK.2 q b);simp at this
  ·simp[b]
theorem BH.lk (h:BH σ p n S sb ms){k m q:Nat}(hm:ms[k]?=some m){x:Int}(hx:x=((q*2^k:Nat):Int)){K:Option Bool->Prop}
 (hK:K (if can S k q then some true else none)):Lk .i64 .b (some m) x σ K:=by
 obtain⟨B,a,d⟩:=h.maps k m hm;exact⟨B,a,by rw[hx,Wls d a.nodup];exact hK⟩
theorem Jo {k:Nat}{B:List (Int×Bool)}(hK:Keys S k B)(hn:(B.map (·.1)).Nodup)(hb:Bounded S n):B.length=many n S k:=by
 have m:(B.map (·.1)).Perm (((List.range n).filter (can S k)).map λq=>((q*2^k:Nat):Int)):=by
  rw[xo hn]
  ·intro x;simp only[zD,zH,zW];constructor
   ·rintro⟨⟨x1,x2⟩,hm,rfl⟩;obtain⟨_,q,p,d⟩:=hK.1 x1 x2 hm;refine⟨q,⟨?_,d⟩,p.symm⟩;have:=ZX hb (ZR.1 d).1;have j:=kY k;have r:q<=q*2^k:=Ed _ j;omega
   ·rintro⟨q,⟨_,d⟩,rfl⟩;exact⟨_,hK.2 q d,rfl⟩
  ·have g:((List.range n).filter (can S k)).Pairwise (· ≠ ·):=List.Pairwise.sublist sk xB;refine List.Pairwise.map _ (λa b (e:a≠b) i=>e ?_) g;have:a*2^k=b*2^k:=by exact_mod_cast i
   exact wC (kY k) this
 have:=m.length_eq;simp only[za]at this;rw[this,many,wW]
theorem BH.ln (h:BH σ p n S sb ms){k m:Nat}(hm:ms[k]?=some m){K:Int->Prop}(hK:K ((many n S k:Nat):Int)):oC .i64 .b (some m) σ K:=by
 obtain⟨B,a,d⟩:=h.maps k m hm;exact⟨B,a,by rw[Jo d a.nodup h.jK];exact hK⟩
theorem BH.qt (h:BH σ p n S sb ms){k m:Nat}{T:Nat->Bool}(hm:ms[k]?=some m)(ho:QJ σ h' m){B':List (Int×Bool)}(hB':dN h' m .i64 .b B')(hK':Keys T k B')
 (hoth:∀j q,j≠k->can T j q=can S j q) (hT:Bounded T n):BH h' p n T sb ms where
 hd:=by
  obtain⟨cap,i⟩:=h.hd;refine⟨cap,Wp ho i ?_⟩;have:=h.nd;simp only[zo,zT,not_or]at this;rintro rfl;exact this.1.2 (zE hm)
 row:=by
  obtain⟨rest,i⟩:=h.row;refine⟨rest,Wp ho i ?_⟩;have:=h.nd;simp only[zo,zT,not_or]at this;rintro rfl;exact this.2.1 (zE hm)
 maps:=λj y a=>by
  by_cases e:j=k
  ·subst e;rw[hm]at a;cases a;exact⟨B',hB',hK'⟩
  ·obtain⟨B,u,d⟩:=h.maps j y a;refine⟨B,HO ho u ?_,?_⟩
   ·rintro rfl;have g:=h.nd;simp only[zo]at g;exact e ((List.getElem?_inj (cS.1 a).1 g.2.2).1 (a.trans hm.symm))
   ·refine⟨λx v z=>?_,λq s=>d.2 q (by rw[←hoth j q e];exact s)⟩;obtain⟨A,q,r,w⟩:=d.1 x v z;exact⟨A,q,r,by rw[hoth j q e];exact w⟩
 nd:=h.nd
 n1:=h.n1
 n2:=h.n2
 lo:=h.lo
 hi:=h.hi
 jK:=hT
theorem Β (hb:Bounded S n)(k q:Nat):Bounded (del S k q) n:=λx a=>hb x (VR.1 a).1
theorem LU (hb:Bounded S n){k q:Nat}(hf:q*2^k+2^k<=n):Bounded (ins S k q) n:=λx a=>by
 rcases VN.1 a with h|h
 ·exact hb x h
 ·have:=Qh.1 h;omega
theorem EW {a b:Bool}(h:a=true↔b=true):a=b:=by cases a<;>cases b<;>simp_all
theorem BH.sr (h:BH σ p n S sb ms){k m q:Nat}(hm:ms[k]?=some m)(hc:can S k q=true){x:Int}(hx:x=((q*2^k:Nat):Int)){K:aP}
 (hK:∀h',Ext (· ∈ ms) σ h'->BH h' p n (del S k q) sb ms->K h'):mL .i64 .b (some m) x σ K:=by
 obtain⟨B,z,u⟩:=h.maps k m hm;refine⟨B,z,λh' w _ i=>hK h' (Ext.eR (w m rfl) (zE hm)) ?_⟩;refine h.qt hm (w m rfl) i ⟨λy v s=>?_,λr C=>?_⟩ (λj r D=>EW ?_) (Β h.jK k q)
 ·simp only[cT,zH,nj,nk]at s;obtain⟨A,r,a,g⟩:=u.1 y v s.1;refine⟨A,r,a,(Ei hc).2 ⟨g,λe=>s.2 ?_⟩⟩;rw[a,hx,e.2]
 ·have d:=(Ei hc).1 C;simp only[cT,zH,nj,nk];refine⟨u.2 r d.1,λe=>d.2 ⟨rfl,?_⟩⟩;rw[hx]at e;have:r*2^k=q*2^k:=by exact_mod_cast e
  exact wC (kY k) this
 ·rw[Ei hc];exact⟨λh=>h.1,λh=>⟨h,λe=>D e.1⟩⟩
theorem BH.wu (h:BH σ p n S sb ms){k m q:Nat}(hm:ms[k]?=some m)(hd:∀y,y/2^k=q->S y=false)(hup:¬full (ins S k q) (k+1) (q/2)=true)(hf:q*2^k+2^k<=n)
 {x:Int} (hx:x=((q*2^k:Nat):Int)) {K:aP} (hK:∀h',Ext (· ∈ ms) σ h'->BH h' p n (ins S k q) sb ms->K h'):ld .i64 .b (some m) x true σ K:=by
 obtain⟨B,C,w⟩:=h.maps k m hm;refine⟨m,B,rfl,C,λh' A z=>hK h' (Ext.eR A (zE hm)) ?_⟩;have i:∀y∈B,(y.1==x)=false:=by
  rintro⟨y,v⟩ d;obtain⟨_,r,a,g⟩:=w.1 y v d;simp only[nk];rintro rfl;rw[hx]at a;have:q*2^k=r*2^k:=by exact_mod_cast a
  have:=wC (kY k) this;subst this;have u:=Vb g (KH k q);rw[hd _ (KH k q)]at u;cases u
 have s:dE B x true=B++[(x,true)]:=by
  unfold dE;rw[zA];simp only[rR,np];intro y d;simp[i y d]
 refine h.qt hm A z ?_ (λj r E=>EW ?_) (LU h.jK hf)
 ·rw[s];refine⟨λy v d=>?_,λr F=>?_⟩
  ·simp only[zP,zS,Prod.mk.injEq]at d;rcases d with d|⟨rfl,rfl⟩
   ·obtain⟨D,r,a,g⟩:=w.1 y v d;exact⟨D,r,a,(AW hd hup).2 (.inl g)⟩
   ·exact⟨rfl,q,hx,(AW hd hup).2 (.inr ⟨rfl,rfl⟩)⟩
  ·rcases(AW hd hup).1 F with u|⟨_,rfl⟩
   ·exact mr _ (w.2 r u)
   ·rw[hx];exact qg _ aA
 ·rw[AW hd hup];exact⟨λh=>h.elim id λe=>(E e.1).elim,.inl⟩
end Go.Bu
namespace Go.Vc
open Go
theorem Ug {b o:Nat}:∀{vs:List Value} {h:Hp} {cs:List Value} {i:Nat} {K:aP},bW h b cs->o+i+vs.length<=cs.length →
 (∀h',QJ h h' b->bW h' b (cs.take (o+i)++vs++cs.drop (o+i+vs.length))->K h')->qJ ⟨b,o,none⟩ h vs i K
 | [],h,cs,i,K,hb,hl,hK=>hK h ⟨rfl,λ_ _=>rfl⟩ (by simpa using hb)
 | v::vs,h,cs,i,K,hb,hl,hK=>by
  simp only[zQ]at hl;refine⟨?_,?_,?_⟩
  ·rw[add_lit,hb.cell,cL O];rfl
  ·rw[add_lit];exact hb.pc
  ·rw[add_lit];have hb':=hb.set (o:=o+i) v;refine Ug hb' aE λh' g a=>hK h' ?_ ?_
   ·exact⟨g.1.trans (Vt _ _ _),λc d=>(g.2 c d).trans (V2 d)⟩
   ·have e:(cs.set (o+i) v).take (o+(i+1))++vs++(cs.set (o+i) v).drop (o+(i+1)+vs.length)=cs.take (o+i)++v::vs++cs.drop (o+i+(v::vs).length):=by
     rw[List.drop_set_of_lt O,show o+(i+1)=(o+i)+1 by omega,zf,List.take_set_of_le O,zM O];simp only[uy,kF,List.singleton_append,lZ,qn,zQ]
     congr 4
     omega
    rw[e]at a;exact a
def Own (Q:Nat->Prop)(h:Hp)(s:Sl)(sz:Nat)(xs:List Value):Prop:=
 xs.length=s.len*sz/\(s.a=none/\s.len=0/\s.cap=0\/∃b cs,Q b/\s.a=some ⟨b,0,none⟩/\bW h b cs/\s.len<=s.cap/\cs.length=s.cap*sz/\cs.take xs.length=xs)
def HP (s:Sl)(b:Nat):Prop:=∃o,s.a=some ⟨b,o,none⟩
theorem Own.nil (Q:Nat->Prop)(h:Hp)(sz:Nat):Own Q h ⟨none,0,0⟩ sz []:=⟨by simp,.inl ⟨rfl,rfl,rfl⟩⟩
theorem Own.bU {Q F:Nat->Prop}{h h':Hp}{s:Sl}{sz:Nat}{xs:List Value}(ho:Own Q h s sz xs)(e:Ext F h h')(hF:∀b,Q b->b<h.size->¬F b):Own Q h' s sz xs:=by
 refine⟨ho.1,ho.2.imp id ?_⟩;rintro⟨b,cs,hq,ha,hb,r⟩;exact⟨b,cs,hq,ha,e.cA hb (hF b hq hb.lt),r⟩
theorem Own.bK {Q:Nat->Prop}{h h':Hp}{s:Sl}{sz:Nat}{xs:List Value}(ho:Own Q h s sz xs)(e:bO h h'):Own Q h' s sz xs:=ho.bU e λ_ _ _ h=>h
theorem Own.mono {Q Q':Nat->Prop}{h:Hp}{s:Sl}{sz:Nat}{xs:List Value}(ho:Own Q h s sz xs)(hq:∀b,b<h.size->Q b->Q' b):Own Q' h s sz xs:=by
 refine⟨ho.1,ho.2.imp id ?_⟩;rintro⟨b,cs,hQ,ha,hb,r⟩;exact⟨b,cs,hq b hb.lt hQ,ha,hb,r⟩
theorem Own.jR {Q:Nat->Prop}{h:Hp}{s:Sl}{sz:Nat}{xs:List Value}(ho:Own Q h s sz xs){b:Nat}(hb:HP s b):Q b/\b<h.size:=by
 obtain⟨o,a⟩:=hb;rcases ho.2 with⟨ha,_⟩|⟨b',cs,hq,ha,hk,_⟩
 ·rw[ha]at a;cases a
 ·rw[ha]at a;cases a;exact⟨hq,hk.lt⟩
theorem Own.rd {Q:Nat->Prop}{h:Hp}{s:Sl}{sz:Nat}{xs:List Value}(ho:Own Q h s sz xs):Rd h s.a xs:=by
 rcases ho.2 with⟨ha,hl,_⟩|⟨b,cs,_,ha,hb,_,_,ht⟩
 ·rw[ha];have:=ho.1;rw[hl]at this;simp at this;exact this
 ·rw[ha];intro j v hv;rw[add_lit,hb.cell,zG];rw[←ht,zY]at hv;split at hv
  ·exact hv
  ·cases hv
theorem Own.cell {Q:Nat->Prop}{h:Hp}{s:Sl}{sz:Nat}{xs:List Value}(ho:Own Q h s sz xs){j:Nat}{v:Value}(hv:xs[j]?=some v):∃b,s.a=some ⟨b,0,none⟩/\Vc.cell h ⟨b,j,none⟩=some v:=by
 rcases ho.2 with⟨ha,hl,_⟩|⟨b,cs,_,ha,hb,_,_,ht⟩
 ·have:=ho.1;rw[hl]at this;simp at this;subst this;simp at hv
 ·refine⟨b,ha,?_⟩;rw[hb.cell];rw[←ht,zY]at hv;split at hv
  ·exact hv
  ·cases hv
theorem Own.app {Q:Nat->Prop}{h:Hp}{s x:Sl}{sz bytes e:Nat}{zs xs ys:List Value}{K:Sl->Hp->Prop}(ho:Own Q h s sz xs)(hq:∀b,h.size<=b->Q b)(hz:zs.length=sz)
 (hy:ys.length=x.len*sz) (hr:Rd h x.a ys) (h1:∀v∈ys,dM v=true) (hb:(s.len+x.len)*bytes<=2^46) (hc:s.len+x.len<=2^62)
 (hx:0<x.len) (hK:∀s' h',s'.len=s.len+x.len->Ext (HP s) h h'->Own Q h' s' sz (xs++ys)->s'.a≠none->K s' h'):App s sz bytes e zs x h K:=by
 refine⟨xs,ys,ho.1,hy,ho.rd,hr,h1,hb,hc,λg=>?_,λp c m=>?_⟩
 ·rcases ho.2 with⟨ha,hl,hcap⟩|⟨b,cs,hQ,ha,hk,hle,hcl,ht⟩
  ·omega
  ·rw[ha];simp only;rw[add_lit];have r:(s.len+x.len)*sz<=s.cap*sz:=lS _ g;rw[zl]at r;have d:=ho.1;refine Ug hk O λh' j i=>hK _ h' rfl (Ext.eR j ⟨0,ha⟩) ⟨?_,.inr ⟨b,_,hQ,rfl,i,g,?_,?_⟩⟩ aA
   ·simp[d,hy,zl]
   ·simp;omega
   ·rw[zJ,d];rw[zG,zr,←d];rw[ht,pG aA,mc aA]
 ·refine hK _ _ rfl (Ext.push _ _ _) ⟨by simp[ho.1,hy,zl],.inr ⟨h.size,xs++ys++(List.replicate (c-(s.len+x.len)) zs).flatten,hq _ (zC _),rfl,⟨e,by simp⟩,m,?_,?_⟩⟩ aA
  ·simp only[zJ,wa,uV,vR,ho.1,hy,hz,←zl]
   congr 1;omega
  ·rw[pG aA,mc aA]
theorem Wpa {h:Hp}{v:Value}{e:Nat}:Rd (h.push (.cells #[v] e (0,0))) (some ⟨h.size,0,none⟩) [v]:=by
 intro j u hu;rw[add_lit];cases j with
 | zero=>simp at hu;subst hu;simp[Vc.cell]
 | succ j=>simp at hu
theorem bW.Pu {h:Hp}{b o:Nat}{cs:List Value}(hb:bW h b cs){v:Value}(ho:o<cs.length){K:aP}(hK:∀h',QJ h h' b->bW h' b (cs.set o v)->K h'):dG (Addr.add ⟨b,0,none⟩ o) v h K:=by
 rw[add_lit,zG];refine⟨?_,hb.pc,hK _ ⟨Vt _ _ _,λc a=>V2 a⟩ (hb.set v)⟩;rw[hb.cell,cL ho];rfl
theorem bW.push (h:Hp)(cs:List Value)(e:Nat):bW (h.push (.cells cs.toArray e (0,0))) h.size cs:=⟨e,by simp⟩
theorem dN.push (h:Hp)(k:IntKind)(c:CK):dN (h.push (.map #[] 0)) h.size k c []:=⟨#[],0,by simp,by simp,by simp,by simp,by simp⟩
theorem Ext.only {F:Nat->Prop}{a b c:Hp}{r:Nat}(e:Ext F a b)(ho:QJ b c r)(hr:F r\/a.size<=r):Ext F a c:=
 ⟨by rw[ho.1];exact e.1,λi g d=>by
  rw[ho.2 i ?_];exact e.2 i g d;rintro rfl;rcases hr with h|h
  ·exact d h
  ·omega⟩
theorem Ext.fresh {a b c:Hp}{F:Nat->Prop}(e:bO a b)(k:Ext F b c)(hF:∀i,F i->a.size<=i):bO a c:=
 ⟨zI e.1 k.1,λi d _=>(k.2 i (vL d e.1) λg=>by have:=hF i g;omega).trans (e.2 i d id)⟩
theorem Own.st {Q:Nat->Prop}{h:Hp}{s:Sl}{sz:Nat}{xs:List Value}(ho:Own Q h s sz xs){j:Nat}(hj:j<xs.length){v:Value}{K:aP}{a:Addr}(ha:∀b,s.a=some ⟨b,0,none⟩->a=⟨b,j,none⟩)
 (hK:∀h',Ext (HP s) h h'->Own Q h' s sz (xs.set j v)->K h'):dG a v h K:=by
 rcases ho.2 with⟨h1,hl,_⟩|⟨b,cs,hq,hsa,hb,hle,hcl,ht⟩
 ·have:=ho.1;rw[hl]at this;simp at this;subst this;simp at hj
 ·rw[ha b hsa];have d:j<cs.length:=by
   have:(cs.take xs.length).length=xs.length:=by rw[ht]
   rw[zO]at this;omega
  refine⟨by rw[hb.cell,cL d];rfl,hb.pc,hK _ (Ext.kr (F:=HP s) ⟨0,hsa⟩) ⟨by simp[ho.1],.inr ⟨b,_,hq,hsa,hb.set v,hle,by simp[hcl],?_⟩⟩⟩;rw[nM,List.take_set,ht]
end Go.Vc