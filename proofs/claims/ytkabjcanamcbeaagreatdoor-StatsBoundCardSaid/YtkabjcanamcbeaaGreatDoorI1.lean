/- Texts joined. -/
import Init
import Derived.WalkKit
import Derived.WalkLawsBesides
import Derived.WalkSpells
import Derived.ChangeKeysEq
import Derived.StillTail
import Derived.OrdersHeld
import Derived.Scope
set_option linter.unusedVariables false
set_option linter.unusedSimpArgs false
abbrev zA:=@if_neg
abbrev zB:=@if_pos
abbrev zC:=@List.mem_map
abbrev zD:=@Nat.le_refl
abbrev zE:=@List.mem_of_getElem?
abbrev zF:=@Bool.and_eq_true
abbrev zG:=@Nat.zero_add
abbrev zH:=@List.mem_filter
abbrev zI:=@List.map_cons
abbrev zJ:=@List.length_append
abbrev zK:=@List.getElem?_set_self
abbrev zL:=@List.getElem?_of_mem
abbrev zM:=@List.mem_append
abbrev zN:=@decide_eq_true_eq
abbrev zO:=@List.getD_eq_getElem?_getD
abbrev zP:=@if_true
abbrev zQ:=@decide_eq_true
abbrev zR:=@List.mem_singleton
abbrev zS:=@beq_iff_eq
abbrev zT:=@decide_eq_false
abbrev zU:=@List.length_cons
abbrev zV:=@List.getElem?_eq_none
abbrev zW:=@List.mem_range
abbrev zX:=@List.mem_cons
abbrev zY:=@List.length_take
abbrev zZ:=@Bool.false_eq_true
abbrev za:=@List.getElem?_map
abbrev zb:=@Option.map_some
abbrev zc:=@Nat.add_mul
abbrev zd:=@List.getElem?_append_left
abbrev ze:=@Nat.le_trans
abbrev zf:=@List.getElem?_set_ne
abbrev zg:=@List.getElem?_take
abbrev zh:=@List.length_map
abbrev zi:=@Int.eq_ofNat_of_zero_le
abbrev zj:=@List.getElem_mem
abbrev zk:=@List.getElem?_append_right
abbrev zl:=@List.any_eq_true
abbrev zm:=@List.nodup_cons
abbrev zn:=@List.ext_getElem?
abbrev zo:=@Nat.mul_le_mul
abbrev zp:=@List.sum_cons
abbrev zq:=@if_false
abbrev zr:=@List.take_add_one
abbrev zt:=@Nat.add_zero
abbrev zu:=@List.getElem?_drop
abbrev zv:=@Nat.two_pow_pos
abbrev zw:=@List.all_eq_true
abbrev zy:=@List.map_congr_left
abbrev zz:=@List.length_drop
abbrev zAA:=@List.take_length
abbrev zAB:=@Nat.lt_or_ge
abbrev zAC:=@List.append_assoc
abbrev zAD:=@List.map_append
abbrev zAE:=@Nat.eq_of_beq_eq_true
abbrev zAF:=@List.pairwise_iff_getElem
abbrev zAG:=@Nat.mul_le_mul_right
abbrev zAH:=@List.length_nil
abbrev zAI:=@Nat.pow_le_pow_right
abbrev zAJ:=@List.map_map
abbrev zAK:=@Array.getElem?_eq_some_iff
abbrev zAL:=@List.append_nil
abbrev zAM:=@List.mem_append_left
abbrev zAN:=@Nat.pow_succ
abbrev zAO:=@Bool.not_eq_true'
abbrev zAP:=@List.any_eq_false
abbrev zAQ:=@Bool.eq_false_iff
abbrev zAR:=@beq_eq_false_iff_ne
abbrev zAS:=@of_decide_eq_true
abbrev zAT:=@List.getElem?_replicate
abbrev zAU:=@List.findIdx?_eq_some_iff_getElem
abbrev zAV:=@List.cons_append
abbrev zAW:=@of_decide_eq_false
abbrev zAX:=@Nat.mul_one
abbrev zAY:=@List.nodup_append
abbrev zAZ:=@List.take_of_length_le
abbrev zBA:=@Nat.zero_lt_one
abbrev zBB:=@List.getElem?_range
abbrev zBC:=@List.set_set
abbrev zBD:=@List.range_succ
abbrev zBE:=@List.filter_eq_self
abbrev zBF:=@Bool.eq_iff_iff
abbrev zBG:=@List.take_append_drop
abbrev zBH:=@Bool.or_eq_true
abbrev zBI:=@List.find?_eq_none
abbrev zBJ:=@Bool.not_eq_true
abbrev zBK:=@List.mem_cons_of_mem
abbrev zBL:=@List.mem_append_right
abbrev zBM:=@List.take_append_of_le_length
abbrev zBN:=@List.flatMap_cons
abbrev zBO:=@Nat.lt_trichotomy
abbrev zBP:=@Option.isSome_iff_exists
abbrev zBQ:=@List.length_set
abbrev zBR:=@List.pairwise_append
abbrev zBS:=@List.mem_of_mem_take
abbrev zBT:=@List.pairwise_cons
abbrev zBU:=@Nat.add_assoc
abbrev zBV:=@List.foldl_cons
abbrev zBW:=@Option.map_eq_some_iff
abbrev zBX:=@List.map_nil
abbrev zBY:=@Option.getD_some
abbrev zBZ:=@Nat.min_eq_left
abbrev zCA:=@List.length_pos_iff
abbrev zCB:=@List.pairwise_map
abbrev zCC:=@List.mem_cons_self
abbrev zCD:=@Nat.sub_self
abbrev zCE:=@List.nodup_nil
abbrev zCF:=@Nat.le_of_lt
abbrev zCG:=@List.countP_cons
abbrev zCH:=@List.getElem?_set
abbrev zCI:=@List.getElem_map
abbrev zCJ:=@Array.getD_eq_getD_getElem?
abbrev zCK:=@List.nil_append
abbrev zCL:=@List.set_cons_succ
abbrev zCM:=@Option.map_eq_none_iff
abbrev zCN:=@Int.le_refl
abbrev zCO:=@Nat.div_div_eq_div_mul
abbrev zCP:=@List.findIdx?_eq_none_iff
abbrev zCQ:=@List.getElem?_modify
abbrev zCR:=@List.filter_cons
abbrev zCS:=@List.filter_sublist
abbrev zCT:=@List.contains_eq_mem
abbrev zCU:=@Bool.and_false
abbrev zCV:=@List.find?_some
abbrev zCW:=@List.mem_of_find?_eq_some
abbrev zCX:=@List.map_replicate
abbrev zCY:=@List.length_range
abbrev zCZ:=@true_and
abbrev zDA:=@List.find?_cons
abbrev zDB:=@List.all_cons
abbrev zDC:=@List.flatten_cons
abbrev zDD:=@Nat.mod_eq_of_lt
abbrev zDE:=@Nat.mul_eq_zero
abbrev zDF:=@List.getElem_of_mem
abbrev zDG:=@List.filterMap_append
abbrev zDH:=@Bool.and_true
abbrev zDI:=@List.mem_of_mem_drop
abbrev zDJ:=@Nat.lt_of_lt_of_le
abbrev zDK:=@Option.toList_some
abbrev zDL:=@List.length_flatten
abbrev zDM:=@List.sum_replicate_nat
abbrev zDN:=@Bool.decide_and
abbrev zDO:=@Bool.false_and
abbrev zDP:=@List.count_append
abbrev zDQ:=@List.map_set
abbrev zDR:=@List.sum_append
abbrev zDS:=@Bool.true_and
abbrev zDT:=@Nat.div_mul_le_self
abbrev zDU:=@Nat.mod_lt
abbrev zDV:=@List.countP_append
abbrev zDW:=@List.findIdx?_cons
abbrev zDX:=@List.map_id
abbrev zDY:=@Nat.mul_assoc
abbrev zDZ:=@Nat.zero_mul
abbrev zEA:=@Nat.ne_of_lt
abbrev zEB:=@Array.length_toList
abbrev zEC:=@List.mem_filterMap
abbrev zED:=@Nat.one_mul
abbrev zEE:=@Nat.eq_of_mul_eq_mul_right
abbrev zEF:=@List.perm_ext_iff_of_nodup
abbrev zEG:=@List.countP_eq_length_filter
abbrev zEH:=@List.countP_le_length
abbrev zEI:=@List.replicate_succ
abbrev zEJ:=@List.length_filter_le
abbrev zEK:=@List.getElem?_cons_zero
abbrev zEL:=@List.filter_cons_of_neg
abbrev zEM:=@List.filter_cons_of_pos
abbrev zEN:=@List.map_eq_nil_iff
abbrev zEO:=@Array.getElem?_toList
abbrev zEP:=@Array.getElem?_setIfInBounds_ne
abbrev zEQ:=@List.mem_map_of_mem
abbrev zER:=@List.mem_replicate
abbrev zES:=@Array.getElem?_push
abbrev zET:=@List.filter_congr
abbrev zEU:=@Option.bind_some
abbrev zEV:=@List.contains_iff_mem
abbrev zEW:=@Bool.false_or
abbrev zEX:=@Bool.not_false
abbrev zEY:=@Array.getElem?_modify
abbrev zEZ:=@List.nodup_range
abbrev zFA:=@List.count_replicate
abbrev zFB:=@List.take_take
abbrev zFC:=@List.take_left'
abbrev zFD:=@List.drop_succ_cons
abbrev zFE:=@List.dropLast_eq_take
abbrev zFF:=@List.mem_or_eq_of_mem_set
abbrev zFG:=@List.foldl_append
abbrev zFH:=@List.length_singleton
abbrev zFI:=@List.mem_flatMap
abbrev zFJ:=@List.count_eq_zero
abbrev zFK:=@List.size_toArray
abbrev zFL:=@Nat.mul_div_cancel
abbrev zFM:=@List.countP_congr
abbrev zFN:=@Nat.le_mul_of_pos_right
abbrev zFO:=@Array.mem_of_getElem?
abbrev zFP:=@Array.toList_modify
abbrev zFQ:=@Array.toList_eraseIdxIfInBounds
abbrev zFR:=@List.replicate_succ'
abbrev zFS:=@List.flatten_append
abbrev zFT:=@List.filter_filter
abbrev zFU:=@List.filterMap_cons
abbrev zFV:=@Array.getElem?_append_left
abbrev zFW:=@Nat.eq_zero_or_pos
abbrev zFX:=@List.length_dropLast
abbrev zFY:=@List.getElem?_cons_succ
abbrev zFZ:=@List.eq_nil_of_length_eq_zero
abbrev zGA:=@List.count_le_length
abbrev zGB:=@List.flatMap_append
abbrev zGC:=@List.take_sublist
abbrev zGD:=@List.take_succ_cons
abbrev zGE:=@List.find?_isSome
abbrev zGF:=@List.range_succ_eq_map
abbrev zGG:=@List.eq_of_mem_replicate
abbrev zGH:=@List.zip_cons_cons
abbrev zGI:=@List.getElem?_zipWith
abbrev zGJ:=@List.findIdx?_eq_some_iff_findIdx_eq
abbrev zGK:=@Nat.add_sub_cancel
abbrev zGL:=@List.nodup_iff_count
abbrev zGM:=@List.count_pos_iff
abbrev zGN:=@List.count_singleton_self
theorem gSi {α:Type _}{l:List α}{i:Nat}{a:α}:l[i]?=some a↔∃h:i<l.length,l[i]=a:=List.getElem?_eq_some_iff
theorem gGe {α:Type _}{l:List α}{i:Nat}(h:i<l.length):l[i]?=some l[i]:=List.getElem?_eq_getElem h
theorem iTn (n:Nat):(n:Int).toNat=n:=Int.toNat_natCast n
namespace Go.Ar
structure Cls where
 size:Nat
 pages:Nat
 batch:Nat
 deriving DecidableEq
def Cls.n (c:Cls):Nat:=c.pages*256/c.size
def Cls.tail (c:Cls):Nat:=c.pages*256-c.n*c.size
def QP (x y z:Int):Bool:=decide (8<=x)&&(decide (x<=512)&&(decide (x%8=0)&&(decide (1<=y)&&(decide (y<=4)&&(decide (x<=y*256)&&(decide (1<=z)&&decide (z<=32)))))))
def Cls.ok (c:Cls):Prop:=8<=c.size/\c.size<=512/\c.size%8=0/\1<=c.pages/\c.pages<=4/\c.size<=c.pages*256/\1<=c.batch/\c.batch<=32
theorem QO (x y z:Int):QP x y z=true↔8<=x/\x<=512/\x%8=0/\1<=y/\y<=4/\x<=y*256/\1<=z/\z<=32:=by simp[QP]
theorem Vg (c:Cls):QP c.size c.pages c.batch=true↔c.ok:=by
 rw[QO];unfold Cls.ok;omega
def YC (t:Int×Int×Int):Cls:=⟨t.1.toNat,t.2.1.toNat,t.2.2.toNat⟩
theorem Hc {x y z:Int}(h:QP x y z=true):∃c:Cls,c.ok/\YC (x,y,z)=c/\x=c.size/\y=c.pages/\z=c.batch:=by
 rw[QO]at h;refine⟨YC (x,y,z),?_,rfl,?_,?_,?_⟩<;>simp only[YC,Cls.ok]<;>omega
def G9:List (Int×Int×Int)->Bool
 | x::y::l=>decide (x.1<y.1)&&G9 (y::l)
 | _=>true
def Zm (xs:List (Int×Int×Int)):Bool:=decide (1<=xs.length)&&(decide (xs.length<=40)&&(xs.all (λt=>QP t.1 t.2.1 t.2.2)&&G9 xs))
theorem Cls.ok.n_pos {c:Cls}(h:c.ok):1<=c.n:=by
 unfold Cls.ok at h;exact(Nat.one_le_div_iff (by omega)).2 h.2.2.2.2.2.1
theorem Cls.ok.n_le {c:Cls}(h:c.ok):c.n<=128:=by
 unfold Cls.ok at h;unfold Cls.n;have:c.pages*256/c.size<=1024/8:=Nat.div_le_div (by omega) (by omega) (by omega);omega
theorem Cls.n_mul (c:Cls):c.n*c.size<=c.pages*256:=zDT _ _
structure SpA where
 st:Nat
 tk:List Bool
 deriving DecidableEq
def SpA.many (s:SpA):Nat:=s.tk.count true
def idx (c:Cls)(s:SpA)(x:Int):Option Nat:=if x<((s.st*256:Nat):Int)\/((s.st*256+s.tk.length*c.size:Nat):Int)<=x then none else some ((x-((s.st*256:Nat):Int)).toNat/c.size)
def at_ (c:Cls)(s:SpA)(i:Nat):Nat:=s.st*256+i*c.size
def obj (c:Cls)(s:SpA)(x:Int):Option Nat:=match idx c s x with
 | some i=>if x=((at_ c s i:Nat):Int)then some i else none
 | none=>none
theorem KJ {c:Cls}{s:SpA}{x:Int}{i:Nat}(hc:0<c.size):idx c s x=some i↔((at_ c s i:Nat):Int)<=x/\x<((at_ c s (i+1):Nat):Int)/\i<s.tk.length:=by
 unfold idx at_;constructor
 ·intro h;split at h
  ·cases h
  ·rename_i hn;cases h;obtain⟨y,rfl⟩:=zi (show 0<=x by omega);have e:((y:Int)-((s.st*256:Nat):Int)).toNat=y-s.st*256:=by omega
   rw[e];have h1:(y-s.st*256)/c.size*c.size<=y-s.st*256:=zDT _ _;have h2:=Nat.lt_div_mul_add (a:=y-s.st*256) hc;have h3:(y-s.st*256)/c.size<s.tk.length:=(Nat.div_lt_iff_lt_mul hc).2 (by omega);rw[zc];omega
 ·rintro⟨h1,h2,h3⟩;obtain⟨y,rfl⟩:=zi (show 0<=x by omega);have h4:(i+1)*c.size<=s.tk.length*c.size:=zAG _ h3;rw[zA (by omega)];have e:((y:Int)-((s.st*256:Nat):Int)).toNat=y-s.st*256:=by omega
  rw[e]
  congr 1
  rw[zc]at h2;refine Nat.div_eq_of_lt_le ?_ ?_
  ·omega
  ·rw[zc];omega
theorem Vr {c:Cls}{s:SpA}{x:Int}{i:Nat}(hc:0<c.size):obj c s x=some i↔x=((at_ c s i:Nat):Int)/\i<s.tk.length:=by
 unfold obj;constructor
 ·intro h;split at h
  ·rename_i j hj;split at h
   ·cases h;rename_i he;exact⟨he,((KJ hc).1 hj).2.2⟩
   ·cases h
  ·cases h
 ·rintro⟨rfl,hi⟩;have:idx c s ((at_ c s i:Nat):Int)=some i:=(KJ hc).2 ⟨zCN _,by unfold at_;rw[zc];omega,hi⟩;rw[this];simp
def low (s:SpA):Option Nat:=s.tk.findIdx? (· == false)
def SpA.put (s:SpA)(i:Nat)(v:Bool):SpA:={s with tk:=s.tk.set i v}
def ofS (c:Cls)(ss:List SpA)(x:Int):Option Nat:=ss.findIdx? λs=>(idx c s x).isSome
def isTk (c:Cls)(ss:List SpA)(x:Int):Option Bool:=match ofS c ss x with
 | some k=>match ss[k]? with
  | some s=>(obj c s x).map λi=>s.tk.getD i false
  | none=>none
 | none=>none
def GG (x y:SpA):Bool:=decide (x.many>y.many)||(x.many==y.many&&decide (x.st<y.st))
def YS (ss:List SpA):Nat->Option Nat
 | 0=>none
 | k+1=>match ss[k]? with
  | some x=>if x.many<x.tk.length then(match YS ss k with
   | some j=>match ss[j]? with
    | some y=>if GG x y then some k else some j
    | none=>some k
   | none=>some k)else YS ss k
  | none=>YS ss k
def best (ss:List SpA):Option Nat:=YS ss ss.length
def oneS (c:Cls)(ss:List SpA):Option (Nat×List SpA):=match best ss with
 | some k=>match ss[k]? with
  | some s=>match low s with
   | some i=>some (at_ c s i,ss.set k (s.put i true))
   | none=>none
  | none=>none
 | none=>none
def Qg (c:Cls):Nat->List SpA->List Nat×List SpA
 | 0,ss=>([],ss)
 | m+1,ss=>match oneS c ss with
  | some (x,ss')=>let r:=Qg c m ss';(x::r.1,r.2)
  | none=>([],ss)
def putE (c:Cls)(ss:List SpA)(xs:List Int):Int:=
 if xs.any (λx=>(isTk c ss x).isNone)then 8 else if xs.any (λx=>isTk c ss x==some false) || !decide xs.Nodup then 9 else 0
def put1 (c:Cls)(ss:List SpA)(x:Int):List SpA:=match ofS c ss x with
 | some k=>match ss[k]? with
  | some s=>match obj c s x with
   | some i=>ss.set k (s.put i false)
   | none=>ss
  | none=>ss
 | none=>ss
def sweep (ss:List SpA):List SpA:=ss.filter λs=>s.many != 0
def ZH (ss:List SpA):List Nat:=(ss.filter λs=>s.many==0).map (·.st)
def Wap (c:Cls)(ss:List SpA)(x:Int):Option Nat:=match ofS c ss x with
 | some k=>match ss[k]? with
  | some s=>(idx c s x).map (at_ c s)
  | none=>none
 | none=>none
def addS (c:Cls)(ss:List SpA)(st:Nat):List SpA:=ss.takeWhile (λs=>s.st<st)++⟨st,List.replicate c.n false⟩::ss.dropWhile (λs=>s.st<st)
def UR (c:Cls)(ss:List SpA)(x:Nat):Int:=if ss.any (λs=>max s.st x-min s.st x<c.pages)then 9 else 0
def Qx (ss:List SpA):Nat:=(ss.map λs=>s.tk.length-s.many).sum
structure TrA where
 low:Nat
 bs:List (List Int)
 deriving DecidableEq
def setR {α:Type}(l:List α)(a b:Nat)(v:α):List α:=l.mapIdx λi x=>if a<=i/\i<b then v else x
theorem QH {α:Type}(l:List α)(a b:Nat)(v:α):(setR l a b v).length=l.length:=by simp[setR]
theorem VW {α:Type}(l:List α)(a b:Nat)(v:α)(i:Nat):(setR l a b v)[i]?=(l[i]?).map λx=>if a<=i/\i<b then v else x:=by
 simp[setR,List.getElem?_mapIdx]
theorem Wj3 {α:Type}{l:List α}{a b:Nat}{v:α}(h1:a<=b)(h2:b<=l.length):setR l a b v=l.take a++List.replicate (b-a) v++l.drop b:=by
 apply zn;intro i;rw[VW];rcases zAB i a with h|h
 ·rw[zAC,zd (by simp;omega),zg,zB h];have:l[i]?=some l[i]:=gGe (by omega);rw[this];simp;omega
 rcases zAB i b with h'|h'
 ·rw[zAC,zk (by simp;omega),zd (by simp;omega)];have:l[i]?=some l[i]:=gGe (by omega);rw[this];simp[zAT,h,h'];omega
 ·rw[zk (by simp;omega)];have e:i-(l.take a++List.replicate (b-a) v).length=i-b:=by simp;omega
  rw[e,zu,show b+(i-b)=i by omega];cases l[i]?<;>simp;omega
def cntR (l:List Nat)(a b v:Nat):Nat:=((l.drop a).take (b-a)).count v
end Go.Ar
namespace Go.Bu
def full (S:Nat->Bool)(k q:Nat):Bool:=(List.range (2^k)).all λi=>S (q*2^k+i)
def can (S:Nat->Bool)(k q:Nat):Bool:=full S k q && !full S (k+1) (q/2)
theorem V1 {k q i:Nat}(hi:i<2^k):(q*2^k+i)/2^k=q:=by
 rw[Nat.add_comm,Nat.add_mul_div_right _ _ (zv k),Nat.div_eq_of_lt hi,zG]
theorem UL {k q p:Nat}(h:p/2^k=q):p=q*2^k+p%2^k:=by
 rw[←h,Nat.mul_comm];exact(Nat.div_add_mod p (2^k)).symm
theorem Zv {k q p:Nat}:p/2^k=q↔q*2^k<=p/\p<q*2^k+2^k:=by
 have hk:=zv k;constructor
 ·intro h;have:=UL h;have hm:=zDU p hk;omega
 ·rintro⟨h1,h2⟩;have:p=q*2^k+(p-q*2^k):=by omega
  rw[this];exact V1 (by omega)
theorem Yh {S:Nat->Bool}{k q:Nat}:full S k q=true↔∀p,p/2^k=q->S p=true:=by
 simp only[full,zw,zW];constructor
 ·intro h p hp;have:=h (p%2^k) (zDU _ (zv k))
  rwa [←UL hp]at this
 ·intro h i hi;exact h _ (V1 hi)
theorem Y8 {S:Nat->Bool}{k q:Nat}:can S k q=true↔full S k q=true/\¬full S (k+1) (q/2)=true:=by
 simp[can]
theorem HL {p k j:Nat}(h:k<=j):p/2^j=p/2^k/2^(j-k):=by
 rw[zCO,←Nat.pow_add]
 congr 2;omega
theorem WbC {S:Nat->Bool}{k j q:Nat}(h:k<=j)(hf:full S j (q/2^(j-k))=true):full S k q=true:=by
 rw[Yh]at hf ⊢;intro p hp;exact hf p (by rw[HL h,hp])
theorem WeG {q k j:Nat}(h:k<j):q/2/2^(j-(k+1))=q/2^(j-k):=by
 rw[zCO]
 congr 1
 rw[←Nat.pow_succ']
 congr 1;omega
theorem Z2 {S:Nat->Bool}{k j q r p:Nat}(hk:can S k q=true)(hj:full S j r=true)(hp:p/2^k=q)(hr:p/2^j=r)(h:k<j):False:=by
 rw[Y8]at hk;refine hk.2 (WbC (j:=j) (by omega) ?_);rw[WeG h,←hp,←HL (zCF h),hr];exact hj
theorem Ul {S:Nat->Bool}{k j q r p:Nat}(hk:can S k q=true)(hj:can S j r=true)(hp:p/2^k=q)(hr:p/2^j=r):k=j/\q=r:=by
 rcases zBO k j with h|h|h
 ·exact(Z2 hk (Y8.1 hj).1 hp hr h).elim
 ·subst h;exact⟨rfl,hp.symm.trans hr⟩
 ·exact(Z2 hj (Y8.1 hk).1 hr hp h).elim
def Bounded (S:Nat->Bool)(n:Nat):Prop:=∀p,S p=true->p<n
theorem Zd {S:Nat->Bool}{n k q:Nat}(hb:Bounded S n)(h:full S k q=true):q*2^k+2^k<=n:=by
 rw[Yh]at h;have hk:=zv k;have:=hb _ (h (q*2^k+(2^k-1)) (V1 (by omega)));omega
theorem Wgd {S:Nat->Bool}{p:Nat}:full S 0 p=S p:=by simp[full]
theorem KC {S:Nat->Bool}{n p:Nat}(hb:Bounded S n)(hp:S p=true):∃k,can S k (p/2^k)=true:=by
 apply Classical.byContradiction;intro hno;have all:∀k,full S k (p/2^k)=true:=by
  intro k
  induction k with
  | zero=>simpa[Wgd]using hp
  | succ k ih=>
   apply Classical.byContradiction;intro hn;refine hno ⟨k,Y8.2 ⟨ih,?_⟩⟩;rw[zCO,←zAN];exact hn
 have:=Zd hb (all n);have:=@Nat.lt_two_pow_self n;omega
theorem QV {S:Nat->Bool}{k q p:Nat}(h:can S k q=true)(hp:p/2^k=q):S p=true:=Yh.1 (Y8.1 h).1 p hp
def del (S:Nat->Bool)(k q:Nat):Nat->Bool:=λp=>S p && !(p/2^k==q)
def ins (S:Nat->Bool)(k q:Nat):Nat->Bool:=λp=>S p||p/2^k==q
theorem Kt {S:Nat->Bool}{k q p:Nat}:del S k q p=true↔S p=true/\p/2^k≠q:=by simp[del]
theorem Kv {S:Nat->Bool}{k q p:Nat}:ins S k q p=true↔S p=true\/p/2^k=q:=by simp[ins]
theorem QG (k q:Nat):(q*2^k)/2^k=q:=zFL _ (zv k)
theorem Wci {S:Nat->Bool}{k q j r:Nat}(hc:can S k q=true):can (del S k q) j r=true↔can S j r=true/\¬(j=k/\r=q):=by
 constructor
 ·intro h;obtain⟨hf,hn⟩:=Y8.1 h;rw[Yh]at hf;have hfS:full S j r=true:=Yh.2 λp hp=>(Kt.1 (hf p hp)).1;refine⟨Y8.2 ⟨hfS,λhup=>hn (Yh.2 λp hp=>?_)⟩,?_⟩
  ·refine Kt.2 ⟨Yh.1 hup p hp,λhpq=>?_⟩;rcases zAB k (j+1)with h1|h1
   ·exact Z2 hc hup hpq hp h1
   ·-- the greater YU lies in the block
    have hfirst:=QG j r;have hm:=(Kt.1 (hf _ hfirst)).2;apply hm;rw[HL (show j+1<=k by omega)];have e:r*2^j/2^(j+1)=r/2:=by
     rw[zAN,←zCO,hfirst]
    rw[e,←hp,←HL (show j+1<=k by omega),hpq]
  ·rintro⟨rfl,rfl⟩;exact(Kt.1 (hf _ (QG _ _))).2 (QG _ _)
 ·rintro⟨h,hne⟩;obtain⟨hf,hn⟩:=Y8.1 h;refine Y8.2 ⟨Yh.2 λp hp=>Kt.2 ⟨Yh.1 hf p hp,λhpq=>hne ?_⟩,λhup=>hn (Yh.2 λp hp=>(Kt.1 (Yh.1 hup p hp)).1)⟩;obtain⟨h1,h2⟩:=Ul h hc hp hpq;exact⟨h1,h2⟩
theorem Waw {S:Nat->Bool}{k q j r:Nat}(hd:∀p,p/2^k=q->S p=false)(hup:¬full (ins S k q) (k+1) (q/2)=true) :
 can (ins S k q) j r=true↔can S j r=true\/(j=k/\r=q):=by
 have hcP:can (ins S k q) k q=true:=Y8.2 ⟨Yh.2 λp hp=>Kv.2 (.inr hp),hup⟩;constructor
 ·intro h;by_cases he:j=k/\r=q
  ·exact .inr he
  left;obtain⟨hf,hn⟩:=Y8.1 h;refine Y8.2 ⟨Yh.2 λp hp=>?_,λhup'=>hn (Yh.2 λp hp=>Kv.2 (.inl (Yh.1 hup' p hp)))⟩;rcases Kv.1 (Yh.1 hf p hp)with h1|h1
  ·exact h1
  ·exact(he (Ul h hcP hp h1)).elim
 ·rintro(h|⟨rfl,rfl⟩)
  ·obtain⟨hf,hn⟩:=Y8.1 h;refine Y8.2 ⟨Yh.2 λp hp=>Kv.2 (.inl (Yh.1 hf p hp)),λhup'=>hn (Yh.2 λp hp=>?_)⟩;rcases Kv.1 (Yh.1 hup' p hp)with h1|h1
   ·exact h1
   ·rcases zAB k (j+1)with h2|h2
    ·refine(hup (WbC (j:=j+1) (by omega) ?_)).elim;have e:q/2^(j+1-k)=r/2:=by rw[←h1,←HL (show k<=j+1 by omega),hp]
     rw[WeG h2,e];exact hup'
    ·have hfirst:=QG j r;have hs:=Yh.1 hf _ hfirst;have e:r*2^j/2^(j+1)=r/2:=by
      rw[zAN,←zCO,hfirst]
     have:r*2^j/2^k=q:=by
      rw[HL h2,e,←hp,←HL h2,h1]
     rw[hd _ this]at hs;cases hs
  ·exact hcP
def mate (q:Nat):Nat:=if q%2=0 then q+1 else q-1
theorem Wbx (q:Nat):mate q/2=q/2:=by unfold mate;split<;>omega
theorem WjB (q:Nat):mate q≠q:=by unfold mate;split<;>omega
theorem Who {q r:Nat}(h:r/2=q/2):r=q\/r=mate q:=by unfold mate;split<;>omega
theorem VV {k q p:Nat}:p/2^(k+1)=q/2↔p/2^k=q\/p/2^k=mate q:=by
 rw[zAN,←zCO];constructor
 ·intro h;exact Who h
 ·rintro(h|h)<;>rw[h]
  exact Wbx q
theorem Wi7 {T:Nat->Bool}{k q:Nat}(hd:∀p,p/2^k=q->T p=false)(hm:¬can T k (mate q)=true):¬full (ins T k q) (k+1) (q/2)=true:=by
 intro hup;have hmf:full T k (mate q)=true:=Yh.2 λp hp=>by
  rcases Kv.1 (Yh.1 hup p (VV.2 (.inr hp)))with h|h
  ·exact h
  ·exact(WjB q (hp.symm.trans h)).elim
 have:full T (k+1) (mate q/2)=true:=Classical.byContradiction λh=>hm (Y8.2 ⟨hmf,h⟩);rw[Wbx]at this;have h1:=Yh.1 this (q*2^k) (VV.2 (.inl (QG k q)));rw[hd _ (QG k q)]at h1;cases h1
def give (S:Nat->Bool)(a b:Nat):Nat->Bool:=λp=>S p||(decide (a<=p)&&decide (p<b))
def take (S:Nat->Bool)(a b:Nat):Nat->Bool:=λp=>S p && !(decide (a<=p)&&decide (p<b))
theorem Qq {S:Nat->Bool}{a b p:Nat}:give S a b p=true↔S p=true\/(a<=p/\p<b):=by simp[give]
theorem QD {S:Nat->Bool}{a b p:Nat}:take S a b p=true↔S p=true/\¬(a<=p/\p<b):=by
 simp[take];intro _;omega
theorem HE {S T:Nat->Bool}(h:∀p,S p=true↔T p=true):S=T:=by
 funext p
 have:=h p;cases hs:S p<;>cases ht:T p<;>simp_all
theorem WgW (S:Nat->Bool)(k q:Nat):ins S k q=give S (q*2^k) (q*2^k+2^k):=
 HE λp=>by rw[Kv,Qq,Zv]
theorem WfX {S:Nat->Bool}{a b c:Nat}(h1:a<=b)(h2:b<=c):give (give S a b) b c=give S a c:=
 HE λp=>by simp only[Qq];cases S p<;>simp<;>omega
theorem Wim (S:Nat->Bool)(a:Nat):give S a a=S:=HE λp=>by simp only[Qq];cases S p<;>simp<;>omega
theorem Whi (S:Nat->Bool)(a:Nat):take S a a=S:=HE λp=>by simp only[QD];cases S p<;>simp<;>omega
def cnt (n:Nat)(S:Nat->Bool):Nat:=(List.range n).countP S
theorem WiT (k m:Nat)(f:Nat->Bool):(List.range (m*2^k)).countP (λp=>f (p/2^k))=2^k*(List.range m).countP f:=by
 induction m with
 | zero=>simp
 | succ m ih=>
  rw[Nat.succ_mul,List.range_add,zDV,ih,List.countP_map,zBD,zDV];have:((List.range (2^k)).countP ((λp=>f (p/2^k))∘λx=>m*2^k+x))=2^k*(if f m then 1 else 0):=by
   have e:∀x∈List.range (2^k),((λp=>f (p/2^k))∘λx=>m*2^k+x) x=f m:=by
    intro x hx;simp only[Function.comp];rw[V1 (zW.1 hx)]
   rw[zFM (q:=λ_=>f m) (λx hx=>by rw[e x hx])];cases f m<;>simp
  rw[this,Nat.mul_add];simp only[zCG,List.countP_nil,zG]
theorem Wi5 {n m:Nat}{S:Nat->Bool}(h:n<=m)(hb:∀p,S p=true->p<n):(List.range m).countP S=(List.range n).countP S:=by
 obtain⟨d,rfl⟩:=Nat.exists_eq_add_of_le h;rw[List.range_add,zDV,List.countP_map];have:(List.range d).countP (S∘λx=>n+x)=0:=by
  rw[List.countP_eq_zero];intro x _ hx;have:n+x<n:=hb _ hx;omega
 omega
def many (n:Nat)(S:Nat->Bool)(k:Nat):Nat:=(List.range n).countP (can S k)
def sums (n:Nat)(S:Nat->Bool):Nat->Nat
 | 0=>0
 | k+1=>sums n S k+many n S k*2^k
theorem countP_add {α:Type}(l:List α)(f g h:α->Bool)(e:∀x∈l,(f x).toNat+(g x).toNat=(h x).toNat):l.countP f+l.countP g=l.countP h:=by
 induction l with
 | nil=>rfl
 | cons x l ih=>
  have hx:=e x (by simp);have:=ih λy hy=>e y (by simp[hy]);simp only[zCG];cases hf:f x<;>cases hg:g x<;>cases hh:h x<;>simp[hf,hg,hh]at hx ⊢ <;> omega
def Wbd (S:Nat->Bool)(K p:Nat):Bool:=(List.range K).any λk=>can S k (p/2^k)
theorem Us {n:Nat}{S:Nat->Bool}(hb:Bounded S n):∀K,sums n S K=(List.range n).countP (Wbd S K)
 | 0=>by
  simp only[sums]
  symm
  rw[List.countP_eq_zero];simp[Wbd]
 | K+1=>by
  rw[sums,Us hb K];have hm:many n S K*2^K=(List.range n).countP (λp=>can S K (p/2^K)):=by
   have h1:=WiT K n (can S K);have h2:n<=n*2^K:=zFN _ (zv K);rw[Wi5 h2 (λp hp=>hb p (QV hp rfl))]at h1;rw[h1,Nat.mul_comm];rfl
  rw[hm];apply countP_add;intro p _;have e:Wbd S (K+1) p=(Wbd S K p||can S K (p/2^K)):=by
   simp[Wbd,zBD,List.any_append]
  rw[e];cases h1:Wbd S K p<;>cases h2:can S K (p/2^K)<;>simp
  simp only[Wbd,zl,zW]at h1;obtain⟨k,hk,hc⟩:=h1;have:=Ul hc h2 rfl rfl;omega
theorem Wh0 {n K:Nat}{S:Nat->Bool}(hb:Bounded S n)(hK:n<2^K):sums n S K=cnt n S:=by
 rw[Us hb];apply zFM;intro p _;simp only[Wbd,zl,zW];constructor
 ·rintro⟨k,_,hc⟩;exact QV hc rfl
 ·intro hp;obtain⟨k,hc⟩:=KC hb hp;refine⟨k,?_,hc⟩;have:=Zd hb (Y8.1 hc).1;apply Classical.byContradiction;intro hk;have:2^K<=2^k:=zAI (by omega) (by omega);omega
end Go.Bu
namespace Go.Vc
open Go
abbrev Hp:=Array Obj
structure Sl where
 a:Option Addr
 len:Nat
 cap:Nat
structure Fv where
 f:Nat
 first:Array Value
 captured:Array Value
inductive CK where
 | i (k:IntKind)|b|p|s|m|str|fn|raw|ag (n:Nat)|ad
 deriving DecidableEq
@[reducible] def ITup:Nat->Type
 | 0=>Unit
 | 1=>Int
 | n+2=>Int×ITup (n+1)
def ITup.vs:(n:Nat)->ITup n->List Value
 | 0,_=>[]
 | 1,x=>[.int .i64 x]
 | n+2,x=>.int .i64 x.1::ITup.vs (n+1) x.2
@[reducible] def CK.T:CK->Type
 | .i _=>Int
 | .b=>Bool
 | .p=>Option Addr
 | .s=>Sl
 | .m=>Option Nat
 | .str=>ByteArray
 | .fn=>Fv
 | .raw=>Value
 | .ag n=>ITup n
 | .ad=>Addr
def CK.v:(c:CK)->c.T->Value
 | .i k,y=>.int k y
 | .b,x=>.bool x
 | .p,y=>.pointer y
 | .s,y=>.slice y.a y.len y.cap
 | .m,y=>.map y
 | .str,x=>.string x
 | .fn,x=>.func (.func x.f) x.first x.captured
 | .raw,y=>y
 | .ag n,y=>.agg (ITup.vs n y).toArray
 | .ad,y=>.pointer (some y)
inductive SK where
 | one (c:CK)
 | agg (cs:List CK)
def SK.ks:SK->List CK
 | .one c=>[c]
 | .agg cs=>cs
def ksOf:List SK->List CK
 | []=>[]
 | s::ss=>s.ks++ksOf ss
@[reducible] def Fam:List CK->Type
 | []=>Hp->Prop
 | c::cs=>c.T->Fam cs
@[reducible] def FamN:List CK->Type
 | []=>Hp->Nat
 | c::cs=>c.T->FamN cs
def Sat:(ks:List CK)->Fam ks->List Value->Hp->Prop
 | [],R,[],h=>R h
 | c::cs,R,v::vs,h=>∃x:c.T,v=c.v x/\Sat cs (R x) vs h
 | _,_,_,_=>False
def Fam.le:(ks:List CK)->Fam ks->Fam ks->Prop
 | [],R,R'=>∀h,R h->R' h
 | c::cs,R,R'=>∀x:c.T,Fam.le cs (R x) (R' x)
def lam:(ks:List CK)->(List Value->Hp->Prop)->Fam ks
 | [],K=>K []
 | c::cs,K=>λx=>lam cs λvs=>K (c.v x::vs)
def unI:(n:Nat)->List Value->(ITup n->Prop)->Prop
 | 0,[],K=>K ()
 | 1,[.int .i64 x],K=>K x
 | n+2,.int .i64 x::vs,K=>unI (n+1) vs λy=>K (x,y)
 | _,_,_=>False
theorem Wbg:∀{n:Nat} {vs:List Value} {K:ITup n->Prop},unI n vs K->∃x,vs=ITup.vs n x/\K x:=by
 intro n vs K h;unfold unI at h;split at h
 ·exact⟨(),rfl,h⟩
 ·exact⟨_,rfl,h⟩
 ·obtain⟨y,rfl,hk⟩:=Wbg h;exact⟨_,rfl,hk⟩
 ·exact h.elim
def unv:(c:CK)->Value->(c.T->Prop)->Prop
 | .i k,.int k' n,K=>if k=k' then K n else False
 | .b,.bool x,K=>K x
 | .p,.pointer a,K=>K a
 | .s,.slice a l c,K=>K ⟨a,l,c⟩
 | .m,.map r,K=>K r
 | .str,.string s,K=>K s
 | .fn,.func (.func f) x y,K=>K ⟨f,x,y⟩
 | .raw,v,K=>K v
 | .ag n,.agg cs,K=>unI n cs.toList K
 | .ad,.pointer (some a),K=>K a
 | _,_,_=>False
def apF:(ks:List CK)->Fam ks->List Value->Hp->Prop
 | [],R,[],h=>R h
 | c::cs,R,v::vs,h=>unv c v λx=>apF cs (R x) vs h
 | _,_,_,_=>False
theorem Vk {c:CK}{v:Value}{K:c.T->Prop}(h:unv c v K):∃x,v=c.v x/\K x:=by
 cases c<;>cases v<;>simp only[unv]at h<;>try exact h.elim
 case i.int k k' n=>split at h<;>first|exact h.elim | (rename_i e;subst e;exact⟨n,rfl,h⟩)
 case fn.func f x y=>cases f<;>simp only[unv]at h<;>first|exact h.elim|exact⟨⟨_,x,y⟩,rfl,h⟩
 case b.bool x=>exact⟨x,rfl,h⟩
 case p.pointer a=>exact⟨a,rfl,h⟩
 case s.slice a l c=>exact⟨⟨a,l,c⟩,rfl,h⟩
 case m.map r=>exact⟨r,rfl,h⟩
 case str.string s=>exact⟨s,rfl,h⟩
 case ad.pointer p=>cases p<;>simp only[unv]at h<;>first|exact h.elim|exact⟨_,rfl,h⟩
 case ag.agg n cs=>obtain⟨x,e,hk⟩:=Wbg h;exact⟨x,by simp only[CK.v,←e],hk⟩
 all_goals exact⟨_,rfl,h⟩
theorem WiP:∀(n:Nat) (x:ITup n) (K:ITup n->Prop),unI n (ITup.vs n x) K=K x
 | 0,_,_=>rfl
 | 1,_,_=>rfl
 | n+2,x,K=>WiP (n+1) x.2 _
theorem WlA (c:CK)(x:c.T)(K:c.T->Prop):unv c (c.v x) K=K x:=by
 cases c<;>simp[unv,CK.v]
 exact iff_of_eq (WiP _ _ _)
theorem Wah:∀{ks:List CK} {R:Fam ks} {vs:List Value} {h:Hp},apF ks R vs h->Sat ks R vs h
 | [],_,[],_,h=>h
 | _::_,_,_::_,_,h=>by
  obtain⟨x,e,hx⟩:=Vk h;exact⟨x,e,Wah hx⟩
 | [],_,_::_,_,h=>h.elim
 | _::_,_,[],_,h=>h.elim
theorem Sat.mono:∀{ks:List CK} {R R':Fam ks},Fam.le ks R R'->∀{vs:List Value} {h:Hp},Sat ks R vs h->Sat ks R' vs h
 | [],_,_,hl,[],_,h=>hl _ h
 | _::_,_,_,hl,_::_,_,⟨x,e,h⟩=>⟨x,e,Sat.mono (hl x) h⟩
 | [],_,_,_,_::_,_,h=>h.elim
 | _::_,_,_,_,[],_,h=>h.elim
theorem VH:∀{ks:List CK} {K:List Value->Hp->Prop} {vs:List Value} {h:Hp},Sat ks (lam ks K) vs h->K vs h
 | [],_,[],_,h=>h
 | _::_,K,v::vs,h,hs=>by
  obtain⟨x,rfl,h'⟩:=hs;exact VH (K:=λvs=>K (CK.v _ x::vs)) h'
 | [],_,_::_,_,h=>h.elim
 | _::_,_,[],_,h=>h.elim
abbrev Env:=Nat->Option Value
def Env.nil:Env:=λ_=>none
def Env.put (ρ:Env)(d:Nat)(v:Value):Env:=λi=>bif Nat.beq i d then some v else ρ i
def Env.putO (ρ:Env):Option Nat->Value->Env
 | some d,v=>ρ.put d v
 | none,_=>ρ
def Env.hide (ρ:Env)(ds:List Nat):Env:=λi=>bif ds.contains i then none else ρ i
def ev (ρ:Env):Operand->Option Value
 | .tmp t=>ρ t
 | .const v=>some v
 | .global g=>some (.pointer (some ⟨g,0,none⟩))
 | .func f=>some (.func (.func f) #[] #[])
def wv (o:Option Value)(K:Value->Prop):Prop:=match o with|some v=>K v|none=>False
def evs (ρ:Env):List Operand->Option (List Value)
 | []=>some []
 | o::os=>match ev ρ o,evs ρ os with|some v,some vs=>some (v::vs)|_,_=>none
def cell (h:Hp)(a:Addr):Option Value:=
 match h[a.block]? with
 | some (.cells c _ _)=>if a.spot.isSome then none else c[a.off]?
 | _=>none
def frz (h:Hp)(a:Addr):Bool:=
 match h[a.block]? with
 | some (.cells _ _ (lo,hi))=>lo<=a.off&&a.off<hi
 | _=>false
def setc (h:Hp)(a:Addr)(v:Value):Hp:=
 h.modify a.block fun
  | .cells c elem frozen=>.cells (if a.spot.isSome then c else c.setIfInBounds a.off v) elem frozen
  | o=>o
def LdI (k:IntKind)(a:Addr)(h:Hp)(K:Int->Prop):Prop:=∃n,cell h a=some (.int k n)/\K n
def LdB (a:Addr)(h:Hp)(K:Bool->Prop):Prop:=∃n,cell h a=some (.bool n)/\K n
def LdP (a:Addr)(h:Hp)(K:Option Addr->Prop):Prop:=∃n,cell h a=some (.pointer n)/\K n
def LdS (a:Addr)(h:Hp)(K:Sl->Prop):Prop:=∃n:Sl,cell h a=some (.slice n.a n.len n.cap)/\K n
def LdM (a:Addr)(h:Hp)(K:Option Nat->Prop):Prop:=∃n,cell h a=some (.map n)/\K n
def LdT (a:Addr)(h:Hp)(K:ByteArray->Prop):Prop:=∃n,cell h a=some (.string n)/\K n
def LdF (a:Addr)(h:Hp)(K:Fv->Prop):Prop:=∃n:Fv,cell h a=some (.func (.func n.f) n.first n.captured)/\K n
def LdR (a:Addr)(h:Hp)(K:Value->Prop):Prop:=∃n,cell h a=some n/\K n
def LdA (n:Nat)(a:Addr)(h:Hp)(K:ITup n->Prop):Prop:=∃x,cell h a=some (CK.v (.ag n) x)/\K x
def LdAd (a:Addr)(h:Hp)(K:Addr->Prop):Prop:=∃x,cell h a=some (.pointer (some x))/\K x
def Ld1:(c:CK)->Addr->Hp->(c.T->Prop)->Prop
 | .i k,a,h,K=>LdI k a h K
 | .b,a,h,K=>LdB a h K
 | .p,a,h,K=>LdP a h K
 | .s,a,h,K=>LdS a h K
 | .m,a,h,K=>LdM a h K
 | .str,a,h,K=>LdT a h K
 | .fn,a,h,K=>LdF a h K
 | .raw,a,h,K=>LdR a h K
 | .ag n,a,h,K=>LdA n a h K
 | .ad,a,h,K=>LdAd a h K
def LdN:List CK->Addr->Nat->Hp->(List Value->Prop)->Prop
 | [],_,_,_,K=>K []
 | c::cs,a,i,h,K=>Ld1 c (a.add i) h λx=>LdN cs a (i+1) h λvs=>K (c.v x::vs)
def AsB (v:Value)(t:TypeId)(vs zs:List Value)(b:Bool):Prop:=match b with
 | true=>v=.iface t (.agg vs.toArray)
 | false=>vs=zs/\(v=.nilIface\/∃t' u,v=.iface t' u/\t'≠t)
def Asr (v:Value)(t:TypeId)(zs:List Value):List CK->List Value->(List Value->Bool->Prop)->Prop
 | [],acc,K=>∃b:Bool,AsB v t acc zs b/\K acc b
 | c::cs,acc,K=>∃x:c.T,Asr v t zs cs (acc++[c.v x]) K
theorem Asr.out {v:Value}{t:TypeId}{zs:List Value}:∀{cs:List CK} {acc:List Value} {K:List Value->Bool->Prop},Asr v t zs cs acc K->∃vs b,AsB v t vs zs b/\K vs b
 | [],acc,K,⟨b,h1,h2⟩=>⟨acc,b,h1,h2⟩
 | c::cs,acc,K,⟨x,h⟩=>Asr.out h
def IsIf (v:Value):Prop:=v=.nilIface\/∃t u,v=.iface t u
def nilI:Value->Bool
 | .nilIface=>true
 | _=>false
def O1 (v:Value)(A:Prop):Prop:=match v with
 | .agg _=>False
 | .tuple _=>False
 | _=>A
def O1L:List Value->Prop->Prop
 | [],A=>A
 | v::vs,A=>O1 v (O1L vs A)
def NilP (p:Option Addr)(K:Addr->Prop):Prop:=∃a,p=some a/\K a
def Ar (k:IntKind)(e:Int)(K:Int->Prop):Prop:=K (k.wrap e)
def Nz (y:Int)(A:Prop):Prop:=y≠0/\A
def Nn (y:Int)(A:Prop):Prop:=0<=y/\A
def Ix (base:Option Addr)(len:Nat)(i:Int)(sz:Nat)(K:Addr->Prop):Prop:=∃a,base=some a/\0<=i/\i<(len:Int)/\K (a.add (i.toNat*sz))
def IxA (a:Addr)(len:Nat)(i:Int)(sz:Nat)(K:Addr->Prop):Prop:=0<=i/\i<(len:Int)/\K (a.add (i.toNat*sz))
def IxS (s:ByteArray)(i:Int)(K:Int->Prop):Prop:=∃b,0<=i/\s[i.toNat]?=some b/\K (b.toNat:Int)
def If (b:Bool)(A B:Prop):Prop:=match b with
 | true=>A
 | false=>B
theorem If.t {b:Bool}{A B:Prop}(h:If b A B)(e:b=true):A:=by subst e;exact h
theorem If.f {b:Bool}{A B:Prop}(h:If b A B)(e:b=false):B:=by subst e;exact h
theorem If.mk {b:Bool}{A B:Prop}(h1:b=true->A)(h2:b=false->B):If b A B:=by cases b;exact h2 rfl;exact h1 rfl
def Nw (o:Obj)(h:Hp)(K:Addr->Hp->Prop):Prop:=K ⟨h.size,0,none⟩ (h.push o)
def St1 (a:Addr)(v:Value)(h:Hp)(K:Hp->Prop):Prop:=(cell h a).isSome=true/\frz h a=false/\K (setc h a v)
def StN (a:Addr)(h:Hp):List Value->Nat->(Hp->Prop)->Prop
 | [],_,K=>K h
 | v::vs,i,K=>St1 (a.add i) v h λh'=>StN a h' vs (i+1) K
def SlcL (s:Sl)(sz:Nat)(lo hi mx:Int)(K:Sl->Prop):Prop:=
 0<=lo/\lo<=hi/\hi<=mx/\mx<=(s.cap:Int)/\K ⟨if mx.toNat=lo.toNat then s.a else s.a.map (·.add (lo.toNat*sz)),hi.toNat-lo.toNat,mx.toNat-lo.toNat⟩
def MapL (h:Hp)(r:Nat)(k:IntKind)(c:CK)(l:List (Int×c.T)):Prop:=
 ∃es clk,h[r]?=some (.map es clk)/\es.toList.map (λe=>(e.key,e.val))=l.map (λx=>(Value.int k x.1,c.v x.2)) ∧
  (l.map (·.1)).Nodup/\(es.toList.map (·.born)).Pairwise (· < ·)/\∀e∈es.toList,e.born<clk
def MapO (h:Hp)(m:Option Nat)(k:IntKind)(c:CK)(l:List (Int×c.T)):Prop:=
 match m with
 | none=>l=[]
 | some r=>MapL h r k c l
def mget {α:Type}(l:List (Int×α))(n:Int):Option α:=(l.find? λx=>x.1==n).map (·.2)
def mset {α:Type}(l:List (Int×α))(n:Int)(v:α):List (Int×α):=
 if l.any (λx=>x.1==n)then l.map (λx=>if x.1==n then(n,v)else x)else l++[(n,v)]
def mdel {α:Type}(l:List (Int×α))(n:Int):List (Int×α):=l.filter λx=>!(x.1==n)
def ZY (h h':Hp)(r:Nat):Prop:=h'.size=h.size/\∀b,b≠r->h'[b]?=h[b]?
def Lk (k:IntKind)(c:CK)(m:Option Nat)(n:Int)(h:Hp)(K:Option c.T->Prop):Prop:=∃l,MapO h m k c l/\K (mget l n)
def MLen (k:IntKind)(c:CK)(m:Option Nat)(h:Hp)(K:Int->Prop):Prop:=∃l,MapO h m k c l/\K (l.length:Int)
def MSet (k:IntKind)(c:CK)(m:Option Nat)(n:Int)(x:c.T)(h:Hp)(K:Hp->Prop):Prop:=
 ∃r l,m=some r/\MapL h r k c l/\∀h',ZY h h' r->MapL h' r k c (mset l n x)->K h'
def MDel (k:IntKind)(c:CK)(m:Option Nat)(n:Int)(h:Hp)(K:Hp->Prop):Prop:=
 ∃l,MapO h m k c l/\∀h',(∀r,m=some r->ZY h h' r)->(m=none->h'=h)->MapO h' m k c (mdel l n)->K h'
def It (h:Hp)(r:Nat)(k:IntKind)(c:CK)(m:Option Nat)(l todo:List (Int×c.T))(cur:Option (Int×c.T)):Prop:=
 match m with
 | none=>l=[]/\todo=[]/\cur=none/\∃s q y,h[r]?=some (.mapIter none s q y)
 | some b=>∃es clk seen,h[r]?=some (.mapIter (some b) clk seen clk)/\h[b]?=some (.map es clk)/\es.toList.map (λe=>(e.key,e.val))=l.map (λx=>(Value.int k x.1,c.v x.2)) ∧
  (l.map (·.1)).Nodup/\(es.toList.map (·.born)).Pairwise (· < ·)/\(∀e∈es.toList,e.born<clk) ∧
  (es.toList.filter λe=>!seen.contains e.born).map (λe=>(e.key,e.val))=todo.map (λx=>(Value.int k x.1,c.v x.2)) ∧
  (∀x,cur=some x->∃e∈es.toList,seen.back?=some e.born/\e.key=.int k x.1/\e.val=c.v x.2)
def Rng (k:IntKind)(c:CK)(m:Option Nat)(h:Hp)(K:Addr->Hp->Prop):Prop:=
 ∃l,MapO h m k c l/\∀h',h'.size=h.size+1->(∀b,b<h.size->h'[b]?=h[b]?)->It h' h.size k c m l l none->K ⟨h.size,0,none⟩ h'
def Nxt (k:IntKind)(c:CK)(a:Addr)(h:Hp)(A:Prop)(B:Int->c.T->Hp->Prop):Prop:=
 a.off=0/\∃m l todo cur,It h a.block k c m l todo cur/\(todo=[]->A) ∧
  ∀n x,(n,x)∈todo->∀h',ZY h h' a.block->It h' a.block k c m l (todo.filter λy=>!(y.1==n)) (some (n,x))->B n x h'
def Ent (k:IntKind)(c:CK)(a:Addr)(h:Hp)(K:Int->c.T->Prop):Prop:=
 a.off=0/\∃m l todo n x,It h a.block k c m l todo (some (n,x))/\K n x
def one1:Value->Bool
 | .agg _=>false
 | .tuple _=>false
 | _=>true
def Rd (h:Hp)(a:Option Addr)(xs:List Value):Prop:=
 match a with
 | none=>xs=[]
 | some a=>∀j v,xs[j]?=some v->cell h (a.add j)=some v
def BtS (s:Sl)(h:Hp)(K:ByteArray->Prop):Prop:=∃bs:List Int,bs.length=s.len/\Rd h s.a (bs.map (.int .u8))/\K ⟨(bs.map λn=>UInt8.ofNat n.toNat).toArray⟩
def App (s:Sl)(sz bytes:Nat)(e:Nat)(zs:List Value)(x:Sl)(h:Hp)(K:Sl->Hp->Prop):Prop:=
 ∃xs ys,xs.length=s.len*sz/\ys.length=x.len*sz/\Rd h s.a xs/\Rd h x.a ys/\(∀v∈ys,one1 v=true)/\(s.len+x.len)*bytes<=2^46/\s.len+x.len<=2^62 ∧
  (s.len+x.len<=s.cap->match s.a with
   | some a=>StN (a.add (s.len*sz)) h ys 0 λh'=>K ⟨s.a,s.len+x.len,s.cap⟩ h'
   | none=>K ⟨none,s.len+x.len,s.cap⟩ h) ∧
  (¬s.len+x.len<=s.cap->∀c,s.len+x.len<=c->Nw (.cells (xs++ys++(List.replicate (c-(s.len+x.len)) zs).flatten).toArray e) h λa h'=>K ⟨some a,s.len+x.len,c⟩ h')
def AppZ (s:Sl)(sz bytes:Nat)(e:Nat)(zs:List Value)(n:Int)(h:Hp)(K:Sl->Hp->Prop):Prop:=
 0<=n/\∃xs,xs.length=s.len*sz/\Rd h s.a xs/\(∀v∈zs,one1 v=true)/\(s.len+n.toNat)*bytes<=2^46/\s.len+n.toNat<=2^62/\(n.toNat:Int)*bytes<=2^46 ∧
  (s.len+n.toNat<=s.cap->match s.a with
   | some a=>StN (a.add (s.len*sz)) h (List.replicate n.toNat zs).flatten 0 λh'=>K ⟨s.a,s.len+n.toNat,s.cap⟩ h'
   | none=>K ⟨none,s.len+n.toNat,s.cap⟩ h) ∧
  (¬s.len+n.toNat<=s.cap->∀c,s.len+n.toNat<=c->Nw (.cells (xs++(List.replicate n.toNat zs).flatten++(List.replicate (c-(s.len+n.toNat)) zs).flatten).toArray e) h λa h'=>K ⟨some a,s.len+n.toNat,c⟩ h')
def Cpy (d:Sl)(sz:Nat)(s:Sl)(h:Hp)(K:Int->Hp->Prop):Prop:=
 ∃xs,xs.length=min s.len d.len*sz/\Rd h s.a xs/\(∀v∈xs,one1 v=true)/\match d.a with
  | some a=>StN a h xs 0 λh'=>K ((min s.len d.len:Nat):Int) h'
  | none=>K ((min s.len d.len:Nat):Int) h
def Clr (s:Sl)(zs:List Value)(h:Hp)(K:Hp->Prop):Prop:=
 (∀v∈zs,one1 v=true)/\match s.a with
  | some a=>StN a h (List.replicate s.len zs).flatten 0 K
  | none=>K h
def Mk (n c:Int)(bytes:Nat)(e:Nat)(zs:List Value)(h:Hp)(K:Sl->Hp->Prop):Prop:=
 0<=n/\n<=c/\(bytes:Int)*c<=2^46/\c<2^62/\Nw (.cells (List.replicate c.toNat zs).flatten.toArray e) h λa h'=>K ⟨some a,n.toNat,c.toNat⟩ h'
def Zc (w w':World):Prop:=w'.os=w.os/\w'.tape=w.tape/\w'.output=w.output/\w.heap.size<=w'.heap.size
def Gz:List SK->List Value->List Value
 | [],_=>[]
 | .one _::ss,v::vs=>v::Gz ss vs
 | .one _::ss,[]=>undef::Gz ss []
 | .agg cs::ss,vs=>.agg (vs.take cs.length).toArray::Gz ss (vs.drop cs.length)
def pack (rs:List SK)(vs:List Value):Value:=
 match Gz rs vs with
 | [v]=>v
 | l=>.tuple l.toArray
def Wi (P:Program)(f:Nat)(args:Array Value)(rs:List SK)(h:Hp)(R:Fam (ksOf rs)):Prop:=
 ∀w:World,w.heap=h->Calls P f args w λe w'=>Zc w w'/\∃vs,e=.returned (pack rs vs)/\Sat (ksOf rs) R vs w'.heap
theorem Wi.mono {P:Program}{f:Nat}{args:Array Value}{rs:List SK}{h:Hp}{R R':Fam (ksOf rs)}(c:Wi P f args rs h R)(hl:Fam.le (ksOf rs) R R'):Wi P f args rs h R':=
 λw hw=>(c w hw).mono λ_ _ ⟨io,vs,e,s⟩=>⟨io,vs,e,s.mono hl⟩
def InvK (P:Program)(v:Value)(name:String)(args:List Value)(rs:List SK)(h:Hp)(R:Fam (ksOf rs)):Prop:=
 ∃t u f,v=.iface t u/\(∀w,(method (P.types.size+Made.depth) t u name).run P w=.ok (f,u) w)/\(∀xs w,(callFunc f xs).run P w=.ok (.enter f xs) w)/\Wi P f (u::args).toArray rs h R
def WkQ (P:Program)(fv:Fv)(args:List Value)(rs:List SK)(h:Hp)(R:Fam (ksOf rs)):Prop:=
 Wi P fv.f (fv.first++args.toArray++fv.captured) rs h R
abbrev SK.I:SK:=.one (.i .i64)
abbrev _root_.Go.Value.I (x:Int):Value:=.int .i64 x
def WkK:TypeDesc->Option CK
 | .bool=>some .b
 | .int k=>some (.i k)
 | .string=>some .str
 | .pointer _=>some .p
 | .slice _=>some .s
 | .map _ _=>some .m
 | .func _ _ _=>some .fn
 | .interface _=>some .raw
 | _=>none
mutual
def Wkl (P:Program):Nat->TypeId->Option (List CK)
 | 0,_=>none
 | n+1,t=>
  match P.underlying t with
  | some (.struct fs)=>WkR P n fs.toList
  | some (.array m e)=>(Wkl P n e).map λl=>(List.replicate m l).flatten
  | some d=>(WkK d).map λc=>[c]
  | none=>none
def WkR (P:Program):Nat->List Field->Option (List CK)
 | 0,_=>none
 | _+1,[]=>some []
 | n+1,f::fs=>match Wkl P n f.type,WkR P n fs with
  | some a,some b=>some (a++b)
  | _,_=>none
end
def ekD:SK->SK
 | .agg cs=>bif cs.all (· == .i .i64)then .one (.ag cs.length)else .agg cs
 | s=>s
def Vn:TypeDesc->Bool
 | .struct _ | .array _ _=>true
 | _=>false
def skOf (P:Program)(t:TypeId):Option SK:=
 match P.underlying t with
 | some d=>bif Vn d then(Wkl P 24 t).map .agg else(WkK d).map .one
 | none=>none
def ekOf (P:Program)(t:TypeId):Option SK:=(skOf P t).map ekD
def chk (b:Bool)(A:Prop):Prop:=match b with|true=>A|false=>False
theorem WC {b:Bool}{A:Prop}:chk b A↔b=true/\A:=by cases b<;>simp[chk]
def arK (op:BinOp)(k:IntKind)(x y:Int)(K:Value->Prop):Prop:=
 match op with
 | .add=>Ar k (x+y) λz=>K (.int k z)
 | .sub=>Ar k (x-y) λz=>K (.int k z)
 | .mul=>Ar k (x*y) λz=>K (.int k z)
 | .quo=>Nz y (Ar k (x.tdiv y) λz=>K (.int k z))
 | .rem=>Nz y (K (.int k (x.tmod y)))
 | .and=>K (.int k (bits .and k x y))
 | .or=>K (.int k (bits .or k x y))
 | .xor=>K (.int k (bits .xor k x y))
 | .andNot=>K (.int k (bits .andNot k x y))
 | .shl=>Nn y (Ar k (x*2^(min y.toNat k.bits)) λz=>K (.int k z))
 | .shr=>Nn y (K (.int k (x.fdiv (2^(min y.toNat k.bits)))))
 | .eql=>K (.bool (x==y))
 | .neq=>K (.bool (x != y))
 | .lss=>K (.bool (decide (x<y)))
 | .leq=>K (.bool (decide (x<=y)))
 | .gtr=>K (.bool (decide (x>y)))
 | .geq=>K (.bool (decide (x≥y)))
def eqK (op:BinOp)(b:Bool)(K:Value->Prop):Prop:=
 match op with
 | .eql=>K (.bool b)
 | .neq=>K (.bool (!b))
 | _=>False
def nilK (P:Program)(op:BinOp)(t:TypeId)(x y:Value)(K:Value->Prop):Prop:=
 match P.underlying t,x,y with
 | some (.pointer _),.pointer p,.pointer none=>eqK op p.isNone K
 | some (.slice _),.slice p _ _,.slice none 0 0=>eqK op p.isNone K
 | some (.map _ _),.map p,.map none=>eqK op p.isNone K
 | some (.interface _),x,.nilIface=>IsIf x/\eqK op (nilI x) K
 | _,_,_=>False
def binK (P:Program)(op:BinOp)(t:TypeId)(x y:Value)(K:Value->Prop):Prop:=
 match x,y with
 | .int k a,.int k' b=>if k=k' then arK op k a b K else(match op with | .shl=>arK .shl k a b K | .shr=>arK .shr k a b K|_=>False)
 | .bool a,.bool b=>match P.underlying t with
  | some .bool=>eqK op (a==b) K
  | _=>False
 | .string a,.string b=>match op with
  | .eql=>K (.bool (a.toList==b.toList))
  | .neq=>K (.bool (!(a.toList==b.toList)))
  | _=>False
 | _,_=>False
def eqFs (P:Program)(xs ys:List Value):List Field->Option Bool
 | []=>some true
 | f::fs=>bif f.name == "_" then none else
  match P.underlying f.type,xs[f.offset]?,ys[f.offset]?,eqFs P xs ys fs with
  | some (.int _),some (.int k a),some (.int k' b),some r=>if k=k' then some ((a==b)&&r)else none
  | some .bool,some (.bool a),some (.bool b),some r=>some ((a==b)&&r)
  | _,_,_,_=>none
def eqCs (P:Program)(e:TypeId)(xs ys:List Value):List Nat->Option Bool
 | []=>some true
 | i::is=>match P.underlying e,xs[i]?,ys[i]?,eqCs P e xs ys is with
  | some (.int _),some (.int k a),some (.int k' b),some r=>if k=k' then some ((a==b)&&r)else none
  | some (.pointer _),some (.pointer p),some (.pointer none),some r=>some (p.isNone&&r)
  | _,_,_,_=>none
def aggK (P:Program)(op:BinOp)(t:TypeId)(xs ys:List Value)(K:Value->Prop):Prop:=
 match P.underlying t with
 | some (.struct fs)=>chk (!P.stoodInHeld t && !P.eqGuardType P.depth t) (match eqFs P xs ys fs.toList with
  | some b=>eqK op b K
  | none=>False)
 | some (.array n e)=>chk (!P.eqGuardType P.depth t&&((P.info? e).isSome&&P.cellsOf e==1)) (match eqCs P e xs ys (List.range n)with
  | some b=>eqK op b K
  | none=>False)
 | _=>False
def Wa7:Operand->Bool
 | .const (.pointer none)=>true
 | .const (.slice none 0 0)=>true
 | .const (.map none)=>true
 | .const .nilIface=>true
 | _=>false
def WgT (P:Program)(op:BinOp)(t:TypeId)(y:Operand)(vx vy:Value)(K:Value->Prop):Prop:=
 bif Wa7 y then nilK P op t vx vy K else match vx,vy with
 | .agg xs,.agg ys=>aggK P op t xs.toList ys.toList K
 | vx,vy=>binK P op t vx vy K
def fldK (P:Program)(s f:Nat)(K:Field->Prop):Prop:=
 match P.underlying s with
 | some (.struct fs)=>match fs[f]? with
  | some fd=>K fd
  | none=>False
 | _=>False
def lenK (P:Program)(t:TypeId)(x:Value)(h:Hp)(K:Value->Prop):Prop:=
 match P.underlying t,x with
 | some (.slice _),.slice _ n _=>K (.int .i64 (n:Int))
 | some .string,.string s=>K (.int .i64 (s.size:Int))
 | some (.array n _),_=>K (.int .i64 (n:Int))
 | some (.map kt et),.map m=>match P.underlying kt,ekOf P et with
  | some (.int k),some (.one c)=>MLen k c m h λz=>K (.int .i64 z)
  | _,_=>False
 | _,_=>False
def lkK (P:Program)(t:TypeId)(x i:Value)(ok:Bool)(h:Hp)(K:Value->Prop):Prop:=
 match P.underlying t,x,i with
 | some (.map kt et),.map m,.int k n=>match P.underlying kt,ekOf P et,P.info? et with
  | some (.int k'),some (.one c),some ti=>match ti.zero with
   | some z=>if k=k' then unv c z λz=>Lk k c m n h λo=>K (bif ok then .tuple #[c.v (o.getD z),.bool o.isSome]else c.v (o.getD z))else False
   | none=>False
  | _,_,_=>False
 | _,_,_=>False
def mmK (isMax:Bool):Value->List Value->(Value->Prop)->Prop
 | v,[],K=>K v
 | .int k x,.int _ y::vs,K=>mmK isMax (.int k (bif isMax then(if y>x then y else x)else(if y<x then y else x))) vs K
 | _,_,_=>False
def Wbh (YU:Nat->Option (Nat×Nat))(cells:List Value):List (Nat×Value)->Option (List Value)
 | []=>some cells
 | (i,v)::rest=>
  match YU i with
  | none=>none
  | some (off,size)=>
   if v.cells.size≠size\/off+v.cells.size>cells.length then none
   else Wbh YU (cells.take off++v.cells.toList++cells.drop (off+size)) rest
def UD (ρ:Env):List (Nat×Operand)->Option (List (Nat×Value))
 | []=>some []
 | (i,o)::os=>match ev ρ o,UD ρ os with|some v,some vs=>some ((i,v)::vs)|_,_=>none
def plF (P:Program)(fs:Array Field)(i:Nat):Option (Nat×Nat):=match fs[i]? with
 | some f=>match P.info? f.type with
  | some ti=>some (f.offset,ti.size)
  | none=>none
 | none=>none
def WbR (P:Program)(t:TypeId):Bool:=match P.underlying t with
 | some (.interface _)=>true
 | _=>false
def rawF (P:Program)(fs:Array Field)(i:Nat):Bool:=match fs[i]? with
 | some f=>WbR P f.type
 | none=>false
def Wf4 (raw:Nat->Bool):List (Nat×Value)->List (Nat×Value)
 | []=>[]
 | (i,v)::ps=>(i,bif raw i then .agg #[v]else v)::Wf4 raw ps
def ifsR (raw:Nat->Bool):List (Nat×Value)->Prop->Prop
 | [],A=>A
 | (i,v)::ps,A=>bif raw i then IsIf v/\ifsR raw ps A else ifsR raw ps A
def bldK (P:Program)(t:TypeId)(ps:List (Nat×Value))(K:Value->Prop):Prop:=
 match P.info? t,P.underlying t with
 | some ti,some (.struct fs)=>match ti.zero with
  | some z=>ifsR (rawF P fs) ps (match Wbh (plF P fs) z.cells.toList (Wf4 (rawF P fs) ps)with
   | some cs=>chk (fs.toList.all λf=>(P.info? f.type).isSome) (K (.agg cs.toArray))
   | none=>False)
  | none=>False
 | some ti,some (.array _ e)=>match ti.zero,P.info? e with
  | some z,some te=>match Wbh (λi=>some (i*te.size,te.size)) z.cells.toList ps with
   | some cs=>K (.agg cs.toArray)
   | none=>False
  | _,_=>False
 | _,_=>False
def Wet (P:Program)(t:TypeId)(cs:List Value)(off:Nat)(K:Value->Prop):Prop:=
 match P.underlying t,P.info? t with
 | some d,some ti=>bif Vn d then K (.agg ((cs.drop off).take ti.size).toArray)else wv (cs[off]?) K
 | _,_=>False
def slcK (P:Program)(t:TypeId)(x:Value)(lo hi mx:Option Value)(K:Value->Prop):Prop:=
 match P.underlying t,x with
 | some (.slice e),.slice a n c=>match P.info? e with
  | some ti=>
   let loV:Option Int:=match lo with|none=>some 0|some (.int .i64 z)=>some z|_=>none
   let hiV:Option Int:=match hi with|none=>some n|some (.int .i64 z)=>some z|_=>none
   let mxV:Option Int:=match mx,hi with|none,_=>some c|some (.int .i64 z),some _=>some z|_,_=>none
   match loV,hiV,mxV with
   | some l,some h,some m=>SlcL ⟨a,n,c⟩ ti.size l h m λs=>K (.slice s.a s.len s.cap)
   | _,_,_=>False
  | none=>False
 | _,_=>False
def evO (ρ:Env):Option Operand->Option (Option Value)
 | none=>some none
 | some o=>(ev ρ o).map some
def qK (P:Program)(o:Op)(ρ:Env)(h:Hp)(K:Value->Prop):Prop:=
 match o with
 | .move x=>wv (ev ρ x) K
 | .assign x=>wv (ev ρ x) K
 | .pick c x y=>wv (ev ρ c) λv=>match v with
  | .bool true=>wv (ev ρ x) K
  | .bool false=>wv (ev ρ y) K
  | _=>False
 | .load t a=>wv (ev ρ a) λv=>match v,skOf P t with
  | .pointer (some a),some (.one c)=>chk (P.info? t).isSome (Ld1 c a h λx=>K (c.v x))
  | .pointer (some a),some (.agg cs)=>chk (P.cellsOf t==cs.length) (chk (P.info? t).isSome (LdN cs a 0 h λvs=>K (.agg vs.toArray)))
  | _,_=>False
 | .nilCheck x=>wv (ev ρ x) λv=>match v with
  | .pointer p=>NilP p λa=>K (.pointer (some a))
  | .func (.func f) a b=>K (.func (.func f) a b)
  | _=>False
 | .binOp op t x y _=>wv (ev ρ x) λvx=>wv (ev ρ y) λvy=>WgT P op t y vx vy K
 | .unOp op _ x=>wv (ev ρ x) λv=>match op,v with
  | .not,.bool b=>K (.bool (!b))
  | .neg,.int k n=>Ar k (0-n) λz=>K (.int k z)
  | _,_=>False
 | .convert s d x=>wv (ev ρ x) λv=>match P.underlying s,P.underlying d,v with
  | some _,some (.int k),.int _ n=>Ar k n λz=>K (.int k z)
  | some _,some .string,.string x=>K (.string x)
  | some (.slice e),some .string,.slice a n c=>(match P.underlying e with|some (.int .u8)=>BtS ⟨a,n,c⟩ h λs=>K (.string s)|_=>False)
  | _,_,_=>False
 | .fieldAddr s x f=>wv (ev ρ x) λv=>fldK P s f λfd=>match v with
  | .pointer (some a)=>chk (P.cellsOf fd.type != 0) (K (.pointer (some (a.add fd.offset))))
  | _=>False
 | .field s x f=>wv (ev ρ x) λv=>fldK P s f λfd=>match v with
  | .agg cs=>Wet P fd.type cs.toList fd.offset K
  | _=>False
 | .indexAddr t x i=>wv (ev ρ x) λvx=>wv (ev ρ i) λvi=>match P.underlying t,vx,vi with
  | some (.slice e),.slice b n _,.int _ i=>chk (P.info? e).isSome (Ix b n i (P.cellsOf e) λa=>K (.pointer (some a)))
  | some (.array n e),.pointer (some a),.int _ i=>chk (P.info? e).isSome (IxA a n i (P.cellsOf e) λa=>K (.pointer (some a)))
  | _,_,_=>False
 | .index t x i=>wv (ev ρ x) λvx=>wv (ev ρ i) λvi=>match P.underlying t,vx,vi with
  | some .string,.string s,.int _ i=>IxS s i λz=>K (.int .u8 z)
  | _,_,_=>False
 | .lookup t x i ok=>wv (ev ρ x) λvx=>wv (ev ρ i) λvi=>lkK P t vx vi ok h K
 | .extract t i=>wv (ev ρ t) λv=>match v with
  | .tuple vs=>wv (vs.toList[i]?) K
  | _=>False
 | .makeFunc fn a b=>match evs ρ a.toList,evs ρ b.toList with
  | some va,some vb=>K (.func fn va.toArray vb.toArray)
  | _,_=>False
 | .build t ps=>match UD ρ ps.toList with
  | some vs=>bldK P t vs K
  | none=>False
 | .slice t x lo hi mx=>wv (ev ρ x) λv=>match evO ρ lo,evO ρ hi,evO ρ mx with
  | some lo,some hi,some mx=>slcK P t v lo hi mx K
  | _,_,_=>False
 | .makeInterface t x=>wv (ev ρ x) λv=>chk (P.concrete t) (K (.iface t v))
 | .typeAssert x _ t true=>wv (ev ρ x) λv=>match P.underlying t,P.info? t,skOf P t with
  | some (.struct _),some ti,some (.agg cs)=>match ti.zero with
   | some (.agg zs)=>Asr v t zs.toList cs [] λvs b=>K (.tuple #[.agg vs.toArray,.bool b])
   | _=>False
  | _,_,_=>False
 | .call c=>match c.callee,evs ρ c.args.toList,c.argTypes.toList with
  | .builtin .len,some [x],[t]=>lenK P t x h K
  | .builtin .cap,some [.slice _ _ n],[t]=>(match P.underlying t with|some (.slice _)=>K (.int .i64 (n:Int))|_=>False)
  | .builtin .max,some (x::xs),_=>mmK true x xs K
  | .builtin .min,some (x::xs),_=>mmK false x xs K
  | _,_,_=>False
 | _=>False
def isQ:Op->Bool
 | .move _ | .assign _ | .pick .. | .load _ _ | .nilCheck _ | .binOp .. | .unOp .. | .convert .. | .fieldAddr .. | .field .. | .indexAddr .. | .index .. | .lookup .. | .extract .. | .makeFunc .. | .build .. | .slice .. | .makeInterface .. => true
 | .typeAssert _ _ _ ok=>ok
 | .call c=>match c.callee with | .builtin .len | .builtin .cap | .builtin .max | .builtin .min=>true|_=>false
 | _=>false
theorem KD {P:Program}{t:Nat}{i:TypeInfo}(hi:P.info? t=some i)(w:World):(typeInfo t).run P w=.ok i w:=by
 simp[typeInfo,hi]
theorem Z5 {P:Program}{t:Nat}(h:(P.info? t).isSome=true)(w:World):(sizeOf t).run P w=.ok (P.cellsOf t) w:=by
 obtain⟨i,hi⟩:=zBP.1 h;simp[sizeOf,typeInfo,hi,Program.cellsOf]
theorem Kn {P:Program}{t:Nat}{i:TypeInfo}{z:Value}(hi:P.info? t=some i)(hz:i.zero=some z)(w:World):(zeroValue t).run P w=.ok z w:=by
 simp[zeroValue,typeInfo,hi,hz]
theorem WfV {P:Program}{op:BinOp}{t:Nat}{k:IntKind}{x y:Int}{K:Value->Prop}(h:arK op k x y K)(w:World) :
 ∃v,(binOp op t (.int k x) (.int k y)).run P w=.ok v w/\K v:=by
 cases op<;>simp only[arK,Ar,Nz,Nn]at h
 all_goals first
  | (refine⟨_,?_,h⟩;simp[binOp,Op.intArith,Op.intCmp,Op.intBits,bits];done)
  | (obtain⟨h1,h2⟩:=h;refine⟨_,?_,h2⟩;simp[binOp,Op.intDiv,h1];done)
  | (obtain⟨h1,h2⟩:=h;refine⟨_,?_,h2⟩;simp[binOp,Op.shift,Int.not_lt.2 h1];done)
theorem Vp {P:Program}{op:BinOp}{t:Nat}{x y:Value}{b:Bool}{K:Value->Prop}(h:eqK op b K)(w:World)
 (hb:∀op,(op=.eql\/op=.neq)->binOp op t x y=if op=.eql then(do pure (.bool (←Op.equal t x y)))else(do pure (.bool (!(←Op.equal t x y)))))
 (he:(Op.equal t x y).run P w=.ok b w):∃v,(binOp op t x y).run P w=.ok v w/\K v:=by
 cases op<;>simp only[eqK]at h
 case eql=>exact⟨_,by rw[hb .eql (.inl rfl)];simp[he],h⟩
 case neq=>exact⟨_,by rw[hb .neq (.inr rfl)];simp[he],h⟩
theorem WdF {P:Program}{t e:Nat}(hu:P.underlying t=some (.pointer e))(p:Option Addr)(d:Nat)(w:World):(Op.equalIn (d+1) t (.pointer p) (.pointer none)).run P w=.ok p.isNone w:=by
 cases p<;>simp[Op.equalIn,run_underlying hu]
theorem WeB {P:Program}{t e:Nat}(hu:P.underlying t=some (.slice e))(p:Option Addr)(n c d:Nat)(w:World):(Op.equalIn (d+1) t (.slice p n c) (.slice none 0 0)).run P w=.ok p.isNone w:=by
 cases p<;>simp[Op.equalIn,run_underlying hu]
theorem Wih {P:Program}{t k e:Nat}(hu:P.underlying t=some (.map k e))(p:Option Nat)(d:Nat)(w:World):(Op.equalIn (d+1) t (.map p) (.map none)).run P w=.ok p.isNone w:=by
 cases p<;>simp[Op.equalIn,run_underlying hu]
theorem WeL {P:Program}{t:Nat}(hu:P.underlying t=some .bool)(a b:Bool)(d:Nat)(w:World):(Op.equalIn (d+1) t (.bool a) (.bool b)).run P w=.ok (a==b) w:=by
 simp[Op.equalIn,run_underlying hu]
theorem Wkg {P:Program}{w:World}{s:Sl}{K:ByteArray->Prop}(h:BtS s w.heap K):∃b,(Conv.bytesToString (.slice s.a s.len s.cap)).run P w=.ok (.string b) w/\K b:=by
 obtain⟨bs,hl,hr,hK⟩:=h;refine⟨_,?_,hK⟩;cases hs:s.a with
 | none=>
  rw[hs]at hr;simp only[Rd,zEN]at hr;subst hr;simp[Conv.bytesToString];rfl
 | some a=>
  rw[hs]at hr;have hld:(loadCells a s.len).run P w=.ok (bs.map (Value.int .u8)).toArray w:=by
   rw[←hl];simpa using run_loadCells_list (P:=P) (w:=w) a (bs.map (Value.int .u8)) (λj v hv=>hr j v hv)
  have key:∀(l:List Int) (acc:ByteArray),List.foldl (λb a=>b.push (UInt8.ofNat a.toNat)) acc l=⟨acc.data++(l.map λn=>UInt8.ofNat n.toNat).toArray⟩:=by
   intro l
   induction l with
   | nil=>intro acc;simp
   | cons n l ih=>intro acc;rw[zBV,ih];congr 1;apply Array.ext';simp[ByteArray.push]
  simp only[Conv.bytesToString,Sem.run_bind,hld,Result.andThen_ok];simp[key]
theorem WeE {P:Program}{t:Nat}{ms:Array (String×TypeId)}(hu:P.underlying t=some (.interface ms)){v:Value}(hv:IsIf v)(d:Nat)(w:World):(Op.equalIn (d+1) t v .nilIface).run P w=.ok (nilI v) w:=by
 rcases hv with rfl|⟨t',u,rfl⟩
 ·simp[Op.equalIn,run_underlying hu,nilI]
 ·simp[Op.equalIn,run_underlying hu,nilI]
theorem WiX {P:Program}{xt t:TypeId}{ti:TypeInfo}{fs:Array Field}{v:Value}{vs zs:List Value}{b:Bool}(hu:P.underlying t=some (.struct fs))(hi:P.info? t=some ti)(hz:ti.zero=some (.agg zs.toArray))
 (h:AsB v t vs zs b) (w:World) :
 (Instr.typeAssert v xt t true).run P w=.ok (.tuple #[.agg vs.toArray,.bool b]) w:=by
 have hzr:=Kn hi hz w;cases b with
 | true=>
  simp only[AsB]at h;subst h;simp[Instr.typeAssert,run_underlying hu]
 | false=>
  simp only[AsB]at h;obtain⟨rfl,h⟩:=h;rcases h with rfl|⟨t',u,rfl,hne⟩
  ·simp[Instr.typeAssert,run_underlying hu,hzr]
  ·simp[Instr.typeAssert,run_underlying hu,hne,hzr]
theorem Wec {P:Program}{op:BinOp}{t:Nat}{x y:Value}{K:Value->Prop}(h:nilK P op t x y K)(w:World) :
 ∃v,(binOp op t x y).run P w=.ok v w/\K v:=by
 unfold nilK at h;split at h
 case h_1 e p hu=>
  refine Vp h w ?_ ?_
  ·rintro op (rfl|rfl)<;>simp[binOp]
  ·exact WdF hu p 9999 w
 case h_2 e p _ _ hu=>
  refine Vp h w ?_ ?_
  ·rintro op (rfl|rfl)<;>simp[binOp]
  ·exact WeB hu p _ _ 9999 w
 case h_3 e e' p hu=>
  refine Vp h w ?_ ?_
  ·rintro op (rfl|rfl)<;>simp[binOp]
  ·exact Wih hu p 9999 w
 case h_4 ms hu=>
  obtain⟨hi,h⟩:=h;refine Vp h w ?_ ?_
  ·rcases hi with rfl|⟨t',u,rfl⟩<;>rintro op (rfl|rfl)<;>simp[binOp]
  ·exact WeE hu hi 9999 w
 ·exact h.elim
theorem WeC {P:Program}{op:BinOp}{t:Nat}{x y:Value}{K:Value->Prop}(h:binK P op t x y K)(w:World) :
 ∃v,(binOp op t x y).run P w=.ok v w/\K v:=by
 unfold binK at h;split at h
 case h_1 k a k' b=>
  split at h
  ·rename_i e;subst e;exact WfV h w
  ·cases op<;>simp only at h
   case shl=>simp only[arK,Ar,Nn]at h;obtain⟨h1,h2⟩:=h;exact⟨_,by simp[binOp,Op.shift,Int.not_lt.2 h1],h2⟩
   case shr=>simp only[arK,Ar,Nn]at h;obtain⟨h1,h2⟩:=h;exact⟨_,by simp[binOp,Op.shift,Int.not_lt.2 h1],h2⟩
 case h_2 a b=>
  split at h
  ·rename_i hu;refine Vp h w ?_ ?_
   ·rintro op (rfl|rfl)<;>simp[binOp]
   ·exact WeL hu a b 9999 w
  ·exact h.elim
 case h_3 a b=>
  cases op<;>simp only at h
  ·exact⟨_,rfl,h⟩
  ·exact⟨_,rfl,h⟩
 ·exact h.elim
theorem HV {c:CK}{a:Addr}{h:Hp}{K:c.T->Prop}(hl:Ld1 c a h K):∃x,cell h a=some (c.v x)/\K x:=by
 cases c<;>exact hl
theorem WaZ {P:Program}{w:World}{a:Addr}{v:Value}(h:cell w.heap a=some v):(load a).run P w=.ok v w:=by
 have:w.cell? a=some v:=h;simp[this]
theorem Hv {P:Program}{w:World}:∀{cs:List CK} {a:Addr} {i:Nat} {K:List Value->Prop},LdN cs a i w.heap K →
 ∃vs,vs.length=cs.length/\K vs/\∀acc,(loadCellsFrom a i cs.length acc).run P w=.ok (acc++vs.toArray) w
 | [],a,i,K,h=>⟨[],rfl,h,λacc=>by simp[loadCellsFrom]⟩
 | c::cs,a,i,K,h=>by
  obtain⟨x,hx,hK⟩:=HV h;obtain⟨vs,hl,hK',hr⟩:=Hv (P:=P) hK;refine⟨c.v x::vs,by simp[hl],hK',λacc=>?_⟩;simp only[zU,loadCellsFrom,Sem.run_bind,WaZ hx,Result.andThen_ok,hr]
  congr 1
  apply Array.ext';simp
theorem QQ {P:Program}{t:Nat}{d:TypeDesc}(h:P.underlying t=some d)(w:World):(isAgg t).run P w=.ok (Vn d) w:=by
 simp only[isAgg,Sem.run_bind,run_underlying h,Result.andThen_ok];cases d<;>rfl
theorem Wc8 {P:Program}{t:Nat}{c:CK}(h:skOf P t=some (.one c)):∃d,P.underlying t=some d/\Vn d=false:=by
 unfold skOf at h;split at h
 ·rename_i d hd;refine⟨d,hd,?_⟩;cases e:Vn d
  ·rfl
  ·rw[e]at h;simp at h
 ·cases h
theorem WdC {P:Program}{t:Nat}{c:List CK}(h:skOf P t=some (.agg c)):∃d,P.underlying t=some d/\Vn d=true:=by
 unfold skOf at h;split at h
 ·rename_i d hd;refine⟨d,hd,?_⟩;cases e:Vn d
  ·rw[e]at h;simp at h
  ·rfl
 ·cases h
theorem Weu {P:Program}{t ty:Nat}{x:Value}{K:Value->Prop}{w:World}(h:lenK P t x w.heap K) :
 ∃v,(Builtin.len_ #[t] ty #[x]).run P w=.ok v w/\K v:=by
 unfold lenK at h;split at h
 case h_1 e a n c hu=>exact⟨_,by simp[Builtin.len_,run_underlying hu,goInt],h⟩
 case h_2 s hu=>exact⟨_,by simp[Builtin.len_,run_underlying hu,goInt],h⟩
 case h_3 n e y hu=>exact⟨_,by simp[Builtin.len_,run_underlying hu,goInt],h⟩
 case h_4 kt et m hu=>
  split at h
  case h_1 k c hk hs=>
   obtain⟨l,hm,hK⟩:=h;cases m with
   | none=>simp only[MapO]at hm;subst hm;exact⟨_,by simp[Builtin.len_,run_underlying hu,goInt],hK⟩
   | some r=>
    obtain⟨es,clk,hr,he,_⟩:=hm;have hlen:es.size=l.length:=by simpa using congrArg List.length he
    refine⟨_,?_,hK⟩;simp[Builtin.len_,run_underlying hu,goInt,getObj,Sem.run,hr,hlen]
  ·exact h.elim
 ·exact h.elim
theorem HG {P:Program}{w:World}:∀{vs:List Value} {v:Value} {b:Bool} {K:Value->Prop},mmK b v vs K →
 ∃z,(vs.foldlM (if b then Builtin.max2 else Builtin.min2) v).run P w=.ok z w/\K z
 | [],v,b,K,h=>⟨v,by simp,by simpa[mmK]using h⟩
 | u::vs,v,b,K,h=>by
  cases v<;>cases u<;>simp only[mmK]at h<;>try exact h.elim
  case int.int k x k' y=>
   obtain⟨z,hz,hK⟩:=HG h;refine⟨z,?_,hK⟩;cases b
   ·simpa[Builtin.min2]using hz
   ·simpa[Builtin.max2]using hz
theorem Zq {ρ:Env}{a:Act}(hf:∀x v,ev ρ x=some v->a.eval x=v):∀{os:List Operand} {vs:List Value},evs ρ os=some vs->os.map a.eval=vs
 | [],vs,h=>by simp[evs]at h;simp[h]
 | o::os,vs,h=>by
  simp only[evs]at h;split at h
  ·rename_i v vs' h1 h2;cases h;simp[hf _ _ h1,Zq hf h2]
  ·cases h
theorem KR {ρ:Env}{a:Act}(hf:∀x v,ev ρ x=some v->a.eval x=v):∀{os:List (Nat×Operand)} {vs:List (Nat×Value)},UD ρ os=some vs->os.map (λ(i,x)=>(i,a.eval x))=vs
 | [],vs,h=>by simp[UD]at h;simp[h]
 | (i,o)::os,vs,h=>by
  simp only[UD]at h;split at h
  ·rename_i v vs' h1 h2;cases h;simp[hf _ _ h1,KR hf h2]
  ·cases h
theorem UQ {k:IntKind}{n:Int}{c:CK}:∀(es:List MapEntry) (l:List (Int×c.T)) (i:Nat),
 es.map (λe=>(e.key,e.val))=l.map (λx=>(Value.int k x.1,c.v x.2)) →
 Instr.findNow (.int k) (.int k n) es i=some (match l.findIdx? (λx=>x.1==n)with|some j=>some (i+j,match l[j]? with|some x=>c.v x.2|none=>undef)|none=>none)
 | [],l,i,h=>by
  cases l with
  | nil=>simp[Instr.findNow]
  | cons x l=>simp at h
 | e::es,[],i,h=>by simp at h
 | e::es,x::l,i,h=>by
  simp only[zI,List.cons.injEq,Prod.mk.injEq]at h;obtain⟨⟨h1,h2⟩,h3⟩:=h;have ih:=UQ (n:=n) es l (i+1) h3;simp only[Instr.findNow,h1,Instr.sameNow,zP];by_cases hx:n=x.1
  ·have e1:(n==x.1)=true:=by simpa using hx
   have e2:(x.1==n)=true:=by simpa using hx.symm
   simp[zDW,e1,e2,h2]
  ·have e1:(n==x.1)=false:=by simpa using hx
   have e2:(x.1==n)=false:=by simpa using λh=>hx h.symm
   simp only[e1,ih,zDW,e2];cases List.findIdx? (λx=>x.1==n) l with
   | none=>simp
   | some j=>simp;omega
theorem Qy {P:Program}{kt:Nat}{k:IntKind}(hk:P.underlying kt=some (.int k)){n:Int}{c:CK}{es:List MapEntry}{l:List (Int×c.T)}
 (he:es.map (λe=>(e.key,e.val))=l.map (λx=>(Value.int k x.1,c.v x.2))) (w:World) :
 (Instr.findKey kt (.int k n) es).run P w=.ok (match l.findIdx? (λx=>x.1==n)with|some j=>some (j,match l[j]? with|some x=>c.v x.2|none=>undef)|none=>none) w:=by
 simp[Instr.findKey,run_underlying hk,UQ es l 0 he]
theorem WaA {P:Program}{kt:Nat}{k:IntKind}(hk:P.underlying kt=some (.int k))(b:Bool)(n:Int)(d:Nat)(w:World) :
 (Instr.checkKey b (d+1) kt (.int k n)).run P w=.ok () w:=by
 simp[Instr.checkKey,run_underlying hk]
theorem ZV {P:Program}{kt:Nat}{k:IntKind}(hk:P.underlying kt=some (.int k))(b:Bool)(n:Int)(w:World) :
 (Instr.checkKey b 10000 kt (.int k n)).run P w=.ok () w:=WaA hk b n 9999 w
theorem Wby {α:Type}(l:List (Int×α))(n:Int):mget l n=(l.findIdx? (λx=>x.1==n)).bind λj=>(l[j]?).map (·.2):=by
 induction l with
 | nil=>rfl
 | cons x l ih=>
  simp only[mget,zDA,zDW]at *;cases h:x.1==n
  ·simp only[ih];cases List.findIdx? (λx=>x.1==n) l<;>simp
  ·simp
theorem Vl {α:Type}{l:List (Int×α)}{n:Int}{j:Nat}(h:l.findIdx? (λx=>x.1==n)=some j):∃x,l[j]?=some x/\x.1=n:=by
 rw[zAU]at h;obtain⟨hj,h1,_⟩:=h;exact⟨l[j],by simp[hj],by simpa using h1⟩
theorem WfP {P:Program}{t:Nat}{x i:Value}{ok:Bool}{K:Value->Prop}{w:World}(h:lkK P t x i ok w.heap K) :
 ∃v,(Instr.lookup t x i ok).run P w=.ok v w/\K v:=by
 unfold lkK at h;split at h
 case h_2=>exact h.elim
 rename_i kt et m k n hu;split at h
 case h_2=>exact h.elim
 rename_i k' c ti hk hs hi;split at h
 case h_2=>exact h.elim
 rename_i z hz;split at h
 case isFalse=>exact h.elim
 rename_i e;subst e;obtain⟨zx,hzx,l,hm,hK⟩:=Vk h;refine⟨_,?_,hK⟩;cases m with
 | none=>
  simp only[MapO]at hm;subst hm;simp only[Instr.lookup,Sem.run_bind,run_underlying hu,Result.andThen_ok,Sem.run_pure,ZV hk,Qy (c:=c) (l:=[]) hk (rfl:List.map _ (#[]:Array MapEntry).toList=_),List.findIdx?_nil,Kn hi hz];cases ok<;>simp[mget,hzx]
 | some r=>
  obtain⟨es,clk,hr,he,_⟩:=hm;simp only[Instr.lookup,Sem.run_bind,run_underlying hu,Result.andThen_ok,Sem.run_pure,ZV hk,getObj,Sem.run,hr,Qy hk he,Wby];cases hf:l.findIdx? (λx=>x.1==n)with
  | none=>cases ok<;>simp[Kn hi hz,hzx]
  | some j=>
   obtain⟨y,hy,_⟩:=Vl hf;cases ok<;>simp[hy]
theorem Wbq (off:Nat):∀(vs:List Value) (k:Nat) (cs:Array Value),off+k+vs.length<=cs.size →
 ((vs.zipIdx k).foldl (λcs (c,j)=>cs.setIfInBounds (off+j) c) cs).toList=cs.toList.take (off+k)++vs++cs.toList.drop (off+k+vs.length)
 | [],k,cs,h=>by simp
 | v::vs,k,cs,h=>by
  simp only[List.zipIdx_cons,zBV];rw[Wbq off vs (k+1) _ (by simp only[Array.size_setIfInBounds,zU]at *;omega)];simp only[zU]at h;have hlt:off+k<cs.toList.length:=by simp;omega
  simp only[Array.toList_setIfInBounds,zU];apply zn;intro m;simp only[List.getElem?_append,zY,zBQ,zJ,zg,zCH,zu,List.getElem?_cons,zU]
  grind
theorem Vt (YU:Nat->Option (Nat×Nat)):∀(ps:List (Nat×Value)) (cells:List Value) (cs:List Value),Wbh YU cells ps=some cs->Instr.fill YU cells.toArray ps=some cs.toArray
 | [],cells,cs,h=>by simp[Wbh]at h;simp[Instr.fill,h]
 | (i,v)::rest,cells,cs,h=>by
  simp only[Wbh]at h;simp only[Instr.fill];cases hp:YU i with
  | none=>rw[hp]at h;cases h
  | some os=>
   obtain⟨off,size⟩:=os;rw[hp]at h;simp only at h ⊢;split at h
   ·cases h
   ·rename_i hc;simp only[not_or,Decidable.not_not,Nat.not_lt]at hc;obtain⟨h1,h2⟩:=hc;rw[zA (by simp[h1];omega)];have:=Wbq off v.cells.toList 0 cells.toArray (by simp;omega);have e:(v.cells.zipIdx.foldl (λcs (c,j)=>cs.setIfInBounds (off+j) c) cells.toArray)=(cells.take off++v.cells.toList++cells.drop (off+size)).toArray:=by
     apply Array.ext';rw[←Array.foldl_toList,Array.toList_zipIdx,this];simp[h1]
    rw[e];exact Vt YU rest _ _ h
theorem HP {P:Program}{w:World}:∀(fs:List Field),(fs.all λf=>(P.info? f.type).isSome)=true →
 (fs.mapM λf=>(do pure (f.offset,←sizeOf f.type):Sem (Nat×Nat))).run P w=.ok (fs.map λf=>(f.offset,P.cellsOf f.type)) w
 | [],_=>by simp
 | f::fs,h=>by
  simp only[zDB,zF]at h;have ih:=HP (P:=P) (w:=w) fs h.2;simp only[List.mapM_cons,Sem.run_bind,Z5 h.1,Result.andThen_ok,Sem.run_pure,ih,zI]
theorem Wax {raw:Nat->Bool}:∀{ps:List (Nat×Value)} {A:Prop},ifsR raw ps A->A/\∀YU cells,Instr.fill YU cells (Wf4 raw ps)=Instr.fill YU cells ps
 | [],A,h=>⟨h,λ_ _=>rfl⟩
 | (i,v)::ps,A,h=>by
  simp only[ifsR]at h;cases hr:raw i
  ·rw[hr]at h;obtain⟨hA,ih⟩:=Wax h;exact⟨hA,λYU cells=>by simp only[Wf4,Instr.fill,ih,hr,cond_false]⟩
  ·rw[hr]at h;simp only[cond_true]at h;obtain⟨hA,ih⟩:=Wax h.2;have e:(Value.agg #[v]).cells=v.cells:=by
    rcases h.1 with rfl|⟨t,u,rfl⟩<;>rfl
   exact⟨hA,λYU cells=>by simp only[Wf4,Instr.fill,ih,hr,cond_true,e]⟩
theorem Weq {P:Program}{t:Nat}{ps:Array (Nat×Value)}{K:Value->Prop}{w:World}(h:bldK P t ps.toList K) :
 ∃v,(Instr.build t ps).run P w=.ok v w/\K v:=by
 unfold bldK at h;split at h
 case h_1 ti fs hi hu=>
  split at h
  case h_2=>exact h.elim
  rename_i z hz;obtain⟨h,hfe⟩:=Wax h;split at h
  case h_2=>exact h.elim
  rename_i cs hf;rw[WC]at h;obtain⟨hall,hK⟩:=h;refine⟨_,?_,hK⟩;have hm:=HP (P:=P) (w:=w) fs.toList hall;have hm':(fs.mapM λf=>(do pure (f.offset,←sizeOf f.type):Sem (Nat×Nat))).run P w=.ok (fs.map λf=>(f.offset,P.cellsOf f.type)) w:=by
   rw[Array.mapM_eq_mapM_toList];simp only[Sem.run_map,hm,Result.andThen_ok]
   congr 1
   apply Array.ext';simp
  have hpl:(λi=>(fs.map λf=>(f.offset,P.cellsOf f.type))[i]?)=plF P fs:=by
   funext i
   simp only[plF,Array.getElem?_map];cases hfi:fs[i]? with
   | none=>simp
   | some f=>
    have hmem:f∈fs.toList:=by
     have:=zFO hfi;simpa using this
    have:=zw.1 hall f hmem;obtain⟨ti,hti⟩:=zBP.1 this;simp[hti,Program.cellsOf]
  have:=Vt _ _ _ _ hf;rw[hfe]at this;simp only[Instr.build,Sem.run_bind,Kn hi hz,Result.andThen_ok,run_underlying hu,hm',hpl];have e:z.cells.toList.toArray=z.cells:=by simp
  rw[e]at this;simp[this]
 case h_2 ti n e hi hu=>
  split at h
  case h_2=>exact h.elim
  rename_i z te hz hte;split at h
  case h_2=>exact h.elim
  rename_i cs hf;refine⟨_,?_,h⟩;have:=Vt _ _ _ _ hf;have e1:z.cells.toList.toArray=z.cells:=by simp
  rw[e1]at this;have hs:(sizeOf e).run P w=.ok te.size w:=by simp[sizeOf,KD hte]
  simp only[Instr.build,Sem.run_bind,Kn hi hz,Result.andThen_ok,run_underlying hu,hs];simp[this]
 ·exact h.elim
theorem Wo {o:Option Value}{K:Value->Prop}(h:wv o K):∃v,o=some v/\K v:=by
 cases o with
 | none=>exact h.elim
 | some v=>exact⟨v,rfl,h⟩
theorem Wcz {P:Program}{t off:Nat}{cs:Array Value}{K:Value->Prop}{w:World}(h:Wet P t cs.toList off K) :
 ∃v,(part t cs off).run P w=.ok v w/\K v:=by
 unfold Wet at h;split at h
 case h_2=>exact h.elim
 rename_i d ti hu hi;cases hd:Vn d
 ·rw[hd]at h;obtain⟨v,hv,hK⟩:=Wo h;refine⟨v,?_,hK⟩;have:cs[off]?=some v:=by simpa using hv
  simp[part,QQ hu,hd,this]
 ·rw[hd]at h;refine⟨_,?_,h⟩;simp only[part,Sem.run_bind,QQ hu,hd,Result.andThen_ok,sizeOf,KD hi,zP,Sem.run_pure]
  congr 2
  apply Array.ext';simp
theorem Qr {P:Program}{w:World}{z:Int}{y:Nat}{code:BoundsCode}(h0:0<=z)(h1:z<=y):(Instr.sliceBound (.int .i64 z) y code).run P w=.ok z.toNat w:=by
 simp[Instr.sliceBound,asIntOf,h0,h1]
theorem WdP {o:Option Value}{d l:Int}(h:(match o with|none=>some d|some (.int .i64 z)=>some z|_=>none)=some l):(o=none/\l=d)\/o=some (.int .i64 l):=by
 split at h
 ·simp at h;exact .inl ⟨rfl,h.symm⟩
 ·simp at h;subst h;exact .inr rfl
 ·cases h
theorem Wea {P:Program}{t:Nat}{x:Value}{lo hi mx:Option Value}{K:Value->Prop}{w:World}(h:slcK P t x lo hi mx K) :
 ∃v,(Instr.sliceAt t x lo hi mx).run P w=.ok v w/\K v:=by
 unfold slcK at h;split at h
 case h_2=>exact h.elim
 rename_i e a n c hu;split at h
 case h_2=>exact h.elim
 rename_i ti hi';simp only at h;split at h
 case h_2=>exact h.elim
 rename_i l hh m hlo hhi hmx;obtain⟨h0,h1,h2,h3,hK⟩:=h;refine⟨_,?_,hK⟩;simp only at h3;have hsz:(sizeOf e).run P w=.ok ti.size w:=by simp[sizeOf,KD hi']
 have hb:(Instr.sliceBounds true n c lo hi mx).run P w=.ok (l.toNat,hh.toNat,m.toNat) w:=by
  have hm:(mx=none/\m=c)\/(mx=some (.int .i64 m)/\hi≠none):=by
   split at hmx
   ·simp at hmx;exact .inl ⟨rfl,hmx.symm⟩
   ·simp at hmx;subst hmx;exact .inr ⟨rfl,by simp⟩
   ·cases hmx
  have hl:=WdP hlo;have hhh:=WdP hhi;clear hlo hhi hmx;rcases hm with⟨rfl,rfl⟩|⟨rfl,hne⟩<;>rcases hhh with⟨rfl,rfl⟩|rfl
  case inr.inl=>exact absurd rfl hne
  all_goals rcases hl with⟨rfl,rfl⟩|rfl
  ·simp[Instr.sliceBounds]
  ·have:=Qr (P:=P) (w:=w) (z:=l) (y:=n) (code:=.sliceB) h0 (by omega);simp[Instr.sliceBounds,this]
  ·have:=Qr (P:=P) (w:=w) (z:=hh) (y:=c) (code:=.sliceAcap) (by omega) (by omega);simp[Instr.sliceBounds,this]
  ·have:=Qr (P:=P) (w:=w) (z:=hh) (y:=c) (code:=.sliceAcap) (by omega) (by omega);have:=Qr (P:=P) (w:=w) (z:=l) (y:=hh.toNat) (code:=.sliceB) (by omega) (by omega);simp[Instr.sliceBounds, *]
  ·have:=Qr (P:=P) (w:=w) (z:=m) (y:=c) (code:=.slice3Acap) (by omega) (by omega);have:=Qr (P:=P) (w:=w) (z:=hh) (y:=m.toNat) (code:=.slice3B) (by omega) (by omega);simp[Instr.sliceBounds, *]
  ·have:=Qr (P:=P) (w:=w) (z:=m) (y:=c) (code:=.slice3Acap) (by omega) (by omega);have:=Qr (P:=P) (w:=w) (z:=hh) (y:=m.toNat) (code:=.slice3B) (by omega) (by omega);have:=Qr (P:=P) (w:=w) (z:=l) (y:=hh.toNat) (code:=.slice3C) (by omega) (by omega);simp[Instr.sliceBounds, *]
 simp only[Instr.sliceAt,Instr.slice,Sem.run_bind,run_underlying hu,Result.andThen_ok,hb,hsz,Sem.run_pure]
theorem WcL {P:Program}{op:BinOp}{t:Nat}{x y:Operand}{a b:Value}(w:World)(h:(∀cs,a≠.agg cs)/\a≠.nilIface):(eqGuard op t x y a b).run P w=.ok () w:=by
 unfold eqGuard;cases op<;>simp
 all_goals (cases a<;>first|rfl | (simp at h))
theorem Whe {P:Program}{op:BinOp}{t:Nat}{x y:Value}{K:Value->Prop}(h:binK P op t x y K):(∀cs,x≠.agg cs)/\x≠.nilIface:=by
 unfold binK at h;split at h<;>first|exact absurd h id | (constructor<;>simp)
theorem WhA {P:Program}{op:BinOp}{t:Nat}{x y:Value}{K:Value->Prop}(h:nilK P op t x y K):∀cs,x≠.agg cs:=by
 unfold nilK at h;split at h
 case h_4=>rcases h.1 with rfl|⟨t',u,rfl⟩<;>simp
 all_goals first|exact absurd h id|simp
theorem Wbp {P:Program}{op:BinOp}{t:Nat}{x:Operand}{c:Value}{a b:Value}(w:World)(h:∀cs,a≠.agg cs):(eqGuard op t x (.const c) a b).run P w=.ok () w:=by
 unfold eqGuard;cases op<;>simp
 all_goals (cases a<;>first|rfl|exact absurd rfl (h _) | (cases b<;>simp))
theorem WdT {y:Operand}(h:Wa7 y=true):∃c,y=.const c:=by
 unfold Wa7 at h;split at h<;>first|exact⟨_,rfl⟩|cases h
theorem U5 {P:Program}{s f:Nat}{K:Field->Prop}(h:fldK P s f K):∃fs fd,P.underlying s=some (.struct fs)/\fs[f]?=some fd/\K fd:=by
 unfold fldK at h;split at h
 ·split at h
  ·exact⟨_,_,by assumption,by assumption,h⟩
  ·exact h.elim
 ·exact h.elim
theorem Wb0 {P:Program}{t:Nat}(h:P.cellsOf t≠0):(P.info? t).isSome=true:=by
 unfold Program.cellsOf at h;cases hi:P.info? t with
 | none=>rw[hi]at h;simp at h
 | some i=>rfl
theorem H6 {ρ:Env}{a:Act}(hf:∀x v,ev ρ x=some v->a.eval x=v){o:Option Operand}{v:Option Value}(h:evO ρ o=some v):o.map a.eval=v:=by
 cases o with
 | none=>simp[evO]at h;simp[h]
 | some o=>
  simp only[evO,zBW]at h;obtain⟨u,hu,rfl⟩:=h;simp[hf _ _ hu]
theorem Kh {P:Program}{t:Nat}{d:TypeDesc}{cs:Array Value}{off:Nat}{v:Value}{w:World}(hd:P.underlying t=some d)(hag:Vn d=false)(h:cs.toList[off]?=some v):(part t cs off).run P w=.ok v w:=by
 have h':cs[off]?=some v:=by simpa using h
 simp[part,QQ hd,hag,h']
theorem Waz {P:Program}{xs ys:Array Value}(d:Nat):∀(fs:List Field) (b:Bool),eqFs P xs.toList ys.toList fs=some b->∀w,(Op.eqFields (d+1) xs ys fs).run P w=.ok b w
 | [],b,h,w=>by simp[eqFs]at h;subst h;simp[Op.eqFields]
 | f::fs,b,h,w=>by
  simp only[eqFs]at h;cases hn:f.name == "_"
  ·rw[hn]at h;simp only[cond_false]at h;have hne:f.name ≠ "_" := by simpa using hn
   split at h
   ·rename_i k0 k a k' b' r hu hx hy hr;split at h
    case isFalse=>cases h
    rename_i e;subst e;simp only[Option.some.injEq]at h;subst h;have ih:=Waz (d:=d) fs r hr w;simp only[Op.eqFields,hne,ne_eq,not_false_eq_true,zP,Sem.run_bind,Kh hu rfl hx,Kh hu rfl hy,Result.andThen_ok,run_equalIn_int w d f.type k k0 a b' hu];cases hab:a==b'<;>simp[ih]
   ·rename_i a b' r hu hx hy hr;simp only[Option.some.injEq]at h;subst h;have ih:=Waz (d:=d) fs r hr w;simp only[Op.eqFields,hne,ne_eq,not_false_eq_true,zP,Sem.run_bind,Kh hu rfl hx,Kh hu rfl hy,Result.andThen_ok,run_equalIn_bool' w d f.type a b' hu];cases hab:a==b'<;>simp[ih]
   ·cases h
  ·rw[hn]at h;cases h
theorem WaU {P:Program}{e:TypeId}(hC:P.cellsOf e=1){xs ys:Array Value}(d:Nat):∀(is:List Nat) (b:Bool),eqCs P e xs.toList ys.toList is=some b->∀w,(Op.eqItems (d+1) e (P.cellsOf e) xs ys is).run P w=.ok b w
 | [],b,h,w=>by simp[eqCs]at h;subst h;simp[Op.eqItems]
 | i::is,b,h,w=>by
  simp only[eqCs]at h;split at h
  ·rename_i k0 k a k' b' r hu hx hy hr;split at h
   case isFalse=>cases h
   rename_i e';subst e';simp only[Option.some.injEq]at h;subst h;have ih:=WaU hC d is r hr w;simp only[Op.eqItems,hC,zAX,Sem.run_bind,Kh hu rfl hx,Kh hu rfl hy,Result.andThen_ok,run_equalIn_int w d e k k0 a b' hu];rw[hC]at ih;cases hab:a==b'<;>simp[ih]
  ·rename_i t0 p r hu hx hy hr;simp only[Option.some.injEq]at h;subst h;have ih:=WaU hC d is r hr w;simp only[Op.eqItems,hC,zAX,Sem.run_bind,Kh hu rfl hx,Kh hu rfl hy,Result.andThen_ok,WdF hu p d w];rw[hC]at ih;cases hab:p.isNone<;>simp[ih]
  ·cases h
theorem WdY {P:Program}{op:BinOp}{t:Nat}{xs ys:Array Value}{K:Value->Prop}(h:aggK P op t xs.toList ys.toList K)(x y:Operand)(w:World) :
 ∃v,(do eqGuard op t x y (.agg xs) (.agg ys);binOp op t (.agg xs) (.agg ys):Sem Value).run P w=.ok v w/\K v:=by
 have fin:∀b:Bool,(Op.equalIn 10000 t (.agg xs) (.agg ys)).run P w=.ok b w->P.eqGuardType P.depth t=false->eqK op b K →
  ∃v,(do eqGuard op t x y (.agg xs) (.agg ys);binOp op t (.agg xs) (.agg ys):Sem Value).run P w=.ok v w/\K v:=by
  intro b hrun hgt h;have hg:=run_eqGuard_agg (P:=P) w op t x y xs ys hgt;cases op<;>simp only[eqK]at h
  ·exact⟨_,by simp only[Sem.run_bind,hg,Result.andThen_ok,run_eql_struct,hrun],h⟩
  ·exact⟨_,by simp only[Sem.run_bind,hg,Result.andThen_ok,run_neq_struct,hrun],h⟩
 unfold aggK at h;split at h
 case h_1 fs hu=>
  rw[WC]at h;obtain⟨hc,h⟩:=h;simp only[zF,zAO]at hc;split at h
  case h_2=>exact h.elim
  rename_i b hb;have hfo:P.fieldsOf t=fs:=by simp[Program.fieldsOf,hu]
  have hrun:(Op.equalIn 10000 t (.agg xs) (.agg ys)).run P w=.ok b w:=by
   have:=run_equalIn_struct (P:=P) w 9999 t xs ys (by rw[hfo];exact hu) hc.1;rw[hfo]at this;exact this.trans (Waz 9998 fs.toList b hb w)
  exact fin b hrun hc.2 h
 case h_2 n e hu=>
  rw[WC]at h;obtain⟨hc,h⟩:=h;simp only[zF,zAO,zS]at hc;split at h
  case h_2=>exact h.elim
  rename_i b hb;obtain⟨i,hi⟩:=zBP.1 hc.2.1;exact fin b ((run_equalIn_array (P:=P) w 9999 xs ys hu hi).trans (WaU hc.2.2 9998 _ b hb w)) hc.1 h
 case h_3=>exact h.elim
theorem Hh {P:Program}{ρ:Env}{K:Value->Prop}{a:Act}{w:World}(hf:∀x v,ev ρ x=some v->a.eval x=v)(o:Oper)(hk:qK P o.op ρ w.heap K) :
 ∃v,(execOp a.eval o).run P w=.ok (.value v) w/\K v:=by
 obtain⟨dst,op,ty,pos,after,guard⟩:=o;simp only at hk;have lift:∀{s:Sem Value},(∃v,s.run P w=.ok v w/\K v)->∃v,(do pure (Next.value (←s)):Sem Next).run P w=.ok (.value v) w/\K v:=by
  rintro s ⟨v,hv,hK⟩;exact⟨v,by simp[hv],hK⟩
 unfold qK at hk;split at hk
 case h_1 x=>
  obtain⟨v,hv,hK⟩:=Wo hk;exact⟨v,by simp[execOp,hf _ _ hv],hK⟩
 case h_2 x=>
  obtain⟨v,hv,hK⟩:=Wo hk;exact⟨v,by simp[execOp,hf _ _ hv],hK⟩
 case h_3 c x y=>
  obtain⟨v,hv,hK⟩:=Wo hk;split at hK
  ·obtain⟨u,hu,hK⟩:=Wo hK;exact⟨u,by simp[execOp,hf _ _ hv,asBool,hf _ _ hu],hK⟩
  ·obtain⟨u,hu,hK⟩:=Wo hK;exact⟨u,by simp[execOp,hf _ _ hv,asBool,hf _ _ hu],hK⟩
  ·exact hK.elim
 case h_4 t x=>
  obtain⟨v,hv,hK⟩:=Wo hk;simp only[execOp,hf _ _ hv];apply lift;split at hK
  case h_1 ad c hs=>
   rw[WC]at hK;obtain⟨d,hd,hag⟩:=Wc8 hs;obtain⟨x,hx,hK⟩:=HV hK.2;exact⟨_,by simp only[Instr.loadAt,Instr.sureAddr,loadVar,Sem.run_bind,Sem.run_pure,Result.andThen_ok,QQ hd,hag];simpa using WaZ hx,hK⟩
  case h_2 ad cs hs=>
   rw[WC,WC]at hK;obtain⟨h1,h2,hK⟩:=hK;obtain⟨d,hd,hag⟩:=WdC hs;obtain⟨vs,hl,hK,hr⟩:=Hv (P:=P) hK;have h1':P.cellsOf t=cs.length:=by simpa using h1
   refine⟨_,?_,hK⟩;simp only[Instr.loadAt,Instr.sureAddr,loadVar,Sem.run_bind,Sem.run_pure,Result.andThen_ok,QQ hd,hag,zP,Z5 h2,loadCells,h1',hr];simp
  ·exact hK.elim
 case h_5 x=>
  obtain⟨v,hv,hK⟩:=Wo hk;simp only[execOp,hf _ _ hv];split at hK
  ·obtain⟨ad,rfl,hK⟩:=hK;exact⟨_,by simp,hK⟩
  ·exact⟨_,by simp,hK⟩
  ·exact hK.elim
 case h_6 op t x y yt=>
  obtain⟨vx,hx,hk⟩:=Wo hk;obtain⟨vy,hy,hk⟩:=Wo hk;simp only[execOp,hf _ _ hx,hf _ _ hy];apply lift;unfold WgT at hk;cases hn:Wa7 y
  ·rw[hn]at hk;simp only[cond_false]at hk;split at hk
   ·exact WdY hk x y w
   obtain⟨v,hv,hK⟩:=WeC hk w;exact⟨v,by simp[WcL w (Whe hk),hv],hK⟩
  ·rw[hn]at hk;simp only[cond_true]at hk;obtain⟨v,hv,hK⟩:=Wec hk w;obtain⟨c,hc⟩:=WdT hn;have hg:=Wbp (P:=P) (op:=op) (t:=t) (x:=x) (c:=c) (b:=vy) w (WhA hk);exact⟨v,by rw[hc];simp[hg,hv],hK⟩
 case h_7 op ty' x=>
  obtain⟨vx,hx,hk⟩:=Wo hk;simp only[execOp,hf _ _ hx];apply lift;split at hk
  ·exact⟨_,by simp[Op.unary],hk⟩
  ·exact⟨_,by simp[Op.unary,Op.intArith],hk⟩
  ·exact hk.elim
 case h_8 s d x=>
  obtain⟨vx,hx,hk⟩:=Wo hk;simp only[execOp,hf _ _ hx];apply lift;split at hk
  ·rename_i h1 h2;exact⟨_,by simp[convert,run_underlying h1,run_underlying h2,Conv.intToInt],hk⟩
  ·rename_i h1 h2;exact⟨_,by simp[convert,run_underlying h1,run_underlying h2],hk⟩
  ·rename_i h1 h2;split at hk
   ·rename_i hu;obtain⟨b,hr,hK⟩:=Wkg (P:=P) hk;exact⟨_,by simpa[convert,run_underlying h1,run_underlying h2,run_underlying hu]using hr,hK⟩
   ·exact hk.elim
  ·exact hk.elim
 case h_9 s x f=>
  obtain⟨vx,hx,hk⟩:=Wo hk;obtain⟨fs,fd,hs,hfd,hk⟩:=U5 hk;simp only[execOp,hf _ _ hx];apply lift;split at hk
  ·rename_i ad;rw[WC]at hk;have hne:P.cellsOf fd.type≠0:=by simpa using hk.1
   refine⟨_,?_,hk.2⟩;simp only[Instr.fieldAt,Sem.run_bind,run_underlying hs,Result.andThen_ok,hfd,Instr.sureAddr,Sem.run_pure,fieldPlace,Z5 (Wb0 hne),hne,zq]
  ·exact hk.elim
 case h_10 s x f=>
  obtain⟨vx,hx,hk⟩:=Wo hk;obtain⟨fs,fd,hs,hfd,hk⟩:=U5 hk;simp only[execOp,hf _ _ hx];apply lift;split at hk
  ·rename_i cs;obtain⟨v,hv,hK⟩:=Wcz (w:=w) hk;refine⟨v,?_,hK⟩;simp only[Instr.field,Sem.run_bind,run_underlying hs,Result.andThen_ok,hfd,asAgg,Sem.run_pure,hv]
  ·exact hk.elim
 case h_11 t x i=>
  obtain⟨vx,hx,hk⟩:=Wo hk;obtain⟨vi,hi,hk⟩:=Wo hk;simp only[execOp,hf _ _ hx,hf _ _ hi];apply lift;split at hk
  ·have hu:=(by assumption:P.underlying t=some _);rw[WC]at hk;obtain⟨h1,ad,rfl,h2,h3,hK⟩:=hk;refine⟨_,?_,hK⟩;simp[Instr.indexAt,asIntOf,run_underlying hu,Z5 h1,h2,h3]
  ·have hu:=(by assumption:P.underlying t=some _);rw[WC]at hk;obtain⟨h1,h2,h3,hK⟩:=hk;refine⟨_,?_,hK⟩;simp[Instr.indexAt,asIntOf,run_underlying hu,Z5 h1,h2,h3,Instr.sureAddr]
  ·exact hk.elim
 case h_12 t x i=>
  obtain⟨vx,hx,hk⟩:=Wo hk;obtain⟨vi,hi,hk⟩:=Wo hk;simp only[execOp,hf _ _ hx,hf _ _ hi];apply lift;split at hk
  ·have hu:=(by assumption:P.underlying t=some _);obtain⟨b,h1,h2,hK⟩:=hk;refine⟨_,?_,hK⟩;simp[Instr.index,asIntOf,run_underlying hu,h1,h2]
  ·exact hk.elim
 case h_13 t x i ok=>
  obtain⟨vx,hx,hk⟩:=Wo hk;obtain⟨vi,hi,hk⟩:=Wo hk;simp only[execOp,hf _ _ hx,hf _ _ hi];exact lift (WfP hk)
 case h_14 t i=>
  obtain⟨vx,hx,hk⟩:=Wo hk;simp only[execOp,hf _ _ hx];apply lift;split at hk
  ·obtain⟨v,hv,hK⟩:=Wo hk;have hv':=hv;rw[zEO]at hv';exact⟨v,by simp[Instr.extract,hv'],hK⟩
  ·exact hk.elim
 case h_15 fn x y=>
  split at hk
  ·rename_i va vb h1 h2;have e1:=Zq hf h1;have e2:=Zq hf h2;refine⟨_,?_,hk⟩;have e1':x.map a.eval=va.toArray:=by apply Array.ext';simpa using e1
   have e2':y.map a.eval=vb.toArray:=by apply Array.ext';simpa using e2
   simp[execOp,Instr.makeFunc,e1',e2']
  ·exact hk.elim
 case h_16 t ps=>
  split at hk
  ·rename_i vs h1;have e1:=KR hf h1;have e1':ps.map (λ(i,x)=>(i,a.eval x))=vs.toArray:=by apply Array.ext';simpa using e1
   simp only[execOp];apply lift;rw[e1'];exact Weq (by simpa using hk)
  ·exact hk.elim
 case h_17 t x lo hi mx=>
  obtain⟨vx,hx,hk⟩:=Wo hk;simp only[execOp,hf _ _ hx];apply lift;split at hk
  ·rename_i l h m h1 h2 h3;rw[H6 hf h1,H6 hf h2,H6 hf h3];exact Wea hk
  ·exact hk.elim
 case h_18 t x=>
  obtain⟨vx,hx,hk⟩:=Wo hk;rw[WC]at hk;simp only[execOp,hf _ _ hx];exact⟨_,by simp[run_makeInterface w t vx hk.1],hk.2⟩
 case h_19 x xt t=>
  obtain⟨vx,hx,hk⟩:=Wo hk;simp only[execOp,hf _ _ hx];apply lift;split at hk
  case h_2=>exact hk.elim
  rename_i fs ti cs hu hi hs;split at hk
  case h_2=>exact hk.elim
  rename_i zs hz;obtain⟨vs,b,hv,hK⟩:=hk.out;exact⟨_,WiX hu hi (by simpa using hz) hv w,hK⟩
 case h_20 c=>
  obtain⟨callee,args,ats⟩:=c;simp only at hk;split at hk
  ·rename_i x t ha ht;have ha':=Zq hf ha;have e1:args.map a.eval = #[x]:=by apply Array.ext';simpa using ha'
   have e2:ats = #[t]:=by apply Array.ext';simpa using ht
   subst e2;obtain⟨v,hv,hK⟩:=Weu (ty:=ty) hk;refine⟨v,?_,hK⟩;simp[execOp,resolve,e1,invoke,builtin,hv]
  ·rename_i ad l n t ha ht;have ha':=Zq hf ha;have e1:args.map a.eval = #[.slice ad l n]:=by apply Array.ext';simpa using ha'
   have e2:ats = #[t]:=by apply Array.ext';simpa using ht
   subst e2;split at hk
   ·rename_i hu;refine⟨_,?_,hk⟩;simp[execOp,resolve,e1,invoke,builtin,Builtin.cap_,run_underlying hu,goInt]
   ·exact hk.elim
  ·rename_i x xs ha;have ha':=Zq hf ha;have e1:args.map a.eval=(x::xs).toArray:=by apply Array.ext';simpa using ha'
   obtain⟨v,hv,hK⟩:=HG (P:=P) (w:=w) hk;refine⟨v,?_,hK⟩;simp only[zP]at hv;simp[execOp,resolve,e1,invoke,builtin,Builtin.max_,hv]
  ·rename_i x xs ha;have ha':=Zq hf ha;have e1:args.map a.eval=(x::xs).toArray:=by apply Array.ext';simpa using ha'
   obtain⟨v,hv,hK⟩:=HG (P:=P) (w:=w) hk;refine⟨v,?_,hK⟩;simp only[zZ,zq]at hv;simp[execOp,resolve,e1,invoke,builtin,Builtin.min_,hv]
  ·exact hk.elim
 ·exact hk.elim
def rsOf (P:Program):List TypeId->Option (List SK)
 | []=>some []
 | t::ts=>match skOf P t,rsOf P ts with|some s,some ss=>some (s::ss)|_,_=>none
def VZ (P:Program)(f:Nat):Bool:=
 match P.funcs[f]? with
 | some fn=>!(fn.name == "runtime.NumGoroutine") && fn.body.isSome
 | none=>false
def ExtB (P:Program)(f:Nat)(args:List Value)(h:Hp)(K:Bool->Hp->Prop):Prop:=
 ∀w:World,w.heap=h->∃b w',(callFunc f args.toArray).run P w=.ok (.value (.bool b)) w'/\Zc w w'/\K b w'.heap
def Wkp (P:Program)(f:Nat)(args:List Value)(h:Hp)(K:Value->Hp->Prop):Prop:=
 match P.funcs[f]? with
 | some fn=>match rsOf P fn.resultTypes.toList with
  | some rs=>match VZ P f with
   | true=>Wi P f args.toArray rs h (lam (ksOf rs) λvs h'=>K (pack rs vs) h')
   | false=>match rs with
    | [.one .b]=>ExtB P f args h λb h'=>K (.bool b) h'
    | _=>False
  | none=>False
 | none=>False
def ivK (P:Program)(v:Value)(name:String)(args:List Value)(ty:TypeId)(h:Hp)(K:Value->Hp->Prop):Prop:=
 match (match P.underlying ty with|some (.tuple ts)=>rsOf P ts.toList|_=>rsOf P [ty])with
 | some rs=>InvK P v name args rs h (lam (ksOf rs) λvs h'=>K (pack rs vs) h')
 | none=>False
def FvOk (P:Program)(fv:Fv):Prop:=VZ P fv.f=true
def VC (P:Program)(fv:Fv)(args:List Value)(rs:List SK)(h:Hp)(R:Fam (ksOf rs)):Prop:=
 FvOk P fv/\WkQ P fv args rs h R
def WfF (P:Program)(fv:Fv)(args:List Value)(ty:TypeId)(h:Hp)(K:Value->Hp->Prop):Prop:=
 match (match P.underlying ty with|some (.tuple ts)=>rsOf P ts.toList|_=>rsOf P [ty])with
 | some rs=>VC P fv args rs h (lam (ksOf rs) λvs h'=>K (pack rs vs) h')
 | none=>False
def stK (a:Addr)(vs:List Value)(h:Hp)(K:Hp->Prop):Prop:=
 match vs with
 | [v]=>St1 a v h K
 | vs=>StN a h vs 0 K
def Wbj (P:Program)(t:TypeId)(K:IntKind->CK->Prop):Prop:=
 match P.underlying t with
 | some (.map kt et)=>match P.underlying kt,ekOf P et with
  | some (.int k),some (.one c)=>K k c
  | _,_=>False
 | _=>False
def bsK (P:Program)(t:TypeId)(len:Nat)(ps:List (Nat×Value))(K:TypeId->List Value->Prop):Prop:=
 match P.underlying t with
 | some (.slice e)=>match P.info? e with
  | some te=>match te.zero with
   | some z=>match len,ps with
    | 0,[]=>K e []
    | 0,_::_=>False
    | len+1,ps=>chk (Nat.ble ((len+1)*te.size) 16777216&&Nat.blt 0 ((len+1)*te.size)&&z.cells.size==te.size)
     (match Wbh (λi=>some (i*te.size,te.size)) (List.replicate (len+1) z.cells.toList).flatten ps with
     | some cs=>K e cs
     | none=>False)
   | none=>False
  | none=>False
 | _=>False
def eK (P:Program)(o:Op)(ty:TypeId)(ρ:Env)(h:Hp)(K:Value->Hp->Prop):Prop:=
 match o with
 | .store t a x=>wv (ev ρ a) λva=>wv (ev ρ x) λvx=>match va with
  | .pointer (some a)=>bif WbR P t then chk ((P.info? t).isSome&&P.cellsOf t==1) (IsIf vx/\St1 a vx h λh'=>K undef h')
   else chk ((P.info? t).isSome&&vx.cells.size==P.cellsOf t) (O1L vx.cells.toList (stK a vx.cells.toList h λh'=>K undef h'))
  | _=>False
 | .alloc e=>match P.info? e with
  | some te=>match te.zero with
   | some z=>Nw (.cells z.cells e (0,0)) h λa h'=>K (.pointer (some a)) h'
   | none=>False
  | none=>False
 | .box e x=>wv (ev ρ x) λv=>bif WbR P e then IsIf v/\Nw (.cells #[v] e (0,0)) h λa h'=>K (.pointer (some a)) h' else Nw (.cells v.cells e (0,0)) h λa h'=>K (.pointer (some a)) h'
 | .buildSlice t len ps=>match UD ρ ps.toList with
  | some vs=>bsK P t len vs λe cs=>Nw (.cells cs.toArray e (0,0)) h λa h'=>K (.slice (some a) len len) h'
  | none=>False
 | .makeMap t r=>match r with
  | none=>Nw (.map #[] 0) h λa h'=>K (.map (some a.block)) h'
  | some _=>False
 | .makeSlice t l c=>wv (ev ρ l) λvl=>wv (ev ρ c) λvc=>match P.underlying t,vl,vc with
  | some (.slice e),.int .i64 n,.int .i64 m=>match P.info? e with
   | some te=>match te.zero with
    | some z=>chk (z.cells.size==te.size&&Nat.blt 0 te.size) (Mk n m te.bytes e z.cells.toList h λs h'=>K (.slice s.a s.len s.cap) h')
    | none=>False
   | none=>False
  | _,_,_=>False
 | .range t x=>wv (ev ρ x) λv=>Wbj P t λki c=>match v with
  | .map m=>Rng ki c m h λa h'=>K (.pointer (some a)) h'
  | _=>False
 | .mapUpdate t m k x=>wv (ev ρ m) λvm=>wv (ev ρ k) λvk=>wv (ev ρ x) λvx=>Wbj P t λki c=>match vm,vk with
  | .map m,.int k' n=>if ki=k' then unv c vx λx=>MSet ki c m n x h λh'=>K undef h' else False
  | _,_=>False
 | .call c=>match c.callee,evs ρ c.args.toList,c.argTypes.toList with
  | .value (.func f),some args,_=>Wkp P f args h K
  | .value g,some args,_=>wv (ev ρ g) λvg=>unv .fn vg λfv=>WfF P fv args ty h K
  | .invoke r name,some args,_=>wv (ev ρ r) λvr=>ivK P vr name args ty h K
  | .builtin .append,some [.slice sa sn sc,.slice xa xn xc],[t,t']=>match P.underlying t with
   | some (.slice e)=>match P.info? e with
    | some te=>match te.zero with
     | some z=>chk (Nat.beq t t'&&z.cells.size==te.size&&Nat.blt 0 te.size) (App ⟨sa,sn,sc⟩ te.size te.bytes e z.cells.toList ⟨xa,xn,xc⟩ h λs h'=>K (.slice s.a s.len s.cap) h')
     | none=>False
    | none=>False
   | _=>False
  | .builtin .delete,some [.map m,.int k' n],t::_=>Wbj P t λki c=>if ki=k' then MDel ki c m n h λh'=>K (.tuple #[]) h' else False
  | .builtin .append,some [.slice sa sn sc,.int .i64 n],[t,t']=>match P.underlying t,P.underlying t' with
   | some (.slice e),some (.int _)=>match P.info? e with
    | some te=>match te.zero with
     | some z=>chk (z.cells.size==te.size&&Nat.blt 0 te.size) (AppZ ⟨sa,sn,sc⟩ te.size te.bytes e z.cells.toList n h λs h'=>K (.slice s.a s.len s.cap) h')
     | none=>False
    | none=>False
   | _,_=>False
  | .builtin .copy,some [.slice da dn dc,.slice xa xn xc],t::_=>match P.underlying t with
   | some (.slice e)=>match P.info? e with
    | some te=>Cpy ⟨da,dn,dc⟩ te.size ⟨xa,xn,xc⟩ h λz h'=>K (.int .i64 z) h'
    | none=>False
   | _=>False
  | .builtin .clear,some [.slice sa sn sc],[t]=>match P.underlying t with
   | some (.slice e)=>match P.info? e with
    | some te=>match te.zero with
     | some z=>chk (z.cells.size==te.size&&Nat.blt 0 te.size) (Clr ⟨sa,sn,sc⟩ z.cells.toList h λh'=>K (.tuple #[]) h')
     | none=>False
    | none=>False
   | _=>False
  | _,_,_=>False
 | _=>False
def opK (P:Program)(o:Op)(ty:TypeId)(ρ:Env)(h:Hp)(K:Value->Hp->Prop):Prop:=
 bif isQ o then qK P o ρ h (λv=>K v h)else eK P o ty ρ h K
theorem Wfw:∀{vs:List Value} {A:Prop},O1L vs A->A/\∀v∈vs,one1 v=true
 | [],A,h=>⟨h,by simp⟩
 | v::vs,A,h=>by
  have h1:one1 v=true/\O1L vs A:=by cases v<;>first|exact h.elim|exact⟨rfl,h⟩
  obtain⟨hA,hr⟩:=Wfw h1.2;exact⟨hA,λu hu=>by
   rcases zX.1 hu with rfl|hu
   ·exact h1.1
   ·exact hr u hu⟩
theorem Zc.refl (w:World):Zc w w:=⟨rfl,rfl,rfl,zD _⟩
theorem Zc.trans {a b c:World}(h:Zc a b)(k:Zc b c):Zc a c:=⟨k.1.trans h.1,k.2.1.trans h.2.1,k.2.2.1.trans h.2.2.1,ze h.2.2.2 k.2.2.2⟩
theorem Ka (h:Hp)(a:Addr)(v:Value):(setc h a v).size=h.size:=by simp[setc]
theorem Wft {P:Program}{w:World}{a:Addr}{v:Value}(ho:one1 v=true)(h1:(cell w.heap a).isSome=true)(h2:frz w.heap a=false):(store a v).run P w=.ok () (w.setCell a v):=by
 obtain⟨u,hu⟩:=zBP.1 h1;have hc:w.cell? a=some u:=hu;have hf:w.frozen? a=false:=h2;cases v<;>simp[one1]at ho<;>simp[store,Sem.run,hc,hf]
theorem Un {P:Program}:∀{vs:List Value} {w:World} {a:Addr} {i:Nat} {K:Hp->Prop},(∀v∈vs,one1 v=true)->StN a w.heap vs i K →
 ∃w',(storeCells a vs i).run P w=.ok () w'/\Zc w w'/\K w'.heap
 | [],w,a,i,K,_,h=>⟨w,by simp[storeCells],.refl _,h⟩
 | v::vs,w,a,i,K,ho,h=>by
  obtain⟨h1,h2,h3⟩:=h;have hs:=Wft (P:=P) (ho v (by simp)) h1 h2;obtain⟨w',hr,io,hK⟩:=Un (P:=P) (w:=w.setCell (a.add i) v) (λu hu=>ho u (by simp[hu])) h3;refine⟨w',?_,Zc.trans (b:=w.setCell (a.add i) v) ⟨rfl,rfl,rfl,Nat.le_of_eq (Ka w.heap (a.add i) v).symm⟩ io,hK⟩;simp only[storeCells,Sem.run_bind,hs,Result.andThen_ok,hr]
theorem WjG {P:Program}{vs:List Value}{w:World}{a:Addr}{K:Hp->Prop}(ho:∀v∈vs,one1 v=true)(h:stK a vs w.heap K) :
 ∃w',(storeCells a vs).run P w=.ok () w'/\Zc w w'/\K w'.heap:=by
 refine Un ho ?_;unfold stK at h;split at h
 ·simpa[StN,Addr.add_zero']using h
 ·exact h
def Q5 (P:Program)(s:Sem Next)(w:World)(K:Value->Hp->Prop):Prop:=
 (∃v w',s.run P w=.ok (.value v) w'/\Zc w w'/\K v w'.heap) ∨
 (∃w',s.run P w=.ok .skip w'/\Zc w w'/\K undef w'.heap) ∨
 (∃f args rs R,s.run P w=.ok (.enter f args) w/\Wi P f args rs w.heap R/\∀vs h',Sat (ksOf rs) R vs h'->K (pack rs vs) h')
theorem Q5.upon {P:Program}{o:Oper}{a:Act}{w:World}{K:Value->Hp->Prop}{next:Act->World->Prop}{Q:Exit->Act->World->Prop}
 (h:Q5 P (execOp a.eval o) w K) (hn:∀v w',Zc w w'->K v w'.heap->next (a.put o.dst v) w'):o.wp P a w next Q:=by
 unfold Oper.wp;rcases h with⟨v,w',hr,io,hK⟩|⟨w',hr,io,hK⟩|⟨f,args,rs,R,hr,hc,hK⟩
 ·rw[hr];exact hn _ _ io hK
 ·rw[hr];exact hn _ _ io hK
 ·rw[hr];refine(hc w rfl).mono λe w' ⟨io,vs,he,hs⟩=>?_;subst he;exact hn _ _ io (hK _ _ hs)
theorem UM {P:Program}{f:Nat}(h:VZ P f=true)(args:Array Value)(w:World):(callFunc f args).run P w=.ok (.enter f args) w:=by
 unfold VZ at h;split at h
 ·rename_i fn hf;simp only[zF,zAO,zAR]at h;obtain⟨h1,h2⟩:=h;obtain⟨c,hc⟩:=zBP.1 h2;simp[callFunc,hf,h1,hc]
 ·cases h
theorem WbE {P:Program}{f:Nat}{args:List Value}{w:World}{K:Value->Hp->Prop}(h:Wkp P f args w.heap K):Q5 P (callFunc f args.toArray) w K:=by
 unfold Wkp at h;split at h
 ·split at h
  ·rename_i rs hrs;split at h
   ·rename_i hc;exact .inr (.inr ⟨f,_,rs,_,UM hc _ _,h,λvs h' hs=>VH hs⟩)
   ·split at h
    ·obtain⟨b,w',hr,io,hK⟩:=h w rfl;exact .inl ⟨_,w',hr,io,hK⟩
    ·exact h.elim
  ·exact h.elim
 ·exact h.elim
theorem WaH {P:Program}{fv:Fv}{args:List Value}{ty:Nat}{w:World}{K:Value->Hp->Prop}(h:WfF P fv args ty w.heap K) :
 Q5 P (callFunc fv.f (fv.first++args.toArray++fv.captured)) w K:=by
 unfold WfF at h;split at h
 ·rename_i rs _;exact .inr (.inr ⟨_,_,rs,_,UM h.1 _ _,h.2,λvs h' hs=>VH hs⟩)
 ·exact h.elim
theorem Wee {P:Program}{v:Value}{name:String}{args:List Value}{ty:Nat}{w:World}{K:Value->Hp->Prop}(h:ivK P v name args ty w.heap K) :
 Q5 P (callMethod v name args.toArray) w K:=by
 unfold ivK at h;split at h
 ·rename_i rs _;obtain⟨t,u,f,rfl,hm,hc,h⟩:=h;refine .inr (.inr ⟨f,_,rs,_,?_,h,λvs h' hs=>VH hs⟩);simp only[callMethod,Sem.run_bind,run_program,Result.andThen_ok,hm,hc];simp
 ·exact h.elim
theorem HU {P:Program}{t:Nat}{K:IntKind->CK->Prop}(h:Wbj P t K):∃kt et k c,P.underlying t=some (.map kt et)/\P.underlying kt=some (.int k)/\K k c:=by
 unfold Wbj at h;split at h
 ·split at h
  ·exact⟨_,_,_,_,by assumption,by assumption,h⟩
  ·exact h.elim
 ·exact h.elim
theorem Vi (w:World)(o:Obj):Zc w {w with heap:=w.heap.push o}:=⟨rfl,rfl,rfl,by simp⟩
theorem V2 (h:Hp)(r:Nat)(o:Obj):ZY h (h.setIfInBounds r o) r:=⟨by simp,λb hb=>by rw[zEP (Ne.symm hb)]⟩
theorem GU {es:List MapEntry}{k:IntKind}{c:CK}:∀(l:List (Int×c.T)) (es:List MapEntry) (j:Nat) (n:Int) (x:c.T),
 es.map (λe=>(e.key,e.val))=l.map (λx=>(Value.int k x.1,c.v x.2))->(l.map (·.1)).Nodup->l.findIdx? (λx=>x.1==n)=some j →
 (es.modify j λe=>{e with key:=.int k n,val:=c.v x}).map (λe=>(e.key,e.val))=(l.map λy=>if y.1==n then(n,x)else y).map (λx=>(Value.int k x.1,c.v x.2))
 | [],es,j,n,x,he,hn,hj=>by simp at hj
 | y::l,[],j,n,x,he,hn,hj=>by simp at he
 | y::l,e::es,j,n,x,he,hn,hj=>by
  simp only[zI,List.cons.injEq]at he;simp only[zI,zm]at hn;simp only[zDW]at hj;cases hy:y.1==n
  ·rw[hy]at hj;simp only[zZ,zq,zBW]at hj;obtain⟨j',hj',rfl⟩:=hj;have:=GU (es:=es) l es j' n x he.2 hn.2 hj';simp only[List.modify_succ_cons,zI,this,hy,he.1];simp
  ·rw[hy]at hj;simp at hj;subst hj;have hyn:y.1=n:=by simpa using hy
   simp only[List.modify_zero_cons,zI,hy,zP,List.cons.injEq,zCZ,he.2]
   congr 1
   have:∀z∈l,(z.1==n)=false:=by
    intro z hz;have:z.1≠y.1:=λe=>hn.1 (by rw[←e];exact zEQ hz);simpa[hyn]using this
   have e:l=l.map λz=>if z.1==n then(n,x)else z:=by
    conv=>lhs;rw[←zDX l]
    apply zy;intro z hz;simp[this z hz]
   exact e
theorem WcT {α:Type}{l:List (Int×α)}{n:Int}{j:Nat}(h:l.findIdx? (λx=>x.1==n)=some j):l.any (λx=>x.1==n)=true:=by
 obtain⟨x,hx,rfl⟩:=Vl h;rw[zl];exact⟨x,zE hx,by simp⟩
theorem US {α:Type}{l:List (Int×α)}{n:Int}(h:l.findIdx? (λx=>x.1==n)=none):l.any (λx=>x.1==n)=false:=by
 rw[zCP]at h;rw[zAP];simpa using h
theorem mset_keys {α:Type}{l:List (Int×α)}{n:Int}{x:α}(hn:(l.map (·.1)).Nodup):((mset l n x).map (·.1)).Nodup:=by
 unfold mset;split
 ·have:(l.map λy=>if y.1==n then(n,x)else y).map (·.1)=l.map (·.1):=by
   rw[zAJ];apply zy;intro y _;simp only[Function.comp];split
   ·rename_i h;simp at h;exact h.symm
   ·rfl
  rwa [this]
 ·rename_i h;rw[zAD,zAY];refine⟨hn,by simp,?_⟩;intro a ha b hb;simp at hb;subst hb;rintro rfl;obtain⟨y,hy,rfl⟩:=zC.1 ha;exact h (zl.2 ⟨y,hy,by simp⟩)
theorem Wg6 {P:Program}{t kt et:Nat}{k:IntKind}{c:CK}(hu:P.underlying t=some (.map kt et))(hk:P.underlying kt=some (.int k)){r:Nat}{l:List (Int×c.T)}{n:Int}{x:c.T}{w:World}
 (hm:MapL w.heap r k c l):∃w',(Instr.mapUpdate t (.map (some r)) (.int k n) (c.v x)).run P w=.ok () w'/\Zc w w'/\ZY w.heap w'.heap r/\MapL w'.heap r k c (mset l n x):=by
 obtain⟨es,clk,hr,he,hn,hp,hb⟩:=hm;have hlt:r<w.heap.size:=(zAK.1 hr).1;have hset:∀o,(w.heap.setIfInBounds r o)[r]?=some o:=λo=>by simp[hlt]
 cases hf:l.findIdx? (λx=>x.1==n)with
 | some j=>
  obtain⟨y,hy,hyn⟩:=Vl hf;have hjl:j<l.length:=(gSi.1 hy).1;have hlen:es.toList.length=l.length:=by simpa using congrArg List.length he
  have hje:j<es.size:=by simp at hlen;omega
  have hkey:es[j].key=.int k n:=by
   have:=congrArg (λl=>l[j]?) he;simp only[za,hy,zb]at this;rw[zEO,Array.getElem?_eq_getElem hje]at this;simp at this;rw[this.1,hyn]
  refine⟨{w with heap:=w.heap.setIfInBounds r (.map (es.modify j λe=>{e with key:=.int k n,val:=c.v x}) clk)},?_,⟨rfl,rfl,rfl,by simp⟩,V2 _ _ _,?_⟩
  ·simp only[Instr.mapUpdate,Sem.run_bind,run_underlying hu,Result.andThen_ok,ZV hk,getObj,Sem.run,hr,Qy hk he,hf];simp[Array.getElem?_eq_getElem hje,hkey,Instr.keyThatStays,Instr.sameBits,setObj,Sem.run,hr]
  ·refine⟨_,clk,hset _,?_,mset_keys hn,?_,?_⟩
   ·rw[zFP,GU (es:=[]) l es.toList j n x he hn hf];simp[mset,WcT hf]
   ·have:(es.modify j λe=>{e with key:=.int k n,val:=c.v x}).toList.map (·.born)=es.toList.map (·.born):=by
     rw[zFP];apply zn;intro m;simp only[za,zCQ];cases es.toList[m]?<;>simp
     split<;>rfl
    rw[this];exact hp
   ·intro e he';have:e.born∈(es.modify j λe=>{e with key:=.int k n,val:=c.v x}).toList.map (·.born):=zEQ he';have e2:(es.modify j λe=>{e with key:=.int k n,val:=c.v x}).toList.map (·.born)=es.toList.map (·.born):=by
     rw[zFP];apply zn;intro m;simp only[za,zCQ];cases es.toList[m]?<;>simp
     split<;>rfl
    rw[e2]at this;obtain⟨e',h1,h2⟩:=zC.1 this;rw[←h2];exact hb e' h1
 | none=>
  refine⟨{w with heap:=w.heap.setIfInBounds r (.map (es.push {key:=.int k n,val:=c.v x,born:=clk}) (clk+1))},?_,⟨rfl,rfl,rfl,by simp⟩,V2 _ _ _,?_⟩
  ·simp only[Instr.mapUpdate,Sem.run_bind,run_underlying hu,Result.andThen_ok,ZV hk,getObj,Sem.run,hr,Qy hk he,hf];simp[setObj,Sem.run,hr]
  ·refine⟨_,clk+1,hset _,?_,mset_keys hn,?_,?_⟩
   ·simp[mset,US hf,he]
   ·simp only[Array.toList_push,zAD,zI,zBX,zBR];refine⟨hp,by simp,?_⟩;intro a ha b hb';simp at hb';subst hb';obtain⟨e,he1,rfl⟩:=zC.1 ha;exact hb e he1
   ·intro e he';simp only[Array.toList_push,zM,zR]at he';rcases he' with h|rfl
    ·have:=hb e h;omega
    ·simp
theorem Wc2 {k:IntKind}{c:CK}:∀(l:List (Int×c.T)) (es:List MapEntry) (j:Nat) (n:Int),
 es.map (λe=>(e.key,e.val))=l.map (λx=>(Value.int k x.1,c.v x.2))->(l.map (·.1)).Nodup->l.findIdx? (λx=>x.1==n)=some j →
 (es.eraseIdx j).map (λe=>(e.key,e.val))=(mdel l n).map (λx=>(Value.int k x.1,c.v x.2))
 | [],es,j,n,he,hn,hj=>by simp at hj
 | y::l,[],j,n,he,hn,hj=>by simp at he
 | y::l,e::es,j,n,he,hn,hj=>by
  simp only[zI,List.cons.injEq]at he;simp only[zI,zm]at hn;simp only[zDW]at hj;cases hy:y.1==n
  ·rw[hy]at hj;simp only[zZ,zq,zBW]at hj;obtain⟨j',hj',rfl⟩:=hj;have:=Wc2 l es j' n he.2 hn.2 hj';simp only[List.eraseIdx_cons_succ,zI,this,mdel,zCR,hy,he.1];simp
  ·rw[hy]at hj;simp at hj;subst hj;have hyn:y.1=n:=by simpa using hy
   simp only[List.eraseIdx_zero,List.tail_cons,mdel,zCR,hy,Bool.not_true,zZ,zq,he.2]
   congr 1
   symm
   rw[zBE];intro z hz;have:z.1≠y.1:=λe=>hn.1 (by rw[←e];exact zEQ hz);simpa[hyn]using this
theorem H4 {α:Type}{l:List (Int×α)}{n:Int}(h:l.findIdx? (λx=>x.1==n)=none):mdel l n=l:=by
 rw[zCP]at h;unfold mdel;rw[zBE];intro z hz;have:=h z hz;simpa using this
theorem mdel_keys {α:Type}{l:List (Int×α)}{n:Int}(hn:(l.map (·.1)).Nodup):((mdel l n).map (·.1)).Nodup:=
 hn.sublist (List.Sublist.map _ zCS)
theorem Wh3 {P:Program}{t kt et ty:Nat}{k:IntKind}{c:CK}(hu:P.underlying t=some (.map kt et))(hk:P.underlying kt=some (.int k)){m:Option Nat}{l:List (Int×c.T)}{n:Int}{w:World}{ats:List Nat}
 (hm:MapO w.heap m k c l):∃w',(Builtin.delete_ (t::ats).toArray ty #[.map m,.int k n]).run P w=.ok (.tuple #[]) w'/\Zc w w'/\(∀r,m=some r->ZY w.heap w'.heap r)/\(m=none->w'.heap=w.heap)/\MapO w'.heap m k c (mdel l n):=by
 cases m with
 | none=>
  simp only[MapO]at hm;subst hm;exact⟨w,by simp[Builtin.delete_,run_underlying hu,ZV hk],.refl _,λr h=>(by cases h),λ_=>rfl,rfl⟩
 | some r=>
  obtain⟨es,clk,hr,he,hn,hp,hb⟩:=hm;have hlt:r<w.heap.size:=(zAK.1 hr).1;have hset:∀o,(w.heap.setIfInBounds r o)[r]?=some o:=λo=>by simp[hlt]
  cases hf:l.findIdx? (λx=>x.1==n)with
  | some j=>
   refine⟨{w with heap:=w.heap.setIfInBounds r (.map (es.eraseIdxIfInBounds j) clk)},?_,⟨rfl,rfl,rfl,by simp⟩,λr' h=>(by cases h;exact V2 _ _ _),(λh=>by cases h),?_⟩
   ·simp[Builtin.delete_,run_underlying hu,ZV hk,getObj,Sem.run,hr,Qy hk he,hf,setObj]
   ·refine⟨_,clk,hset _,?_,mdel_keys hn,?_,?_⟩
    ·rw[zFQ];exact Wc2 l es.toList j n he hn hf
    ·rw[zFQ];exact hp.sublist (List.Sublist.map _ (List.eraseIdx_sublist _ _))
    ·rw[zFQ];intro e he';exact hb e ((List.eraseIdx_sublist _ _).mem he')
  | none=>
   refine⟨{w with heap:=w.heap.setIfInBounds r (.map es clk)},?_,⟨rfl,rfl,rfl,by simp⟩,λr' h=>(by cases h;exact V2 _ _ _),(λh=>by cases h),?_⟩
   ·simp[Builtin.delete_,run_underlying hu,ZV hk,getObj,Sem.run,hr,Qy hk he,hf,setObj]
   ·rw[H4 hf];exact⟨es,clk,hset _,he,hn,hp,hb⟩
theorem GI {P:Program}{w:World}{sz n:Nat}{s:Sl}{xs:List Value}(hl:xs.length=s.len*sz)(h:Rd w.heap s.a xs)(hn:n=s.len) :
 (Builtin.firstCells sz n (.slice s.a s.len s.cap)).run P w=.ok xs.toArray w:=by
 subst hn;obtain⟨a,len,cap⟩:=s;cases a with
 | none=>simp only[Rd]at h;subst h;simp[Builtin.firstCells]
 | some a=>
  simp only at hl h;simp only[Builtin.firstCells];rw[←hl];have:=run_loadCells_list (P:=P) (w:=w) a xs (λj v hv=>h j v hv);exact this
theorem Km {z:Array Value}(hz:0<z.size):∀n,Builtin.zeroCells z n=(List.replicate n z.toList).flatten.toArray:=by
 intro n;apply Array.ext';simp only[Builtin.zeroCells,Array.toList_map,Array.toList_range]
 induction n with
 | zero=>simp
 | succ n ih=>
  rw[zFR,zFS];simp only[zDC,List.flatten_nil,zAL];rw[←ih];rw[Nat.succ_mul,List.range_add,zAD,zAJ]
  congr 1
  apply List.ext_getElem
  ·simp
  ·intro i h1 h2;simp at h1 h2;simp[zDD h1,h1]
theorem G6 (n c:Nat)(h:¬n<=c):Builtin.nextslicecap n c<=2*n:=by
 unfold Builtin.nextslicecap;split
 ·omega
 ·split
  ·omega
  ·have key:∀r c,c<=2*n->(Builtin.growBy n r c)<=2*n:=by
    intro r
    induction r with
    | zero=>intro c hc;simpa[Builtin.growBy]using hc
    | succ r ih=>
     intro c hc;simp only[Builtin.growBy];split
     ·exact hc
     ·exact ih _ (by omega)
   exact key _ _ (by omega)
theorem Wj1 {P:Program}{t e ty:Nat}{te:TypeInfo}{z:Value}{s x:Sl}{K:Sl->Hp->Prop}{w:World}(hu:P.underlying t=some (.slice e))(hi:P.info? e=some te)(hz:te.zero=some z)(hzs:z.cells.size=te.size)(hpos:0<te.size)
 (h:App s te.size te.bytes e z.cells.toList x w.heap K) :
 ∃r w',(Builtin.append_ #[t,t] ty #[.slice s.a s.len s.cap,.slice x.a x.len x.cap]).run P w=.ok (.slice (Sl.a r) r.len r.cap) w'/\Zc w w'/\K r w'.heap:=by
 obtain⟨xs,ys,h1,h2,h3,h4,hoy,h5,h6,hin,hout⟩:=h;have hxs:=GI (P:=P) (n:=s.len) h1 h3 rfl;have hysr:=GI (P:=P) (n:=x.len) h2 h4 rfl;by_cases hroom:s.len+x.len<=s.cap
 ·have hin:=hin hroom;cases hsa:s.a with
  | some a=>
   rw[hsa]at hin;obtain⟨w',hr,io,hK⟩:=Un (P:=P) hoy hin;rw[hsa]at hxs;refine⟨⟨some a,s.len+x.len,s.cap⟩,w',?_,io,hK⟩;simp[Builtin.append_,run_underlying hu,sizeOf,typeInfo,hi,Builtin.lenOf,hroom,hysr,hr]
  | none=>
   rw[hsa]at hin;rw[hsa]at hxs;refine⟨⟨none,s.len+x.len,s.cap⟩,w,?_,.refl _,hin⟩;simp[Builtin.append_,run_underlying hu,sizeOf,typeInfo,hi,Builtin.lenOf,hroom,hysr]
 ·have hout:=hout hroom;have hcapb:¬(2^48<Builtin.nextslicecap (s.len+x.len) s.cap*te.bytes):=by
   have:=G6 (s.len+x.len) s.cap hroom;have:Builtin.nextslicecap (s.len+x.len) s.cap*te.bytes<=2*(s.len+x.len)*te.bytes:=zAG _ this;rw[zDY]at this;omega
  have hbig:¬(IntKind.i64.max<((s.len+x.len:Nat):Int)):=by
   have:IntKind.i64.max=9223372036854775807:=by decide
   rw[this];omega
  have hbig2:¬(IntKind.i64.max<((s.len:Int)+(x.len:Int))):=by
   have:IntKind.i64.max=9223372036854775807:=by decide
   rw[this];omega
  have hzc:=Km (z:=z.cells) (by omega);have hroom':s.cap<s.len+x.len:=by omega
  have hcapb':¬(281474976710656<Builtin.nextslicecap (s.len+x.len) s.cap*te.bytes):=by simpa using hcapb
  let q:=Question.appendCap (s.len+x.len) s.cap e
  let c:=q.cut (w.tape w.drawn q)
  have hc:s.len+x.len<=c:=by simp only[c,q,Question.cut];omega
  have hK:=hout c hc;refine⟨⟨some ⟨w.heap.size,0,none⟩,s.len+x.len,c⟩,{w with drawn:=w.drawn+1,heap:=w.heap.push (.cells (xs++ys++(List.replicate (c-(s.len+x.len)) z.cells.toList).flatten).toArray e (0,0))},?_,⟨rfl,rfl,rfl,by simp⟩,hK⟩;have hf:(Question.appendCap (s.len+x.len) s.cap e).forced=false:=rfl;have h63:¬(9223372036854775807<(s.len:Int)+(x.len:Int)):=by omega
  have hxs':=GI (P:=P) (w:=w.drew) (n:=s.len) h1 (show Rd w.drew.heap s.a xs from h3) rfl;have hysr':=GI (P:=P) (w:=w.drew) (n:=x.len) h2 (show Rd w.drew.heap x.a ys from h4) rfl;simp[Builtin.append_,run_underlying hu,sizeOf,typeInfo,hi,Builtin.lenOf,hroom,h63,hf,hcapb',hxs',hysr',zeroValue,hz,hzc,newRow];refine⟨rfl,?_⟩;unfold World.alloc World.drew;simp[c,q]
theorem Wix {P:Program}{t t' e ty:Nat}{te:TypeInfo}{z:Value}{s:Sl}{n:Int}{ki:IntKind}{K:Sl->Hp->Prop}{w:World}(hu:P.underlying t=some (.slice e))(hu':P.underlying t'=some (.int ki))(hi:P.info? e=some te)(hz:te.zero=some z)(hzs:z.cells.size=te.size)(hpos:0<te.size)
 (h:AppZ s te.size te.bytes e z.cells.toList n w.heap K) :
 ∃r w',(Builtin.append_ #[t,t'] ty #[.slice s.a s.len s.cap,.int .i64 n]).run P w=.ok (.slice (Sl.a r) r.len r.cap) w'/\Zc w w'/\K r w'.heap:=by
 obtain⟨hn0,xs,h1,h3,hoz,h5,h6,h7,hin,hout⟩:=h;obtain⟨n,rfl⟩:=zi hn0;simp only[iTn]at h5 h6 h7 hin hout;have hxs:=GI (P:=P) (n:=s.len) h1 h3 rfl;have hoy:∀v∈(List.replicate n z.cells.toList).flatten,one1 v=true:=by
  intro v hv;simp only[List.mem_flatten,zER]at hv;obtain⟨l,⟨_,rfl⟩,hv⟩:=hv;exact hoz v hv
 have hwn:IntKind.i64.wrap (n:Int)=n:=by unfold IntKind.wrap;simp[IntKind.bits,IntKind.signed];omega
 have hw0:IntKind.i64.wrap 0=0:=by decide
 have hzc:=Km (z:=z.cells) (by omega);have hl0:¬((n:Int)<0):=by omega
 have hlb:¬((n:Int)*(te.bytes:Int)>2^48):=by
  have:(2:Int)^46<=2^48:=by decide
  omega
 have hlb':¬(281474976710656<(n:Int)*(te.bytes:Int)):=by simpa using hlb
 have hnz:n*te.size=0->(List.replicate n z.cells.toList).flatten=[]:=by
  intro h0;rcases zDE.1 h0 with h|h
  ·subst h;simp
  ·omega
 by_cases hroom:s.len+n<=s.cap
 ·have hin:=hin hroom;cases hsa:s.a with
  | some a=>
   rw[hsa]at hin;obtain⟨w',hr,io,hK⟩:=Un (P:=P) hoy hin;rw[hsa]at hxs;refine⟨⟨some a,s.len+n,s.cap⟩,w',?_,io,hK⟩;by_cases hn:n*te.size=0
   ·have:=hnz hn;rw[this]at hr;rcases zDE.1 hn with hn'|hn'
    ·subst hn';have hroom0:s.len<=s.cap:=by simpa using hroom
     simp[Builtin.append_,run_underlying hu,run_underlying hu',sizeOf,typeInfo,hi,Builtin.lenOf,hroom0,asInt,asIntOf,hw0,hr]
    ·omega
   ·have hne1:¬n=0:=λe=>hn (by rw[e];simp);have hne2:¬te.size=0:=by omega
    simp[Builtin.append_,run_underlying hu,run_underlying hu',sizeOf,typeInfo,hi,Builtin.lenOf,hroom,hr,asInt,asIntOf,hwn,hl0,hlb',hn,hne1,hne2,zeroValue,hz,hzc]
  | none=>
   rw[hsa]at hin;rw[hsa]at hxs;refine⟨⟨none,s.len+n,s.cap⟩,w,?_,.refl _,hin⟩;by_cases hn:n*te.size=0
   ·rcases zDE.1 hn with hn'|hn'
    ·subst hn';have hroom0:s.len<=s.cap:=by simpa using hroom
     simp[Builtin.append_,run_underlying hu,run_underlying hu',sizeOf,typeInfo,hi,Builtin.lenOf,hroom0,asInt,asIntOf,hw0]
    ·omega
   ·have hne1:¬n=0:=λe=>hn (by rw[e];simp);have hne2:¬te.size=0:=by omega
    simp[Builtin.append_,run_underlying hu,run_underlying hu',sizeOf,typeInfo,hi,Builtin.lenOf,hroom,asInt,asIntOf,hwn,hl0,hlb',hn,hne1,hne2,zeroValue,hz,hzc]
 ·have hout:=hout hroom;have hcapb:¬(2^48<Builtin.nextslicecap (s.len+n) s.cap*te.bytes):=by
   have:=G6 (s.len+n) s.cap hroom;have:Builtin.nextslicecap (s.len+n) s.cap*te.bytes<=2*(s.len+n)*te.bytes:=zAG _ this;rw[zDY]at this;omega
  have hcapb':¬(281474976710656<Builtin.nextslicecap (s.len+n) s.cap*te.bytes):=by simpa using hcapb
  let q:=Question.appendCap (s.len+n) s.cap e
  let c:=q.cut (w.tape w.drawn q)
  have hc:s.len+n<=c:=by simp only[c,q,Question.cut];omega
  have hK:=hout c hc;refine⟨⟨some ⟨w.heap.size,0,none⟩,s.len+n,c⟩,{w with drawn:=w.drawn+1,heap:=w.heap.push (.cells (xs++(List.replicate n z.cells.toList).flatten++(List.replicate (c-(s.len+n)) z.cells.toList).flatten).toArray e (0,0))},?_,⟨rfl,rfl,rfl,by simp⟩,hK⟩;have hf:(Question.appendCap (s.len+n) s.cap e).forced=false:=rfl;have h63:¬(9223372036854775807<(s.len:Int)+(n:Int)):=by omega
  have hxs':=GI (P:=P) (w:=w.drew) (n:=s.len) h1 (show Rd w.drew.heap s.a xs from h3) rfl;by_cases hn:n*te.size=0
  ·rcases zDE.1 hn with hn'|hn'
   ·subst hn';have hroom0:¬s.len<=s.cap:=by simpa using hroom
    have hcap0:¬(281474976710656<Builtin.nextslicecap s.len s.cap*te.bytes):=by simpa using hcapb'
    have hf0:(Question.appendCap s.len s.cap e).forced=false:=rfl;have h630:¬(9223372036854775807<(s.len:Int)):=by omega
    simp[Builtin.append_,run_underlying hu,run_underlying hu',sizeOf,typeInfo,hi,Builtin.lenOf,hroom0,h630,hf0,hcap0,hxs',zeroValue,hz,hzc,newRow,asInt,asIntOf,hw0];refine⟨rfl,?_⟩;unfold World.alloc World.drew;simp[c,q]
   ·omega
  ·have hne1:¬n=0:=λe=>hn (by rw[e];simp);have hne2:¬te.size=0:=by omega
   simp[Builtin.append_,run_underlying hu,run_underlying hu',sizeOf,typeInfo,hi,Builtin.lenOf,hroom,h63,hf,hcapb',hxs',zeroValue,hz,hzc,newRow,asInt,asIntOf,hwn,hl0,hlb',hn,hne1,hne2];refine⟨rfl,?_⟩;unfold World.alloc World.drew;simp[c,q]
theorem WjZ {P:Program}{t e ty:Nat}{ats:List TypeId}{te:TypeInfo}{d s:Sl}{K:Int->Hp->Prop}{w:World}(hu:P.underlying t=some (.slice e))(hi:P.info? e=some te)
 (h:Cpy d te.size s w.heap K):∃z w',(Builtin.copy_ (t::ats).toArray ty #[.slice d.a d.len d.cap,.slice s.a s.len s.cap]).run P w=.ok (.int .i64 z) w'/\Zc w w'/\K z w'.heap:=by
 obtain⟨xs,h1,h2,h3,h4⟩:=h;have hfc:(Builtin.firstCells te.size (min s.len d.len) (.slice s.a s.len s.cap)).run P w=.ok xs.toArray w:=by
  obtain⟨a,len,cap⟩:=s;cases a with
  | none=>simp only[Rd]at h2;subst h2;simp[Builtin.firstCells]
  | some a=>
   simp only at h1 h2;simp only[Builtin.firstCells];rw[←h1];exact run_loadCells_list (P:=P) (w:=w) a xs (λj v hv=>h2 j v hv)
 have hmin:Nat.min s.len d.len=min s.len d.len:=rfl;cases hda:d.a with
 | none=>
  rw[hda]at h4;refine⟨_,w,?_,.refl _,h4⟩;simp[Builtin.copy_,run_underlying hu,sizeOf,typeInfo,hi,Builtin.lenOf,hfc,hmin,goInt]
 | some a=>
  rw[hda]at h4;obtain⟨w',hr,io,hK⟩:=Un (P:=P) h3 h4;refine⟨_,w',?_,io,hK⟩;simp[Builtin.copy_,run_underlying hu,sizeOf,typeInfo,hi,Builtin.lenOf,hfc,hmin,hr,goInt]
theorem Wj6 {P:Program}{t e ty:Nat}{te:TypeInfo}{z:Value}{s:Sl}{K:Hp->Prop}{w:World}(hu:P.underlying t=some (.slice e))(hi:P.info? e=some te)(hz:te.zero=some z)(hzs:z.cells.size=te.size)(hpos:0<te.size)
 (h:Clr s z.cells.toList w.heap K):∃w',(Builtin.clear_ #[t] ty #[.slice s.a s.len s.cap]).run P w=.ok (.tuple #[]) w'/\Zc w w'/\K w'.heap:=by
 obtain⟨ho,h⟩:=h;have hzc:=Km (z:=z.cells) (by omega);obtain⟨a,len,cap⟩:=s;cases a with
 | none=>exact⟨w,by simp[Builtin.clear_,run_underlying hu],.refl _,h⟩
 | some a=>
  simp only at h;cases len with
  | zero=>
   simp[StN]at h;exact⟨w,by simp[Builtin.clear_,run_underlying hu],.refl _,h⟩
  | succ n=>
   obtain⟨w',hr,io,hK⟩:=Un (P:=P) (λv hv=>by
    simp only[List.mem_flatten,zER]at hv;obtain⟨l,⟨_,rfl⟩,hv⟩:=hv;exact ho v hv) h
   refine⟨w',?_,io,hK⟩;simp[Builtin.clear_,run_underlying hu,zeroValue,typeInfo,hi,hz,hzc,hr]
theorem Wky {P:Program}{t len:Nat}{ps:List (Nat×Value)}{K:TypeId->List Value->Prop}(h:bsK P t len ps K):∃e te z cs,P.underlying t=some (.slice e)/\P.info? e=some te/\te.zero=some z/\K e cs ∧
 ((len=0/\ps=[]/\cs=[])\/(len*te.size<=16777216/\0<len*te.size/\z.cells.size=te.size/\Wbh (λi=>some (i*te.size,te.size)) (List.replicate len z.cells.toList).flatten ps=some cs)):=by
 unfold bsK at h;split at h
 case h_2=>exact h.elim
 rename_i e hu;split at h
 case h_2=>exact h.elim
 rename_i te hi;split at h
 case h_2=>exact h.elim
 rename_i z hz;split at h
 ·exact⟨e,te,z,[],hu,hi,hz,h,.inl ⟨rfl,rfl,rfl⟩⟩
 ·exact h.elim
 ·rw[WC]at h;obtain⟨hc,h⟩:=h;simp only[zF,zS]at hc;split at h
  case h_2=>exact h.elim
  rename_i cs hf;exact⟨e,te,z,cs,hu,hi,hz,h,.inr ⟨Nat.le_of_ble_eq_true hc.1.1,Nat.blt_eq.mp hc.1.2,hc.2,hf⟩⟩
theorem GM {z:Array Value}(hz:0<z.size)(n:Nat):((Array.range (n*z.size)).map (z[· % z.size]!))=(List.replicate n z.toList).flatten.toArray:=Km hz n
theorem Wg9 {P:Program}{ρ:Env}{K:Value->Hp->Prop}{a:Act}{w:World}(hf:∀x v,ev ρ x=some v->a.eval x=v)(o:Oper)(hk:eK P o.op o.type ρ w.heap K) :
 Q5 P (execOp a.eval o) w K:=by
 obtain⟨dst,op,ty,pos,after,guard⟩:=o;simp only at hk;have liftV:∀{s:Sem Value},(∃v w',s.run P w=.ok v w'/\Zc w w'/\K v w'.heap)->Q5 P (do pure (Next.value (←s)):Sem Next) w K:=by
  rintro s ⟨v,w',hv,io,hK⟩;exact .inl ⟨v,w',by simp[hv],io,hK⟩
 have liftU:∀{s:Sem Unit},(∃w',s.run P w=.ok () w'/\Zc w w'/\K undef w'.heap)->Q5 P (do s;pure Next.skip:Sem Next) w K:=by
  rintro s ⟨w',hv,io,hK⟩;exact .inr (.inl ⟨w',by simp[hv],io,hK⟩)
 unfold eK at hk;split at hk
 case h_1 t x y=>
  obtain⟨va,ha,hk0⟩:=Wo hk;clear hk;obtain⟨vx,hx,hk⟩:=Wo hk0;clear hk0;simp only[execOp,hf _ _ ha,hf _ _ hx];split at hk
  ·rename_i ad;cases hraw:WbR P t
   case true=>
    rw[hraw]at hk;simp only[cond_true]at hk;rw[WC]at hk;obtain⟨hc,hif,s1,s2,hK⟩:=hk;simp only[zF,zS]at hc;obtain⟨h1,h2⟩:=hc;apply liftU;have hone:one1 vx=true:=by rcases hif with rfl|⟨t',u,rfl⟩<;>rfl
    have hcells:vx.cells = #[vx]:=by rcases hif with rfl|⟨t',u,rfl⟩<;>rfl
    have hr:=Wft (P:=P) (w:=w) hone s1 s2;refine⟨w.setCell ad vx,?_,⟨rfl,rfl,rfl,Nat.le_of_eq (Ka w.heap ad vx).symm⟩,hK⟩;have hr':(storeCells ad #[vx].toList).run P w=.ok () (w.setCell ad vx):=by
     simp only[storeCells,Addr.add_zero',Sem.run_bind,hr,Result.andThen_ok];rfl
    simp only[Instr.storeAt,Instr.sureAddr,Sem.run_bind,Sem.run_pure,Result.andThen_ok,storeVar,Z5 h1,h2,hcells,ne_eq,zq];simpa using hr'
   rw[hraw]at hk;simp only[cond_false]at hk;rw[WC]at hk;obtain⟨hc,hk⟩:=hk;simp only[zF,zS]at hc;obtain⟨h1,h2⟩:=hc;obtain⟨hk,h3⟩:=Wfw hk;apply liftU;obtain⟨w',hr,io,hK⟩:=WjG (P:=P) h3 hk;refine⟨w',?_,io,hK⟩;simp only[Instr.storeAt,Instr.sureAddr,Sem.run_bind,Sem.run_pure,Result.andThen_ok,storeVar,Z5 h1,h2,ne_eq,not_true_eq_false,zq];simpa using hr
  ·exact hk.elim
 case h_2 e=>
  split at hk
  case h_2=>exact hk.elim
  rename_i te hi;split at hk
  case h_2=>exact hk.elim
  rename_i z hz;apply liftV;refine⟨_,_,?_,Vi _ _,hk⟩;simp[Instr.alloc,Kn hi hz,newVar,newRow,newObj,Sem.run]
 case h_3 e x=>
  obtain⟨v,hv,hk⟩:=Wo hk;simp only[execOp,hf _ _ hv];apply liftV;cases hraw:WbR P e
  case true=>
   rw[hraw]at hk;simp only[cond_true]at hk;have hcells:v.cells = #[v]:=by rcases hk.1 with rfl|⟨t',u,rfl⟩<;>rfl
   refine⟨_,_,?_,Vi _ _,hk.2⟩;simp[Instr.box,newVar,newRow,newObj,Sem.run,hcells]
  rw[hraw]at hk;refine⟨_,_,?_,Vi _ _,hk⟩;simp[Instr.box,newVar,newRow,newObj,Sem.run]
 case h_4 t len ps=>
  split at hk
  case h_2=>exact hk.elim
  rename_i vs hps;have e1:=KR hf hps;have e1':ps.map (λ(i,x)=>(i,a.eval x))=vs.toArray:=by apply Array.ext';simpa using e1
  obtain⟨e,te,z,cs,hu,hi,hz,hk,hcase⟩:=Wky hk;simp only[execOp,e1'];apply liftV;refine⟨_,_,?_,Vi _ _,hk⟩;rcases hcase with⟨rfl,rfl,rfl⟩|⟨hle,hpos,hzs,hfl⟩
  ·simp only[Instr.buildSlice,Sem.run_bind,run_underlying hu,Result.andThen_ok,sizeOf,KD hi,Sem.run_pure,zDZ];simp[Instr.fill,newRow,newObj,Sem.run,Array.range_zero']
  have hts:0<te.size:=Nat.pos_of_mul_pos_left hpos;have hfill:=Vt _ _ _ _ hfl;have hrz:=GM (z:=z.cells) (by omega) len;rw[hzs]at hrz;have hne:¬(len*te.size=0):=by omega
  have hle':¬(len*te.size>2^24):=by
   have:(2:Nat)^24=16777216:=by decide
   omega
  simp only[Instr.buildSlice,Sem.run_bind,run_underlying hu,Result.andThen_ok,sizeOf,KD hi,Sem.run_pure,hle',zq,hne,Kn hi hz,hrz,hzs,hfill,newRow,newObj,Sem.run]
 case h_5 t r=>
  split at hk
  ·apply liftV;refine⟨_,_,?_,Vi _ _,hk⟩;simp[Instr.makeMap,newObj,Sem.run]
  ·exact hk.elim
 case h_6 t l c=>
  obtain⟨vl,hl,hk⟩:=Wo hk;obtain⟨vc,hc,hk⟩:=Wo hk;simp only[execOp,hf _ _ hl,hf _ _ hc];split at hk
  case h_2=>exact hk.elim
  rename_i e n m hu _;split at hk
  case h_2=>exact hk.elim
  rename_i te hi;split at hk
  case h_2=>exact hk.elim
  rename_i z hz;rw[WC]at hk;obtain⟨hcs,h0,h1,h2,h3,hk⟩:=hk;simp only[zF,zS]at hcs;have hpos:0<te.size:=Nat.blt_eq.mp hcs.2;apply liftV;refine⟨_,_,?_,Vi _ _,hk⟩;have hwn:IntKind.i64.wrap n=n:=by unfold IntKind.wrap;simp[IntKind.bits,IntKind.signed];omega
  have hwm:IntKind.i64.wrap m=m:=by unfold IntKind.wrap;simp[IntKind.bits,IntKind.signed];omega
  have hbig:¬((te.bytes:Int)*m>2^48):=by
   have:(2:Int)^46<=2^48:=by decide
   omega
  have hm0:¬m<0:=by omega
  have hn0:¬n<0:=by omega
  have hnm:¬n>m:=by omega
  have hnm':¬m<n:=by omega
  have hrz:=GM (z:=z.cells) (by omega) m.toNat;have hrz2:Array.map (λx=>z.cells[x%z.cells.size]!) (Array.range (m.toNat*te.size))=(List.replicate m.toNat z.cells.toList).flatten.toArray:=by rw[←hcs.1];exact hrz
  have hbig':¬(281474976710656<(te.bytes:Int)*m):=by simpa using hbig
  by_cases hz0:m.toNat*te.size=0
  ·have hmz:m.toNat=0:=by
    rcases zDE.1 hz0 with h|h
    ·exact h
    ·omega
   simp[Instr.makeSlice,run_underlying hu,KD hi,asInt,asIntOf,hwn,hwm,hbig',hm0,hn0,hnm,hnm',askRoom,mark,sizeOf,hmz,newRow];rw[show Array.range 0 = #[]from rfl];simp
  ·simp[Instr.makeSlice,run_underlying hu,KD hi,asInt,asIntOf,hwn,hwm,hbig',hm0,hn0,hnm,hnm',askRoom,mark,sizeOf,hz0,Kn hi hz,newRow,hrz2];intro _;rfl
 case h_7 t x=>
  obtain⟨v,hv,hk1⟩:=Wo hk;obtain⟨kt,et,ki,c,hu,hku,hk2⟩:=HU hk1;clear hk hk1;simp only[execOp,hf _ _ hv];split at hk2
  case h_2=>exact hk2.elim
  rename_i m;apply liftV;obtain⟨l,hm,hK⟩:=hk2;cases m with
  | none=>
   refine⟨_,{w with heap:=w.heap.push (.mapIter none 0 #[] 0)},?_,Vi _ _,hK _ (by simp) (λb hb=>by simp[zES,zEA hb]) ?_⟩
   ·simp[Instr.range,run_underlying hu,newObj,Sem.run]
   ·simp only[MapO]at hm;exact⟨hm,hm,rfl,0,#[],0,by simp⟩
  | some b=>
   obtain⟨es,clk,hr,he,hn,hp,hb⟩:=hm;have hlt:b<w.heap.size:=(zAK.1 hr).1;refine⟨_,{w with heap:=w.heap.push (.mapIter (some b) clk #[] clk)},?_,Vi _ _,hK _ (by simp) (λb hb=>by simp[zES,zEA hb]) ?_⟩
   ·simp[Instr.range,run_underlying hu,newObj,getObj,Sem.run,hr]
   ·exact⟨es,clk,#[],by simp,by simp[zES,zEA hlt,hr],he,hn,hp,hb,by rw[zBE.2 (λe _=>by simp)];exact he,λx hx=>by cases hx⟩
 case h_8 t m k x=>
  obtain⟨vm,hm,hk1⟩:=Wo hk;obtain⟨vk,hkk,hk2⟩:=Wo hk1;obtain⟨vx,hx,hk3⟩:=Wo hk2;obtain⟨kt,et,ki,c,hu,hku,hk4⟩:=HU hk3;clear hk hk1 hk2 hk3;simp only[execOp,hf _ _ hm,hf _ _ hkk,hf _ _ hx];split at hk4
  ·split at hk4
   ·rename_i e;subst e;obtain⟨x,rfl,r,l,rfl,hl,hK⟩:=Vk hk4;apply liftU;obtain⟨w',hr,io,ho,hl'⟩:=Wg6 (P:=P) hu hku (x:=x) hl;exact⟨w',hr,io,hK _ ho hl'⟩
   ·exact hk4.elim
  ·exact hk4.elim
 case h_9 c=>
  obtain⟨callee,args,ats⟩:=c;simp only at hk;split at hk
  ·rename_i f args' ha;have e1:=Zq hf ha;have e1':args.map a.eval=args'.toArray:=by apply Array.ext';simpa using e1
   have:=WbE hk;simpa[execOp,resolve,e1',Act.eval,Deferred.ofValue,invoke]using this
  ·rename_i g args' _ ha;obtain⟨vg,hg,hk⟩:=Wo hk;obtain⟨fv,rfl,hk⟩:=Vk hk;have e1:=Zq hf ha;have e1':args.map a.eval=args'.toArray:=by apply Array.ext';simpa using e1
   have:=WaH hk;simpa[execOp,resolve,e1',hf _ _ hg,CK.v,Deferred.ofValue,invoke]using this
  ·rename_i r name args' ha;obtain⟨vr,hr,hk⟩:=Wo hk;have e1:=Zq hf ha;have e1':args.map a.eval=args'.toArray:=by apply Array.ext';simpa using e1
   have:=Wee hk;simpa[execOp,resolve,e1',hf _ _ hr,invoke]using this
  ·rename_i sa sn sc xa xn xc t t' ha ht;have e1:=Zq hf ha;have e1':args.map a.eval = #[.slice sa sn sc,.slice xa xn xc]:=by apply Array.ext';simpa using e1
   have e2:ats = #[t,t']:=by apply Array.ext';simpa using ht
   subst e2;split at hk
   case h_2=>exact hk.elim
   rename_i e hu;split at hk
   case h_2=>exact hk.elim
   rename_i te hi;split at hk
   case h_2=>exact hk.elim
   rename_i z hz;rw[WC]at hk;obtain⟨hcs,hk⟩:=hk;simp only[zF,zS]at hcs;obtain⟨⟨h1,h2⟩,h3⟩:=hcs;have ett:t=t':=zAE h1;subst ett;obtain⟨r,w',hr,io,hK⟩:=Wj1 (P:=P) (ty:=ty) hu hi hz h2 (Nat.blt_eq.mp h3) hk;refine .inl ⟨_,w',?_,io,hK⟩;simp only at hr;simp[execOp,resolve,e1',invoke,builtin,hr]
  ·rename_i m k' n t ats' ha ht;have e1:=Zq hf ha;have e1':args.map a.eval = #[.map m,.int k' n]:=by apply Array.ext';simpa using e1
   have e2:ats=(t::ats').toArray:=by apply Array.ext';simpa using ht
   subst e2;obtain⟨kt,et,ki,c,hu,hku,hk1⟩:=HU hk;clear hk;split at hk1
   ·rename_i e;subst e;obtain⟨l,hl,hK⟩:=hk1;obtain⟨w',hr,io,h1,h2,h3⟩:=Wh3 (P:=P) (ty:=ty) (ats:=ats') hu hku (n:=n) hl;refine .inl ⟨_,w',?_,io,hK _ h1 h2 h3⟩;simp[execOp,resolve,e1',invoke,builtin,hr]
   ·exact hk1.elim
  ·rename_i sa sn sc n t t' ha ht;have e1:=Zq hf ha;have e1':args.map a.eval = #[.slice sa sn sc,.int .i64 n]:=by apply Array.ext';simpa using e1
   have e2:ats = #[t,t']:=by apply Array.ext';simpa using ht
   subst e2;split at hk
   case h_2=>exact hk.elim
   rename_i e ki hu hu';split at hk
   case h_2=>exact hk.elim
   rename_i te hi;split at hk
   case h_2=>exact hk.elim
   rename_i z hz;rw[WC]at hk;obtain⟨hcs,hk⟩:=hk;simp only[zF,zS]at hcs;obtain⟨r,w',hr,io,hK⟩:=Wix (P:=P) (ty:=ty) hu hu' hi hz hcs.1 (Nat.blt_eq.mp hcs.2) hk;refine .inl ⟨_,w',?_,io,hK⟩;simp only at hr;simp[execOp,resolve,e1',invoke,builtin,hr]
  ·rename_i da dn dc xa xn xc t ats' ha ht;have e1:=Zq hf ha;have e1':args.map a.eval = #[.slice da dn dc,.slice xa xn xc]:=by apply Array.ext';simpa using e1
   have e2:ats=(t::ats').toArray:=by apply Array.ext';simpa using ht
   subst e2;split at hk
   case h_2=>exact hk.elim
   rename_i e hu;split at hk
   case h_2=>exact hk.elim
   rename_i te hi;obtain⟨r,w',hr,io,hK⟩:=WjZ (P:=P) (ty:=ty) (ats:=ats') hu hi hk;refine .inl ⟨_,w',?_,io,hK⟩;simp only at hr;simp[execOp,resolve,e1',invoke,builtin,hr]
  ·rename_i sa sn sc t ha ht;have e1:=Zq hf ha;have e1':args.map a.eval = #[.slice sa sn sc]:=by apply Array.ext';simpa using e1
   have e2:ats = #[t]:=by apply Array.ext';simpa using ht
   subst e2;split at hk
   case h_2=>exact hk.elim
   rename_i e hu;split at hk
   case h_2=>exact hk.elim
   rename_i te hi;split at hk
   case h_2=>exact hk.elim
   rename_i z hz;rw[WC]at hk;obtain⟨hcs,hk⟩:=hk;simp only[zF,zS]at hcs;obtain⟨w',hr,io,hK⟩:=Wj6 (P:=P) (ty:=ty) hu hi hz hcs.1 (Nat.blt_eq.mp hcs.2) hk;refine .inl ⟨_,w',?_,io,hK⟩;simp only at hr;simp[execOp,resolve,e1',invoke,builtin,hr]
  ·exact hk.elim
 ·exact hk.elim
theorem WdG {k:IntKind}{c:CK}(p:MapEntry->Bool)(q:Int×c.T->Bool):∀(L:List MapEntry) (T:List (Int×c.T)),L.map (λe=>(e.key,e.val))=T.map (λx=>(Value.int k x.1,c.v x.2)) →
 (∀(j:Nat) (e:MapEntry) (y:Int×c.T),L[j]?=some e->T[j]?=some y->p e=q y)->(L.filter p).map (λe=>(e.key,e.val))=(T.filter q).map (λx=>(Value.int k x.1,c.v x.2))
 | [],T,h,_=>by
  cases T with
  | nil=>rfl
  | cons y T=>simp at h
 | e::L,[],h,_=>by simp at h
 | e::L,y::T,h,hpq=>by
  simp only[zI,List.cons.injEq]at h;have h0:=hpq 0 e y rfl rfl;have ih:=WdG p q L T h.2 (λj e' y' h1 h2=>hpq (j+1) e' y' (by simpa using h1) (by simpa using h2));simp only[zCR,h0];cases q y
  ·simpa using ih
  ·simp[h.1,ih]
theorem It.nxt {P:Program}{r:Nat}{k:IntKind}{c:CK}{m:Option Nat}{l todo:List (Int×c.T)}{cur:Option (Int×c.T)}{w:World}(hit:It w.heap r k c m l todo cur)(ty:Nat) :
 (todo=[]/\∃w',(Instr.next (.pointer (some ⟨r,0,none⟩)) false ty).run P w=.ok (.tuple #[.bool false]) w'/\Zc w w'/\w'.heap=w.heap) ∨
 (∃n x w',(n,x)∈todo/\(Instr.next (.pointer (some ⟨r,0,none⟩)) false ty).run P w=.ok (.tuple #[.bool true,.int k n,c.v x]) w'/\Zc w w'/\ZY w.heap w'.heap r ∧
  It w'.heap r k c m l (todo.filter λy=>!(y.1==n)) (some (n,x))):=by
 cases m with
 | none=>
  obtain⟨rfl,rfl,rfl,s,q,y,hr⟩:=hit;exact .inl ⟨rfl,w,by simp[Instr.next,getObj,Sem.run,hr],.refl _,rfl⟩
 | some b=>
  obtain⟨es,clk,seen,hr,hb,he,hn,hp,hlt,htodo,hcur⟩:=hit;have hrlt:r<w.heap.size:=(zAK.1 hr).1;have hrb:r≠b:=λe=>by rw[e,hb]at hr;cases hr
  have hchk:¬((!seen.isEmpty && !es.isEmpty&&es.all (·.born≥clk))=true):=by
   intro h;simp only[zF,zAO,Array.all_eq_true',zN]at h;obtain⟨⟨_,h2⟩,h3⟩:=h;have h2':es ≠ #[]:=by simpa[Array.isEmpty_iff]using h2
   obtain⟨e,hme⟩:=Array.exists_mem_of_ne_empty es h2';have:=h3 e hme;have:=hlt e (by simpa using hme);omega
  have hold:((es.filter λe=>!seen.contains e.born).filter (·.born<clk))=es.filter λe=>!seen.contains e.born:=by
   rw[Array.filter_eq_self];intro e hme;have:e∈es:=(Array.mem_filter.1 hme).1;simpa using hlt e (by simpa using this)
  have hnew:((es.filter λe=>!seen.contains e.born).filter (·.born≥clk)) = #[]:=by
   rw[Array.filter_eq_empty_iff];intro e hme;have:e∈es:=(Array.mem_filter.1 hme).1;have:=hlt e (by simpa using this);simp;omega
  have hlist:(es.filter λe=>!seen.contains e.born).toList=es.toList.filter λe=>!seen.contains e.born:=Array.toList_filter;have hrun:∀(cand:Array (Option MapEntry)),cand=(if(es.filter λe=>!seen.contains e.born).isEmpty then #[none]else #[])++(es.filter λe=>!seen.contains e.born).map some →
   (Instr.next (.pointer (some ⟨r,0,none⟩)) false ty).run P w=(do
    match cand[←choose (.mapNext cand.size)]? with
    | some (some e)=>do
     setObj r (.mapIter (some b) clk (seen.push e.born) clk)
     pure (.tuple #[.bool true,e.key,e.val])
    | some none=>pure (.tuple #[.bool false])
    | none=>stuck "Next: no such candidate" : Sem Value).run P w := by
   rintro cand rfl;simp only[Instr.next,getObj,Sem.run_bind,Sem.run,hr,Result.andThen_ok,hb,hchk,zq,hold,hnew,Array.append_empty,zZ,Sem.run_bind]
   try rfl
  cases htd:todo with
  | nil=>
   left;subst htd;have hnil:(es.filter λe=>!seen.contains e.born) = #[]:=by
    apply Array.ext';rw[hlist];have:=congrArg List.length htodo;simpa using this
   refine⟨rfl,w,?_,.refl _,rfl⟩;rw[hrun #[none] (by rw[hnil];simp)];simp[choose,Sem.run,Question.forced]
  | cons y ys=>
   right;have hlen:(es.filter λe=>!seen.contains e.born).size=todo.length:=by
    rw[←zEB,hlist];simpa using congrArg List.length htodo
   have hne:(es.filter λe=>!seen.contains e.born).isEmpty=false:=by
    rw[htd]at hlen;simp only[zU]at hlen;cases hce:(es.filter λe=>!seen.contains e.born).isEmpty
    ·rfl
    ·rw[Array.isEmpty_iff]at hce;rw[hce]at hlen;simp at hlen
   have key:∀(i:Nat),i<todo.length->∀w1:World,w1.heap=w.heap->Zc w w1->∃n x w',(n,x)∈todo ∧
    ((match ((es.filter λe=>!seen.contains e.born).map some)[i]? with
     | some (some e)=>do
      setObj r (.mapIter (some b) clk (seen.push e.born) clk)
      pure (.tuple #[.bool true,e.key,e.val])
     | some none=>pure (.tuple #[.bool false])
     | none=>stuck "Next: no such candidate" : Sem Value)).run P w1 = .ok (.tuple #[.bool true, .int k n, c.v x]) w' /\ Zc w w' /\ ZY w.heap w'.heap r ∧
    It w'.heap r k c (some b) l (todo.filter λy=>!(y.1==n)) (some (n,x)):=by
    intro i hi w1 hw1 io;have hi':i<(es.filter λe=>!seen.contains e.born).size:=by omega
    let e:=(es.filter λe=>!seen.contains e.born)[i]
    have hei:(es.filter λe=>!seen.contains e.born)[i]?=some e:=by simp[e,hi']
    have hti:(es.toList.filter λe=>!seen.contains e.born)[i]?=some e:=by rw[←hlist,zEO];exact hei
    have hty:todo[i]?=some todo[i]:=by simp[hi]
    have hkv:(e.key,e.val)=(Value.int k todo[i].1,c.v todo[i].2):=by
     have:=congrArg (λl=>l[i]?) htodo;simp only[za,hti,hty,zb,Option.some.injEq]at this;exact this
    simp only[Prod.mk.injEq]at hkv;have hmemF:e∈es.toList.filter λe=>!seen.contains e.born:=zE hti;have hme:e∈es.toList:=(zH.1 hmemF).1;have hns:seen.contains e.born=false:=by simpa using(zH.1 hmemF).2
    refine⟨todo[i].1,todo[i].2,{w1 with heap:=w1.heap.setIfInBounds r (.mapIter (some b) clk (seen.push e.born) clk)},zj _,?_,?_,?_,?_⟩
    ·have hr1:w1.heap[r]?=some (.mapIter (some b) clk seen clk):=by rw[hw1];exact hr
     simp only[Array.getElem?_map,hei,zb,setObj,Sem.run_bind,Sem.run,hr1,Result.andThen_ok,Sem.run_pure,hkv.1,hkv.2]
    ·exact⟨io.1,io.2.1,io.2.2.1,by simp only[Array.size_setIfInBounds];exact io.2.2.2⟩
    ·rw[hw1];exact V2 _ _ _
    ·rw[hw1];refine⟨es,clk,seen.push e.born,by simp[hrlt],?_,he,hn,hp,hlt,?_,λx hx=>?_⟩
     ·rw[zEP hrb];exact hb
     ·-- the rest
      have hinj:∀e'∈es.toList,(e'.born==e.born)=true->e'=e:=by
       intro e' h1 h2;have h2':e'.born=e.born:=by simpa using h2
       obtain⟨p,hp1,hp2⟩:=zDF h1;obtain⟨q,hq1,hq2⟩:=zDF hme;have hpw:=zAF.1 hp;rcases zBO p q with h|h|h
       ·have:=hpw p q (by simpa using hp1) (by simpa using hq1) h;simp[hp2,hq2,h2']at this
       ·subst h;rw[←hp2,hq2]
       ·have:=hpw q p (by simpa using hq1) (by simpa using hp1) h;simp[hp2,hq2,h2']at this
      have hf1:(es.toList.filter λe'=>!(seen.push e.born).contains e'.born)=(es.toList.filter λe'=>!seen.contains e'.born).filter λe'=>!(e'.born==e.born):=by
       rw[zFT];apply zET;intro e' _;simp[Array.contains_eq_mem,Array.mem_push];rw[Bool.and_comm]
       congr 1
      rw[hf1];refine WdG _ _ _ _ htodo λj e' y h1 h2=>?_;have hm':e'∈es.toList:=(zH.1 (zE h1)).1;have hkv':(e'.key,e'.val)=(Value.int k y.1,c.v y.2):=by
       have:=congrArg (λl=>l[j]?) htodo;simp only[za,h1,h2,zb,Option.some.injEq]at this;exact this
      simp only[Prod.mk.injEq]at hkv'
      congr 1
      rw[zBF];constructor
      ·intro hb';have:=hinj e' hm' hb';subst this;have:=hkv'.1.symm.trans hkv.1;simp only[Value.int.injEq,zCZ]at this;simpa using this
      ·intro hy;have hy':y.1=todo[i].1:=by simpa using hy
       have hkk:e'.key=e.key:=by rw[hkv'.1,hkv.1,hy']
       obtain⟨p,hp1,hp2⟩:=zDF hm';obtain⟨q,hq1,hq2⟩:=zDF hme;have hll:es.toList.length=l.length:=by simpa using congrArg List.length he
       have hk1:∀(p:Nat) (hp:p<es.toList.length),es.toList[p].key=.int k (l[p]'(by omega)).1:=by
        intro p hp;have:=congrArg (λl=>l[p]?) he;simp only[za,gGe hp,gGe (show p<l.length by omega),zb,Option.some.injEq,Prod.mk.injEq]at this;exact this.1
       have e1:=hk1 p hp1;have e2:=hk1 q hq1;rw[hp2]at e1;rw[hq2]at e2;rw[hkk,e2]at e1;simp only[Value.int.injEq,zCZ]at e1;have:p=q:=by
        have hnn:=zAF.1 hn;rcases zBO p q with h|h|h
        ·exact absurd (by rw[zCI,zCI];exact e1.symm) (hnn p q (by simp;omega) (by simp;omega) h)
        ·exact h
        ·exact absurd (by rw[zCI,zCI];exact e1) (hnn q p (by simp;omega) (by simp;omega) h)
       subst this;rw[←hp2,←hq2];simp
     ·cases hx;refine⟨e,hme,by simp,hkv.1,hkv.2⟩
   have hsz:((if(es.filter λe=>!seen.contains e.born).isEmpty then #[none]else #[])++(es.filter λe=>!seen.contains e.born).map some:Array (Option MapEntry))=(es.filter λe=>!seen.contains e.born).map some:=by
    rw[hne];simp
   rw[←htd];rw[hrun _ hsz.symm];have hpos:0<todo.length:=by rw[htd];simp
   simp only[Sem.run_bind,choose,Sem.run,Array.size_map,hlen];cases hfo:(Question.mapNext todo.length).forced
   ·simp only[zZ,zq,Result.andThen_ok];exact key _ (by simp only[Question.cut];exact zDU _ hpos) _ rfl ⟨rfl,rfl,rfl,zD _⟩
   ·simp only[zP,Result.andThen_ok];exact key 0 hpos w rfl (.refl _)
theorem It.ent {P:Program}{r:Nat}{k:IntKind}{c:CK}{m:Option Nat}{l todo:List (Int×c.T)}{n:Int}{x:c.T}{w:World}(hit:It w.heap r k c m l todo (some (n,x))) :
 (Instr.entry (.pointer (some ⟨r,0,none⟩))).run P w=.ok (.tuple #[.int k n,c.v x]) w:=by
 cases m with
 | none=>obtain⟨_,_,h,_⟩:=hit;cases h
 | some b=>
  obtain⟨es,clk,seen,hr,hb,he,hn,hp,hlt,htodo,hcur⟩:=hit;obtain⟨e,hme,hback,hk,hv⟩:=hcur _ rfl;have hfind:es.find? (·.born==e.born)=some e:=by
   rw[←Array.find?_toList,List.find?_eq_some_iff_getElem];obtain⟨p,hp1,hp2⟩:=zDF hme;refine⟨by simp,p,hp1,hp2,λj hj=>?_⟩;have hpw:=zAF.1 hp j p (by simp;simp at hp1;omega) (by simpa using hp1) hj;rw[zCI,zCI,hp2]at hpw;rw[zAO];cases hb2:(es.toList[j].born==e.born)
   ·rfl
   ·have:=zS.1 hb2;omega
  simp[Instr.entry,getObj,Sem.run,hr,hb,hback,hfind,hk,hv]
def itK (k:IntKind)(c:CK)(o:Op)(ρ:Env)(h:Hp)(K:Value->Hp->Prop):Prop:=
 match o with
 | .next x false=>wv (ev ρ x) λv=>match v with
  | .pointer (some a)=>Nxt k c a h (K (.tuple #[.bool false]) h) λn y h'=>K (.tuple #[.bool true,.int k n,c.v y]) h'
  | _=>False
 | .entry x=>wv (ev ρ x) λv=>match v with
  | .pointer (some a)=>Ent k c a h λn y=>K (.tuple #[.int k n,c.v y]) h
  | _=>False
 | _=>False
theorem It.spot {a:Addr}(h:a.off=0):∃s,a=⟨a.block,0,s⟩:=⟨a.spot,by cases a;simp at h;subst h;rfl⟩
theorem Wey {P:Program}{k:IntKind}{c:CK}{ρ:Env}{K:Value->Hp->Prop}{a:Act}{w:World}(hf:∀x v,ev ρ x=some v->a.eval x=v)(o:Oper)(hk:itK k c o.op ρ w.heap K):Q5 P (execOp a.eval o) w K:=by
 obtain⟨dst,op,ty,pos,after,guard⟩:=o;simp only at hk;unfold itK at hk;split at hk
 ·rename_i x;obtain⟨v,hv,hk⟩:=Wo hk;simp only[execOp,hf _ _ hv];split at hk
  case h_2=>exact hk.elim
  rename_i ad;obtain⟨h0,m,l,todo,cur,hit,hA,hB⟩:=hk;obtain⟨s,hs⟩:=It.spot h0;have hrun:∀w:World,(Instr.next (.pointer (some ad)) false ty).run P w=(Instr.next (.pointer (some ⟨ad.block,0,none⟩)) false ty).run P w:=by
   intro w;rw[hs];rfl
  rcases hit.nxt (P:=P) ty with⟨ht,w',hr,io,hh⟩|⟨n,y,w',hm,hr,io,ho,hi'⟩
  ·exact .inl ⟨.tuple #[.bool false],w',by simp[hrun,hr],io,by rw[hh];exact hA ht⟩
  ·exact .inl ⟨.tuple #[.bool true,.int k n,c.v y],w',by simp[hrun,hr],io,hB n y hm _ ho hi'⟩
 ·rename_i x;obtain⟨v,hv,hk⟩:=Wo hk;simp only[execOp,hf _ _ hv];split at hk
  case h_2=>exact hk.elim
  rename_i ad;obtain⟨h0,m,l,todo,n,y,hit,hK⟩:=hk;obtain⟨s,hs⟩:=It.spot h0;have hrun:(Instr.entry (.pointer (some ad))).run P w=(Instr.entry (.pointer (some ⟨ad.block,0,none⟩))).run P w:=by
   rw[hs];rfl
  exact .inl ⟨.tuple #[.int k n,c.v y],w,by simp[hrun,hit.ent (P:=P)],.refl _,hK⟩
 ·exact hk.elim
structure Fits (N:Nat) (ρ:Env) (a:Act):Prop where
 defers:a.defers=[]
 size:a.tmps.size=N
 at_:∀i v,ρ i=some v->a.tmps[i]?=some v
theorem Fits.ev {N:Nat}{ρ:Env}{a:Act}(h:Fits N ρ a):∀x v,ev ρ x=some v->a.eval x=v:=by
 intro x v hx;cases x with
 | tmp t=>
  have:=h.at_ t v hx;simp[Act.eval,zCJ,this]
 | const u=>simp only[Vc.ev,Option.some.injEq]at hx;exact hx
 | global g=>simp only[Vc.ev,Option.some.injEq]at hx;exact hx
 | func f=>simp only[Vc.ev,Option.some.injEq]at hx;exact hx
def WcM (N:Nat):Option Nat->Bool
 | some d=>Nat.blt d N
 | none=>true
theorem Fits.put {N:Nat}{ρ:Env}{a:Act}(h:Fits N ρ a){d:Option Nat}(hd:WcM N d=true)(v:Value):Fits N (ρ.putO d v) (a.put d v):=by
 cases d with
 | none=>exact h
 | some d=>
  have hd':d<N:=Nat.blt_eq.mp hd;refine⟨h.defers,by simp[Act.put,h.size],λi u hu=>?_⟩;simp only[Env.putO,Env.put]at hu;cases hi:Nat.beq i d
  ·rw[hi]at hu;have hne:i≠d:=λe=>by subst e;simp at hi
   simp only[Act.put];rw[zEP (Ne.symm hne)];exact h.at_ i u hu
  ·rw[hi]at hu;have e:i=d:=zAE hi;subst e;simp only[cond_true,Option.some.injEq]at hu;subst hu;simp[Act.put,h.size,hd']
theorem Fits.weaken {N:Nat}{ρ ρ':Env}{a:Act}(h:Fits N ρ a)(hw:∀i v,ρ' i=some v->ρ i=some v):Fits N ρ' a:=
 ⟨h.defers,h.size,λi v hv=>h.at_ i v (hw i v hv)⟩
theorem Wcr (ρ:Env)(ds:List Nat):∀i v,ρ.hide ds i=some v->ρ i=some v:=by
 intro i v h;simp only[Env.hide]at h;cases hc:ds.contains i<;>rw[hc]at h<;>simp at h
 exact h
theorem Fits.lit {N:Nat}{ρ:Env}{a:Act}(h:Fits N ρ a){c:Nat}{b b':Bool}(hc:ρ c=some (.bool b))(e:b=b'):Fits N (ρ.put c (.bool b')) a:=by
 subst e;refine h.weaken λi v hv=>?_;simp only[Env.put]at hv;cases hi:Nat.beq i c
 ·rw[hi]at hv;exact hv
 ·rw[hi]at hv;have e:i=c:=zAE hi;subst e;rw[hc];exact hv
def Hu (ops:Array Oper)(o:Oper)(ρ:Env):Bool:=
 match o.guard with
 | none=>true
 | some (j,want)=>match (ops[j]?).bind (·.dst)with
  | some c=>match ρ c with
   | some (.bool b)=>b==want
   | _=>false
  | none=>false
def Wcw (ops:Array Oper)(o:Oper)(ρ:Env):Bool:=
 match o.guard with
 | none=>false
 | some (j,want)=>match (ops[j]?).bind (·.dst)with
  | some c=>match ρ c with
   | some (.bool b)=>!(b==want)
   | some (.tuple _)=>true
   | _=>false
  | none=>false
theorem Zx {N:Nat}{ops:Array Oper}{o:Oper}{ρ:Env}{a:Act}(hf:Fits N ρ a)(h:Hu ops o ρ=true):Region.wanted o (yielded ops a.tmps)=true:=by
 unfold Hu at h;unfold Region.wanted;cases hg:o.guard with
 | none=>rfl
 | some jw=>
  obtain⟨j,want⟩:=jw;rw[hg]at h;simp only at h ⊢;cases hc:(ops[j]?).bind (·.dst)with
  | none=>rw[hc]at h;cases h
  | some c=>
   rw[hc]at h;simp only at h;split at h
   ·rename_i b hb;have:=hf.at_ c _ hb;simp only[yielded,hc,zEU,this];simpa using h
   ·cases h
theorem Kl {N:Nat}{ops:Array Oper}{o:Oper}{ρ:Env}{a:Act}(hf:Fits N ρ a)(h:Wcw ops o ρ=true):Region.wanted o (yielded ops a.tmps)=false:=by
 unfold Wcw at h;unfold Region.wanted;cases hg:o.guard with
 | none=>rw[hg]at h;cases h
 | some jw=>
  obtain⟨j,want⟩:=jw;rw[hg]at h;simp only at h ⊢;cases hc:(ops[j]?).bind (·.dst)with
  | none=>rw[hc]at h;cases h
  | some c=>
   rw[hc]at h;simp only at h;split at h
   ·rename_i b hb;have:=hf.at_ c _ hb;simp only[yielded,hc,zEU,this];simpa using h
   ·rename_i b hb;have:=hf.at_ c _ hb;simp only[yielded,hc,zEU,this];rfl
   ·cases h
def Ut (N:Nat)(ops:Array Oper):List Oper->Env->Bool
 | [],_=>true
 | o::os,ρ=>Wcw ops o ρ&&(WcM N o.dst&&Ut N ops os (ρ.putO o.dst undef))
theorem Wfk {P:Program}{N:Nat}{ops:Array Oper}{Q:Exit->Act->World->Prop}{tail:List Oper}{w:World}:∀{os:List Oper} {ρ:Env} {a:Act},Ut N ops os ρ=true->Fits N ρ a →
 (∀a',Fits N (ρ.hide (os.filterMap (·.dst))) a'->wpList P ops Q tail a' w)->wpList P ops Q (os++tail) a w
 | [],ρ,a,_,hf,h=>h a (hf.weaken (Wcr _ _))
 | o::os,ρ,a,hs,hf,h=>by
  simp only[Ut,zF]at hs;obtain⟨h1,h2,h3⟩:=hs;have hw:=Kl hf h1;simp only[zAV,wpList,hw];refine Wfk h3 (hf.put h2 _) λa' hf'=>h a' (hf'.weaken λi v hv=>?_);simp only[Env.hide]at hv ⊢;cases hc:(List.filterMap (·.dst) (o::os)).contains i
  ·rw[hc]at hv;simp only[cond_false]at hv;have hni:(List.filterMap (·.dst) os).contains i=false:=by
    cases hd:o.dst<;>simp_all
   have hne:∀d,o.dst=some d->i≠d:=by
    intro d hd;simp_all
   rw[hni];simp only[cond_false];cases hd:o.dst with
   | none=>exact hv
   | some d=>
    have:=hne d hd;simp only[Env.putO,Env.put];have:Nat.beq i d=false:=by
     cases hb:Nat.beq i d
     ·rfl
     ·exact absurd (zAE hb) this
    rw[this];exact hv
  ·rw[hc]at hv;cases hv
theorem GW {P:Program}{N:Nat}{ops:Array Oper}{Q:Act->Prop}{tail:List Oper}{w:World}:∀{os:List Oper} {ρ:Env} {a:Act},Ut N ops os ρ=true->Fits N ρ a →
 (∀a',Fits N (ρ.hide (os.filterMap (·.dst))) a'->wpStill P ops w Q tail a')->wpStill P ops w Q (os++tail) a
 | [],ρ,a,_,hf,h=>h a (hf.weaken (Wcr _ _))
 | o::os,ρ,a,hs,hf,h=>by
  simp only[Ut,zF]at hs;obtain⟨h1,h2,h3⟩:=hs;have hw:=Kl hf h1;simp only[zAV,wpStill,hw];refine GW h3 (hf.put h2 _) λa' hf'=>h a' (hf'.weaken λi v hv=>?_);simp only[Env.hide]at hv ⊢;cases hc:(List.filterMap (·.dst) (o::os)).contains i
  ·rw[hc]at hv;simp only[cond_false]at hv;have hni:(List.filterMap (·.dst) os).contains i=false:=by
    cases hd:o.dst<;>simp_all
   have hne:∀d,o.dst=some d->i≠d:=by
    intro d hd;simp_all
   rw[hni];simp only[cond_false];cases hd:o.dst with
   | none=>exact hv
   | some d=>
    have:=hne d hd;simp only[Env.putO,Env.put];have:Nat.beq i d=false:=by
     cases hb:Nat.beq i d
     ·rfl
     ·exact absurd (zAE hb) this
    rw[this];exact hv
  ·rw[hc]at hv;cases hv
def JnB (K:Bool->Hp->Prop)(body:(Bool->Hp->Prop)->Prop):Prop:=∃J:Bool->Hp->Prop,(∀r h,J r h->K r h)/\body J
theorem JnB.intro {K:Bool->Hp->Prop}{body:(Bool->Hp->Prop)->Prop}(h:body K):JnB K body:=⟨K,λ_ _ h=>h,h⟩
inductive RI where
 | op
 | it (k:IntKind) (c:CK)
 | grd (and:Bool) (n:Nat) (inner:List RI)
def isC (b:Bool):Operand->Bool
 | .const (.bool b')=>b'==b
 | _=>false
def V8 (ρ:Env)(x:Operand)(K:Bool->Prop):Prop:=match ev ρ x with
 | some (.bool r)=>K r
 | _=>False
def cIs (ρ:Env)(c:Nat)(b:Bool):Bool:=match ρ c with
 | some (.bool b')=>b'==b
 | _=>false
def opsK (P:Program)(N:Nat)(ops:Array Oper):Nat->List RI->List Oper->Env->Hp->(Env->Hp->Prop)->Prop
 | 0,_,_,_,_,_=>False
 | _+1,[],[],ρ,h,K=>K ρ h
 | n+1,.op::hs,o::os,ρ,h,K=>chk (Hu ops o ρ&&WcM N o.dst) (opK P o.op o.type ρ h λv h'=>opsK P N ops n hs os (ρ.putO o.dst v) h' K)
 | n+1,.it ki c::hs,o::os,ρ,h,K=>chk (Hu ops o ρ&&WcM N o.dst) (itK ki c o.op ρ h λv h'=>opsK P N ops n hs os (ρ.putO o.dst v) h' K)
 | n+1,.grd and m inner::hs,os,ρ,h,K=>
  match os.drop m with
  | pk::rest=>match pk.op,pk.dst with
   | .pick (.tmp c) x y,some d=>match ρ c with
    | some (.bool b)=>chk (Nat.blt d N&&(isC (!and) (bif and then y else x)&&(Hu ops pk (ρ.hide ((os.take m).filterMap (·.dst)))&&(cIs ((ρ.put c (.bool (!and))).hide ((os.take m).filterMap (·.dst))) c (!and)&&Ut N ops (os.take m) (ρ.put c (.bool (!and)))))))
     (JnB (λr h'=>opsK P N ops n hs rest ((ρ.hide ((os.take m).filterMap (·.dst))).put d (.bool r)) h' K) λJ=>
      bif and then If b (opsK P N ops n inner (os.take m) (ρ.put c (.bool true)) h λρ' h'=>chk (Hu ops pk ρ'&&cIs ρ' c true) (V8 ρ' x λr=>J r h')) (J false h)
      else If b (J true h) (opsK P N ops n inner (os.take m) (ρ.put c (.bool false)) h λρ' h'=>chk (Hu ops pk ρ'&&cIs ρ' c false) (V8 ρ' y λr=>J r h')))
    | _=>False
   | _,_=>False
  | []=>False
 | _,_,_,_,_,_=>False
theorem GF {P:Program}{ρ:Env}{K:Value->Hp->Prop}{a:Act}{w:World}(hf:∀x v,ev ρ x=some v->a.eval x=v)(o:Oper)(hk:opK P o.op o.type ρ w.heap K) :
 Q5 P (execOp a.eval o) w K:=by
 unfold opK at hk;cases hq:isQ o.op
 ·rw[hq]at hk;exact Wg9 hf o hk
 ·rw[hq]at hk;obtain⟨v,hr,hK⟩:=Hh hf o hk;exact .inl ⟨v,w,hr,.refl _,hK⟩
theorem Vx {ρ:Env}{x:Operand}{K:Bool->Prop}(h:V8 ρ x K):∃r,ev ρ x=some (.bool r)/\K r:=by
 unfold V8 at h;split at h
 ·exact⟨_,by assumption,h⟩
 ·exact h.elim
theorem Wdj {b:Bool}{x:Operand}(h:isC b x=true)(ρ:Operand->Value)(hc:∀v,ρ (.const v)=v):ρ x=.bool b:=by
 unfold isC at h;split at h
 ·rw[hc];simp at h;rw[h]
 ·cases h
theorem WcB {P:Program}{a:Act}{w:World}{o:Oper}{c x y:Operand}{b r:Bool}{K:Value->Hp->Prop}(ho:o.op=.pick c x y)(hc:a.eval c=.bool b)(hr:a.eval (bif b then x else y)=.bool r)(hK:K (.bool r) w.heap) :
 Q5 P (execOp a.eval o) w K:=by
 obtain⟨dst,op,ty,pos,after,guard⟩:=o;simp only at ho;subst ho;refine .inl ⟨_,w,?_,.refl _,hK⟩;cases b<;>simp at hr<;>simp[execOp,hc,asBool,hr]
def VD (os:List Oper)(ρ ρ':Env):Prop:=∀i,(os.filterMap (·.dst)).contains i=false->∀v,ρ i=some v->ρ' i=some v
theorem VD.cons {o:Oper}{os:List Oper}{ρ ρ':Env}{v:Value}(h:VD os (ρ.putO o.dst v) ρ'):VD (o::os) ρ ρ':=by
 intro i hi u hu;cases hd:o.dst with
 | none=>rw[hd]at h;exact h i (by simpa[hd]using hi) u hu
 | some d=>
  rw[hd]at h;simp[hd]at hi;refine h i (by simpa using hi.2) u ?_;simp only[Env.putO,Env.put];have:Nat.beq i d=false:=by
   cases hb:Nat.beq i d
   ·rfl
   ·exact absurd (zAE hb) hi.1
  rw[this];exact hu
theorem VD.grd {os rest:List Oper}{pk:Oper}{m d:Nat}{ρ ρ':Env}{r:Bool}(hd:pk.dst=some d)(hdrop:os.drop m=pk::rest)(h:VD rest ((ρ.hide ((os.take m).filterMap (·.dst))).put d (.bool r)) ρ'):VD os ρ ρ':=by
 intro i hi u hu;rw[←zBG m os,hdrop,zDG,zFU,hd]at hi;simp only[zCT,zM,zX,decide_eq_false_iff_not,not_or]at hi;refine h i (by simpa using hi.2.2) u ?_;simp only[Env.put,Env.hide];have:Nat.beq i d=false:=by
  cases hb:Nat.beq i d
  ·rfl
  ·exact absurd (zAE hb) hi.2.1
 rw[this];have h2:((os.take m).filterMap (·.dst)).contains i=false:=by simpa using hi.1
 rw[h2];exact hu
theorem Fits.seg {N:Nat}{os:List Oper}{ρ ρ':Env}{a:Act}{c:Nat}{b b':Bool}(h:Fits N ρ' a)(hc:ρ c=some (.bool b))(e:b=b')(k:VD os (ρ.put c (.bool b')) ρ'):Fits N (ρ.hide (os.filterMap (·.dst))) a:=by
 refine h.weaken λi v hv=>?_;simp only[Env.hide]at hv;cases hci:(os.filterMap (·.dst)).contains i
 ·rw[hci]at hv;refine k i hci v ?_;simp only[Env.put];cases hb:Nat.beq i c
  ·exact hv
  ·have e2:i=c:=zAE hb;subst e2;simp only[cond_false]at hv;rw[hc]at hv;simp only[cond_true];rw[←e];exact hv
 ·rw[hci]at hv;cases hv
theorem UY {ρ:Env}{c:Nat}{b:Bool}(h:cIs ρ c b=true):ρ c=some (.bool b):=by
 unfold cIs at h;split at h
 ·rename_i b' hb;simp at h;rw[hb,h]
 ·cases h
theorem QY {P:Program}{N:Nat}{ops:Array Oper}{Q:Exit->Act->World->Prop}:∀(n:Nat) {hs:List RI} {os:List Oper} {tail:List Oper} {ρ:Env} {a:Act} {w:World} {K:Env->Hp->Prop},
 opsK P N ops n hs os ρ w.heap K->Fits N ρ a->(∀ρ' a' w',Fits N ρ' a'->Zc w w'->VD os ρ ρ'->K ρ' w'.heap->wpList P ops Q tail a' w')->wpList P ops Q (os++tail) a w
 | 0,_,_,_,_,_,_,_,h,_,_=>(by simp only[opsK]at h)
 | n+1,[],[],tail,ρ,a,w,K,h,hf,hK=>by
  simp only[opsK]at h;exact hK ρ a w hf (.refl _) (λ_ _ _ h=>h) h
 | n+1,[],o::os,tail,ρ,a,w,K,h,hf,hK=>(by simp only[opsK]at h)
 | n+1,.op::hs,[],tail,ρ,a,w,K,h,hf,hK=>(by simp only[opsK]at h)
 | n+1,.op::hs,o::os,tail,ρ,a,w,K,h,hf,hK=>by
  simp only[opsK]at h;rw[WC]at h;obtain⟨hc,h⟩:=h;simp only[zF]at hc;have hw:=Zx hf hc.1;simp only[zAV,wpList,hw,zP];refine .inl (Q5.upon (GF hf.ev o h) λv w' io hk=>?_);exact QY n hk (hf.put hc.2 v) λρ' a' w'' hf' io' ke hk'=>hK ρ' a' w'' hf' (io.trans io') ke.cons hk'
 | n+1,.it ki c::hs,[],tail,ρ,a,w,K,h,hf,hK=>(by simp only[opsK]at h)
 | n+1,.it ki c::hs,o::os,tail,ρ,a,w,K,h,hf,hK=>by
  simp only[opsK]at h;rw[WC]at h;obtain⟨hc,h⟩:=h;simp only[zF]at hc;have hw:=Zx hf hc.1;simp only[zAV,wpList,hw,zP];refine .inl (Q5.upon (Wey hf.ev o h) λv w' io hk=>?_);exact QY n hk (hf.put hc.2 v) λρ' a' w'' hf' io' ke hk'=>hK ρ' a' w'' hf' (io.trans io') ke.cons hk'
 | n+1,.grd and m inner::hs,os,tail,ρ,a,w,K,h,hf,hK=>by
  simp only[opsK]at h;split at h
  case h_2=>exact h.elim
  rename_i pk rest hdrop;split at h
  case h_2=>exact h.elim
  rename_i c x y d hop hd;split at h
  case h_2=>exact h.elim
  rename_i b hb;rw[WC]at h;obtain⟨hc,J,hJ,h⟩:=h;simp only[zF]at hc;obtain⟨hdN,hcon,hpk,hcc,hskip⟩:=hc;have hdN':WcM N pk.dst=true:=by rw[hd];exact hdN
  have hos:os++tail=os.take m++(pk::rest++tail):=by
   rw[←hdrop,←zAC,zBG]
  rw[hos];have after:∀(r b':Bool) (z:Operand) a' w',b=b'->(bif b' then x else y)=z->Fits N (ρ.hide ((os.take m).filterMap (·.dst))) a'->Zc w w'->J r w'.heap->Region.wanted pk (yielded ops a'.tmps)=true →
   a'.eval (.tmp c)=.bool b'->a'.eval z=.bool r->wpList P ops Q (pk::rest++tail) a' w':=by
   intro r b' z a' w' e ez hf' io hj hw hec hez;simp only[zAV,wpList,hw,zP];refine .inl (Q5.upon (K:=λv h'=>v=.bool r/\h'=w'.heap) (WcB hop hec (by rw[ez];exact hez) ⟨rfl,rfl⟩) λv w'' io' hk=>?_);obtain⟨rfl,hh⟩:=hk;have hfp:=hf'.put (d:=some d) hdN (.bool r);rw[hd];have hj':=hJ _ _ hj;rw[←hh]at hj';exact QY n hj' hfp λρ' a'' w3 hf'' io'' ke hk'=>hK ρ' a'' w3 hf'' ((io.trans io').trans io'') (VD.grd hd hdrop ke) hk'
  have run:∀(b':Bool) (z:Operand),b=b'->(bif b' then x else y)=z →
   opsK P N ops n inner (os.take m) (ρ.put c (.bool b')) w.heap (λρ' h'=>chk (Hu ops pk ρ'&&cIs ρ' c b') (V8 ρ' z λr=>J r h'))->wpList P ops Q (os.take m++(pk::rest++tail)) a w:=by
   intro b' z e ez hseg;refine QY n hseg (hf.lit hb e) λρ' a' w' hf' io ke hk=>?_;rw[WC]at hk;simp only[zF]at hk;obtain⟨⟨hg,hci⟩,hk⟩:=hk;obtain⟨r,hr,hj⟩:=Vx hk;exact after r b' z a' w' e ez (hf'.seg hb e ke) io hj (Zx hf' hg) (hf'.ev _ _ (UY hci)) (hf'.ev _ _ hr)
  have skip:∀(b':Bool),b=b'->b' = !and->J (!and) w.heap->wpList P ops Q (os.take m++(pk::rest++tail)) a w:=by
   intro b' e eb hj;subst eb;refine Wfk hskip (hf.lit hb e) λa' hf'=>?_;have hfs:Fits N (ρ.hide ((os.take m).filterMap (·.dst))) a':=hf'.seg (ρ':=(ρ.put c (.bool (!and))).hide ((os.take m).filterMap (·.dst))) hb e (λi hi v hv=>by simp only[Env.hide,hi];exact hv);have hec:=hf'.ev (.tmp c) _ (UY hcc);refine after (!and) (!and) (bif (!and)then x else y) a' w e rfl hfs (.refl _) hj (Zx hfs hpk) hec ?_;refine Wdj ?_ _ (λv=>rfl);cases and<;>exact hcon
  cases and
  ·simp only[cond_false]at h;cases b
   ·exact run false y rfl rfl (h.f rfl)
   ·exact skip true rfl rfl (h.t rfl)
  ·simp only[cond_true]at h;cases b
   ·exact skip false rfl rfl (h.f rfl)
   ·exact run true x rfl rfl (h.t rfl)
variable {P:Program}{ops:Array Oper}{Q:Exit->Act->World->Prop}
def WgR (ops:Array Oper)(k i:Nat):Bool:=match ops[k]? with
 | none=>false
 | some o=>o.after.toList.any λe=>Region.binds .any e&&Nat.beq e.on i
def TS (S:World->Prop)(C:List Nat)(listed:Array Bool)(w:World):Prop:=S w\/∃k∈C,listed.getD k false=true
def anyS (P:Program)(ops:Array Oper)(Q:Exit->Act->World->Prop)(S:World->Prop)(C:List Nat):Nat->Array Bool->Act->World->Prop
 | 0,listed,a,w=>Region.ready .any ops listed=[]/\Q .normal a w
 | m+1,listed,a,w=>(Region.ready .any ops listed=[]->Q .normal a w) ∧
  ∀i,i∈Region.ready .any ops listed->wpOp P ops Q i (λa' w'=>TS S C (listed.setIfInBounds i true) w'/\anyS P ops Q S C m (listed.setIfInBounds i true) a' w') a w
theorem Hr {S:World->Prop}{C:List Nat}:∀(m:Nat) (listed:Array Bool) (a:Act) (w:World),anyS P ops Q S C m listed a w->wpAny P .any ops Q m listed a w
 | 0,_,_,_,h=>h
 | m+1,_,_,_,h=>⟨h.1,λi hi=>wpOp_mono (λ_ _ h'=>Hr m _ _ _ h'.2) (h.2 i hi)⟩
theorem TS.out {S:World->Prop}{C:List Nat}{listed:Array Bool}{w:World}(h:TS S C listed w)(hn:∀k∈C,listed.getD k false=false):S w:=by
 rcases h with h|⟨k,hk,hl⟩
 ·exact h
 ·rw[hn k hk]at hl;cases hl
theorem Whj {k i:Nat}{o:Oper}(ho:ops[k]?=some o)(hno:∀e∈o.after,Region.binds .any e=true->e.on≠i):WgR ops k i=false:=by
 unfold WgR;rw[ho];simp only;rw[zAP];intro e he hb;simp only[zF]at hb;exact hno e (by simpa using he) hb.1 (zAE hb.2)
theorem TS.drop {S:World->Prop}{C:List Nat}{listed:Array Bool}{w:World}{i j:Nat}(hij:i≠j)(hi:∀k∈C,k≠i)(h:TS S C ((listed.setIfInBounds i true).setIfInBounds j true) w):TS S C (listed.setIfInBounds j true) w:=by
 refine h.imp id ?_;rintro⟨k,hk,hl⟩;refine⟨k,hk,?_⟩;rw[Array.setIfInBounds_comm _ _ hij,getD_set_ne false (Ne.symm (hi k hk))]at hl;exact hl
theorem Web {S T:World->Prop}{C:List Nat}{i:Nat}{oi:Oper}{v:Value}(hi:ops[i]?=some oi)(hsel:∀(j:Nat) (o:Oper) cs b,ops[j]?=some o->o.op≠.select cs b)
 (hQ:∀c a w,Q (.panic c) (a.put oi.dst v) w->Q (.panic c) a w) (hiC:∀k∈C,k≠i) (hT:(∀w,T w)\/((∀w,S w->T w)/\∀k∈C,WgR ops k i=true)) :
 ∀(m:Nat) (listed:Array Bool) (a:Act) (w:World),
  (∀j oj,ops[j]?=some oj->j≠i->listed.getD j true=false->(∀e∈oj.after,Region.binds .any e=true->e.on≠i)->oi.apart ops oj=true) →
  i∈Region.ready .any ops listed->((∀w,T w)\/∀k∈C,listed.getD k false=false)->YieldsIf P ops T oi v a->TS S C listed w →
  anyS P ops Q S C m (listed.setIfInBounds i true) (a.put oi.dst v) w->anyS P ops Q S C (m+1) listed a w:=by
 have here:∀{listed:Array Bool} {a:Act} {w:World} {K:Act->World->Prop},((∀w,T w)\/∀k∈C,listed.getD k false=false)->YieldsIf P ops T oi v a->TS S C listed w->K (a.put oi.dst v) w →
  wpOp P ops Q i (λa' w'=>TS S C (listed.setIfInBounds i true) w'/\K a' w') a w:=by
  intro listed a w K hn hy hS hK;refine hy.wpOp hi ?_ ⟨?_,hK⟩
  ·rcases hT with hT|⟨hT,_⟩
   ·exact hT w
   ·rcases hn with hn|hn
    ·exact hn w
    ·exact hT w (hS.out hn)
  ·refine hS.imp id ?_;rintro⟨k,hk,hl⟩;exact⟨k,hk,by rw[getD_set_ne false (Ne.symm (hiC k hk))];exact hl⟩
 intro m
 induction m with
 | zero=>
  intro listed a w _ hr hn hy hS H;refine⟨λh=>by rw[h]at hr;simp at hr,λj hj=>?_⟩;by_cases hji:j=i
  ·rw[hji];exact here hn hy hS H
  ·have h1:=ready_mono hj hji;rw[H.1]at h1;simp at h1
 | succ m ih=>
  intro listed a w hfree hr hn hy hS H;refine⟨λh=>by rw[h]at hr;simp at hr,λj hj=>?_⟩;by_cases hji:j=i
  ·rw[hji];exact here hn hy hS H
  ·obtain⟨hun,oj,hoj,hdep⟩:=mem_ready.1 hj;have hiun:=(mem_ready.1 hr).1;have hno:∀e∈oj.after,Region.binds .any e=true->e.on≠i:=by
    intro e he hb heq;have h1:=hdep e he hb;rw[heq]at h1;rw[zCJ]at h1 hiun;cases hg:listed[i]? with
    | none=>rw[hg]at h1;cases h1
    | some b=>rw[hg]at h1 hiun;simp only[zBY]at h1 hiun;rw[hiun]at h1;cases h1
   have h2:=wpOp_putIf hoj (hfree j oj hoj hji hun hno) (λcs b=>hsel i oi cs b hi) (λcs b=>hsel j oj cs b hoj) hQ hy (H.2 j (ready_mono hj hji));refine wpOp_mono (λa' w' h3=>?_) h2;have hTS:=h3.2.1.drop (Ne.symm hji) hiC;refine⟨hTS,ih _ a' w' (λk ok hk hki hku hkn=>?_) (ready_mono hr (Ne.symm hji)) ?_ h3.1 hTS ?_⟩
   ·refine hfree k ok hk hki ?_ hkn;by_cases hjk:j=k
    ·rw[←hjk];exact hun
    ·rwa [getD_set_ne true hjk]at hku
   ·rcases hT with hT|⟨_,hw⟩
    ·exact .inl hT
    refine hn.imp id λhn k hk=>?_;by_cases hjk:j=k
    ·exfalso;have:=hw k hk;rw[←hjk,Whj hoj hno]at this;cases this
    ·rw[getD_set_ne false hjk];exact hn k hk
   ·rw[Array.setIfInBounds_comm _ _ hji];exact h3.2.2
theorem Hj {S T:World->Prop}{C:List Nat}{i m:Nat}{oi:Oper}{v:Value}{listed:Array Bool}{a:Act}{w:World}(hi:ops[i]?=some oi)(hs:Region.noSelect ops=true)(hf:Region.free .any ops listed i=true)
 (hr:i∈Region.ready .any ops listed) (hQ:∀c a w,Q (.panic c) (a.put oi.dst v) w->Q (.panic c) a w) (hiC:C.contains i=false)
 (hT:(∀w,T w)\/((∀w,S w->T w)/\∀k∈C,WgR ops k i=true)) (hn:(∀w,T w)\/∀k∈C,listed.getD k false=false) (hy:YieldsIf P ops T oi v a) (hS:TS S C listed w)
 (h:anyS P ops Q S C m (listed.setIfInBounds i true) (a.put oi.dst v) w):anyS P ops Q S C (m+1) listed a w:=
 Web hi (Region.noSelect_spec hs) hQ (λk hk e=>by subst e;rw[zEV.2 hk]at hiC;cases hiC) hT m listed a w (Region.free_spec hi hf) hr hn hy hS h
theorem Whr {S:World->Prop}{C:List Nat}{rs:List Nat}{m:Nat}{listed:Array Bool}{a:Act}{w:World}(hr:Region.ready .any ops listed=rs)(hne:rs≠[])
 (h:∀i∈rs,wpOp P ops Q i (λa' w'=>TS S C (listed.setIfInBounds i true) w'/\anyS P ops Q S C m (listed.setIfInBounds i true) a' w') a w):anyS P ops Q S C (m+1) listed a w:=
 ⟨λh0=>absurd (hr▸h0) hne,hr▸h⟩
theorem WfK {S:World->Prop}{C:List Nat}{listed:Array Bool}{a:Act}{w:World}(hr:Region.ready .any ops listed=[])(h:Q .normal a w):∀m,anyS P ops Q S C m listed a w
 | 0=>⟨hr,h⟩
 | _+1=>⟨λ_=>h,by rw[hr];simp⟩
theorem VF {S:World->Prop}{C:List Nat}{id:Nat}{a:Act}{w:World}(hm:P.follows .mixedOrders=true)
 (h:anyS P ops Q S C ops.size (Array.replicate ops.size false) a {w with drawn:=w.drawn+1}):(Code.region id ops true).wp P Q a w:=
 wp_region_any hm (Hr _ _ _ _ h)
end Go.Vc
namespace Go.Vc
open Go
def UN (P:Program):Op->Bool
 | .load _ _=>false
 | .lookup .. => false
 | .typeAssert .. => false
 | .convert s _ _=>match P.underlying s with
  | some (.slice _)=>false
  | _=>true
 | .call c=>match c.callee,c.argTypes.toList with
  | .builtin .len,[t]=>match P.underlying t with
   | some (.map _ _)=>false
   | some _=>true
   | none=>false
  | .builtin .cap,_=>true
  | .builtin .max,_=>true
  | .builtin .min,_=>true
  | _,_=>false
 | o=>isQ o
theorem Wck {op:BinOp}{k:IntKind}{x y:Int}{K:Value->Prop}(h:arK op k x y K):∃v,K v/\arK op k x y (· = v):=by
 cases op<;>simp only[arK,Ar,Nz,Nn]at h ⊢
 all_goals first
  | exact⟨_,h,rfl⟩
  | exact⟨_,h.2,h.1,rfl⟩
theorem Ub {op:BinOp}{b:Bool}{K:Value->Prop}(h:eqK op b K):∃v,K v/\eqK op b (· = v):=by
 cases op<;>simp only[eqK]at h ⊢ <;> first|exact h.elim|exact⟨_,h,rfl⟩
theorem Whf {P:Program}{op:BinOp}{t:Nat}{x y:Value}{K:Value->Prop}(h:nilK P op t x y K):∃v,K v/\nilK P op t x y (· = v):=by
 unfold nilK at h ⊢;split at h
 ·obtain⟨v,h1,h2⟩:=Ub h;exact⟨v,h1,by simp only[*]⟩
 ·obtain⟨v,h1,h2⟩:=Ub h;exact⟨v,h1,by simp only[*]⟩
 ·obtain⟨v,h1,h2⟩:=Ub h;exact⟨v,h1,by simp only[*]⟩
 ·obtain⟨hi,h⟩:=h;obtain⟨v,h1,h2⟩:=Ub h;exact⟨v,h1,by simp only[*];trivial⟩
 ·exact h.elim
theorem Wiu {P:Program}{op:BinOp}{t:Nat}{x y:Value}{K:Value->Prop}(h:binK P op t x y K):∃v,K v/\binK P op t x y (· = v):=by
 unfold binK at h ⊢;split at h
 ·split at h
  ·obtain⟨v,h1,h2⟩:=Wck h;exact⟨v,h1,by simpa[*]using h2⟩
  ·rename_i hne;cases op<;>simp only at h
   all_goals try exact h.elim
   ·obtain⟨v,h1,h2⟩:=Wck h;exact⟨v,h1,by simpa[hne]using h2⟩
   ·obtain⟨v,h1,h2⟩:=Wck h;exact⟨v,h1,by simpa[hne]using h2⟩
 ·split at h
  ·obtain⟨v,h1,h2⟩:=Ub h;exact⟨v,h1,by simp only[*]⟩
  ·exact h.elim
 ·cases op<;>simp only at h ⊢ <;> first|exact h.elim|exact⟨_,h,rfl⟩
 ·exact h.elim
theorem Wij {P:Program}{op:BinOp}{t:Nat}{xs ys:List Value}{K:Value->Prop}(h:aggK P op t xs ys K):∃v,K v/\aggK P op t xs ys (· = v):=by
 unfold aggK at h ⊢;split at h
 case h_3=>exact h.elim
 all_goals
  rename_i hu;rw[WC]at h;obtain⟨hc,h⟩:=h;split at h
  case h_2=>exact h.elim
  rename_i b hb;obtain⟨v,h1,h2⟩:=Ub h;exact⟨v,h1,by simp only[hu,WC,hb];exact⟨hc,h2⟩⟩
theorem Wfe {P:Program}{op:BinOp}{t:Nat}{y:Operand}{vx vy:Value}{K:Value->Prop}(h:WgT P op t y vx vy K):∃v,K v/\WgT P op t y vx vy (· = v):=by
 unfold WgT at h ⊢;cases hn:Wa7 y
 ·rw[hn]at h;simp only[cond_false]at h ⊢;split at h
  ·exact Wij h
  ·exact Wiu h
 ·rw[hn]at h;exact Whf h
theorem GB {o:Option Value}{K:Value->Prop}(h:wv o K):∃v,K v/\wv o (· = v):=by
 obtain⟨v,rfl,hK⟩:=Wo h;exact⟨v,hK,rfl⟩
theorem Wfc {P:Program}{t off:Nat}{cs:List Value}{K:Value->Prop}(h:Wet P t cs off K):∃v,K v/\Wet P t cs off (· = v):=by
 unfold Wet at h ⊢;split at h
 case h_2=>exact h.elim
 rename_i d ti hu hi;cases hd:Vn d
 ·rw[hd]at h;obtain⟨v,h1,h2⟩:=GB h;exact⟨v,h1,by simpa[hd]using h2⟩
 ·rw[hd]at h;exact⟨_,h,by simp⟩
theorem WhW {P:Program}{t:Nat}{ps:List (Nat×Value)}{K:Value->Prop}(h:bldK P t ps K):∃v,K v/\bldK P t ps (· = v):=by
 unfold bldK at h ⊢;split at h
 ·split at h
  ·rename_i z hz;have key:∀{ps:List (Nat×Value)} {raw:Nat->Bool} {A:Prop},ifsR raw ps A->A/\∀B:Prop,B->ifsR raw ps B:=by
    intro ps raw
    induction ps with
    | nil=>intro A h;exact⟨h,λB hB=>hB⟩
    | cons x ps ih=>
     intro A h;simp only[ifsR]at h ⊢;cases hr:raw x.1
     ·rw[hr]at h;exact ih h
     ·rw[hr]at h;simp only[cond_true]at h ⊢;exact⟨(ih h.2).1,λB hB=>⟨h.1,(ih h.2).2 B hB⟩⟩
   obtain⟨h,hout⟩:=key h;split at h
   ·rename_i cs hf;rw[WC]at h;refine⟨_,h.2,?_⟩;simp only[*];refine hout _ ?_;rw[WC]
    first|exact⟨h.1,trivial⟩|exact⟨rfl,trivial⟩
   ·exact h.elim
  ·exact h.elim
 ·split at h
  ·split at h
   ·refine⟨_,h,?_⟩;simp only[*]
   ·exact h.elim
  ·exact h.elim
 ·exact h.elim
theorem Whx {P:Program}{t:Nat}{x:Value}{lo hi mx:Option Value}{K:Value->Prop}(h:slcK P t x lo hi mx K):∃v,K v/\slcK P t x lo hi mx (· = v):=by
 unfold slcK at h ⊢;split at h
 case h_2=>exact h.elim
 rename_i e a n c hu;split at h
 case h_2=>exact h.elim
 rename_i ti hi';simp only at h ⊢;split at h
 case h_2=>exact h.elim
 rename_i l hh m hlo hhi hmx;obtain⟨h0,h1,h2,h3,hK⟩:=h;refine⟨_,hK,?_⟩;simp only[hu,hi',hlo,hhi,hmx];exact⟨h0,h1,h2,h3,rfl⟩
theorem WcE:∀{vs:List Value} {v:Value} {b:Bool} {K:Value->Prop},mmK b v vs K->∃z,K z/\mmK b v vs (· = z)
 | [],v,b,K,h=>⟨v,by simpa[mmK]using h,by simp[mmK]⟩
 | u::vs,v,b,K,h=>by
  cases v<;>cases u<;>simp only[mmK]at h ⊢ <;> try exact h.elim
  exact WcE h
theorem WiV {P:Program}{o:Op}(hp:UN P o=true){ρ:Env}{h:Hp}{K:Value->Prop}(hk:qK P o ρ h K):∃v,K v/\∀h',qK P o ρ h' (· = v):=by
 unfold qK at hk;split at hk
 case h_1 x=>obtain⟨v,h1,h2⟩:=GB hk;exact⟨v,h1,λ_=>h2⟩
 case h_2 x=>obtain⟨v,h1,h2⟩:=GB hk;exact⟨v,h1,λ_=>h2⟩
 case h_3 c x y=>
  obtain⟨v,hv,hk⟩:=Wo hk;split at hk
  ·obtain⟨u,h1,h2⟩:=GB hk;exact⟨u,h1,λ_=>by simpa only[qK,hv,wv]using h2⟩
  ·obtain⟨u,h1,h2⟩:=GB hk;exact⟨u,h1,λ_=>by simpa only[qK,hv,wv]using h2⟩
  ·exact hk.elim
 case h_4=>simp[UN]at hp
 case h_5 x=>
  obtain⟨v,hv,hk⟩:=Wo hk;split at hk
  ·obtain⟨ad,rfl,hK⟩:=hk;exact⟨_,hK,λ_=>by simp only[qK,hv,wv];exact⟨ad,rfl,rfl⟩⟩
  ·exact⟨_,hk,λ_=>by simp only[qK,hv,wv]⟩
  ·exact hk.elim
 case h_6 op t x y yt=>
  obtain⟨vx,hx,hk⟩:=Wo hk;obtain⟨vy,hy,hk1⟩:=Wo hk;obtain⟨v,h1,h2⟩:=Wfe hk1;exact⟨v,h1,λ_=>by simpa only[qK,hx,hy,wv]using h2⟩
 case h_7 op t x=>
  obtain⟨vx,hx,hk⟩:=Wo hk;split at hk
  ·exact⟨_,hk,λ_=>by simp only[qK,hx,wv]⟩
  ·exact⟨_,hk,λ_=>by simp only[qK,hx,wv,Ar]⟩
  ·exact hk.elim
 case h_8 s d x=>
  obtain⟨vx,hx,hk⟩:=Wo hk;split at hk
  ·rename_i h1 h2;exact⟨_,hk,λ_=>by simp only[qK,hx,wv,h1,h2,Ar]⟩
  ·rename_i h1 h2;exact⟨_,hk,λ_=>by simp only[qK,hx,wv,h1,h2]⟩
  ·rename_i h1 h2;simp[UN,h1]at hp
  ·exact hk.elim
 case h_9 s x f=>
  obtain⟨vx,hx,hk⟩:=Wo hk;obtain⟨fs,fd,hs,hfd,hk⟩:=U5 hk;split at hk
  ·rw[WC]at hk;exact⟨_,hk.2,λ_=>by simp only[qK,hx,wv,fldK,hs,hfd,WC];exact⟨hk.1,trivial⟩⟩
  ·exact hk.elim
 case h_10 s x f=>
  obtain⟨vx,hx,hk⟩:=Wo hk;obtain⟨fs,fd,hs,hfd,hk⟩:=U5 hk;split at hk
  ·obtain⟨v,h1,h2⟩:=Wfc hk;exact⟨v,h1,λ_=>by simpa only[qK,hx,wv,fldK,hs,hfd]using h2⟩
  ·exact hk.elim
 case h_11 t x i=>
  obtain⟨vx,hx,hk⟩:=Wo hk;obtain⟨vi,hi,hk⟩:=Wo hk;split at hk
  ·have hu:=(by assumption:P.underlying t=some _);rw[WC]at hk;obtain⟨h1,ad,rfl,h2,h3,hK⟩:=hk;exact⟨_,hK,λ_=>by simp only[qK,hx,hi,wv,hu,WC];exact⟨h1,ad,rfl,h2,h3,rfl⟩⟩
  ·have hu:=(by assumption:P.underlying t=some _);rw[WC]at hk;obtain⟨h1,h2,h3,hK⟩:=hk;exact⟨_,hK,λ_=>by simp only[qK,hx,hi,wv,hu,WC];exact⟨h1,h2,h3,rfl⟩⟩
  ·exact hk.elim
 case h_12 t x i=>
  obtain⟨vx,hx,hk⟩:=Wo hk;obtain⟨vi,hi,hk⟩:=Wo hk;split at hk
  ·have hu:=(by assumption:P.underlying t=some _);obtain⟨b,h1,h2,hK⟩:=hk;exact⟨_,hK,λ_=>by simp only[qK,hx,hi,wv,hu];exact⟨b,h1,h2,rfl⟩⟩
  ·exact hk.elim
 case h_13=>simp[UN]at hp
 case h_14 t i=>
  obtain⟨vx,hx,hk⟩:=Wo hk;split at hk
  ·obtain⟨v,h1,h2⟩:=GB hk;exact⟨v,h1,λ_=>by simpa only[qK,hx,wv]using h2⟩
  ·exact hk.elim
 case h_15 fn x y=>
  split at hk
  ·rename_i va vb h1 h2;exact⟨_,hk,λ_=>by simp only[qK,h1,h2]⟩
  ·exact hk.elim
 case h_16 t ps=>
  split at hk
  ·rename_i vs h1;obtain⟨v,h2,h3⟩:=WhW hk;exact⟨v,h2,λ_=>by simpa only[qK,h1]using h3⟩
  ·exact hk.elim
 case h_17 t x lo hi mx=>
  obtain⟨vx,hx,hk⟩:=Wo hk;split at hk
  ·rename_i l h m h1 h2 h3;obtain⟨v,h4,h5⟩:=Whx hk;exact⟨v,h4,λ_=>by simpa only[qK,hx,wv,h1,h2,h3]using h5⟩
  ·exact hk.elim
 case h_18 t x=>
  obtain⟨vx,hx,hk⟩:=Wo hk;rw[WC]at hk;exact⟨_,hk.2,λ_=>by simp only[qK,hx,wv,WC];exact⟨hk.1,trivial⟩⟩
 case h_19=>simp[UN]at hp
 case h_20 c=>
  split at hk
  ·rename_i x t hc ha ht;unfold lenK at hk;split at hk
   ·exact⟨_,hk,λ_=>by simp only[qK,hc,ha,ht,lenK, *]⟩
   ·exact⟨_,hk,λ_=>by simp only[qK,hc,ha,ht,lenK, *]⟩
   ·exact⟨_,hk,λ_=>by simp only[qK,hc,ha,ht,lenK, *]⟩
   ·rename_i hu;simp only[UN,hc,ht,hu]at hp;cases hp
   ·exact hk.elim
  ·rename_i hc ha ht;split at hk
   ·exact⟨_,hk,λ_=>by simp only[qK,hc,ha,ht, *]⟩
   ·exact hk.elim
  ·rename_i hc ha;obtain⟨v,h1,h2⟩:=WcE hk;exact⟨v,h1,λ_=>by simpa only[qK,hc,ha]using h2⟩
  ·rename_i hc ha;obtain⟨v,h1,h2⟩:=WcE hk;exact⟨v,h1,λ_=>by simpa only[qK,hc,ha]using h2⟩
  ·exact hk.elim
 ·exact hk.elim
def LdH (S:Hp->Prop)(c:CK)(a:Addr)(K:c.T->Prop):Prop:=∃x,(∀h,S h->cell h a=some (c.v x))/\K x
def LdHN (S:Hp->Prop):List CK->Addr->Nat->(List Value->Prop)->Prop
 | [],_,_,K=>K []
 | c::cs,a,i,K=>LdH S c (a.add i) λx=>LdHN S cs a (i+1) λvs=>K (c.v x::vs)
def LkH (S:Hp->Prop)(k:IntKind)(c:CK)(m:Option Nat)(n:Int)(K:Option c.T->Prop):Prop:=∃l,(∀h,S h->MapO h m k c l)/\K (mget l n)
def WlM (S:Hp->Prop)(k:IntKind)(c:CK)(m:Option Nat)(K:Int->Prop):Prop:=∃l,(∀h,S h->MapO h m k c l)/\K (l.length:Int)
def qS (P:Program)(S:Hp->Prop)(o:Op)(ρ:Env)(K:Value->Prop):Prop:=
 match o with
 | .load t a=>wv (ev ρ a) λv=>match v,skOf P t with
  | .pointer (some a),some (.one c)=>chk (P.info? t).isSome (LdH S c a λx=>K (c.v x))
  | .pointer (some a),some (.agg cs)=>chk (P.cellsOf t==cs.length) (chk (P.info? t).isSome (LdHN S cs a 0 λvs=>K (.agg vs.toArray)))
  | _,_=>False
 | .lookup t x i ok=>wv (ev ρ x) λvx=>wv (ev ρ i) λvi=>match P.underlying t,vx,vi with
  | some (.map kt et),.map m,.int k n=>match P.underlying kt,ekOf P et,P.info? et with
   | some (.int k'),some (.one c),some ti=>match ti.zero with
    | some z=>if k=k' then unv c z λz=>LkH S k c m n λo=>K (bif ok then .tuple #[c.v (o.getD z),.bool o.isSome]else c.v (o.getD z))else False
    | none=>False
   | _,_,_=>False
  | _,_,_=>False
 | .call c=>match c.callee,evs ρ c.args.toList,c.argTypes.toList with
  | .builtin .len,some [.map m],[t]=>Wbj P t λk c=>WlM S k c m λz=>K (.int .i64 z)
  | _,_,_=>False
 | _=>False
theorem Wdy {S:Hp->Prop}:∀{cs:List CK} {a:Addr} {i:Nat} {K:List Value->Prop},LdHN S cs a i K->∃vs,K vs/\∀h,S h->LdN cs a i h (· = vs)
 | [],a,i,K,hk=>⟨[],hk,λh _=>rfl⟩
 | c::cs,a,i,K,⟨x,hx,hk⟩=>by
  obtain⟨vs,hK,hall⟩:=Wdy hk;refine⟨c.v x::vs,hK,λh hs=>?_⟩;have h1:LdN cs a (i+1) h λus=>c.v x::us=c.v x::vs:=by
   have key:∀{cs:List CK} {i:Nat} {K K':List Value->Prop},(∀vs,K vs->K' vs)->LdN cs a i h K->LdN cs a i h K':=by
    intro cs
    induction cs with
    | nil=>intro i K K' hh hk;exact hh _ hk
    | cons c cs ih=>
     intro i K K' hh hk;simp only[LdN]at hk ⊢;cases c<;>(obtain⟨y,hy,hk⟩:=hk;exact⟨y,hy,ih (λvs hv=>hh _ hv) hk⟩)
   exact key (λus hu=>by rw[hu]) (hall h hs)
  simp only[LdN];have hc:=hx h hs;cases c<;>exact⟨x,hc,h1⟩
theorem WdR {P:Program}{t:Nat}{K:IntKind->CK->Prop}(h:Wbj P t K):∃kt et k c,P.underlying t=some (.map kt et)/\P.underlying kt=some (.int k)/\ekOf P et=some (.one c)/\K k c:=by
 unfold Wbj at h;split at h
 ·split at h
  ·exact⟨_,_,_,_,by assumption,by assumption,by assumption,h⟩
  ·exact h.elim
 ·exact h.elim
theorem WgZ {P:Program}{S:Hp->Prop}{o:Op}{ρ:Env}{K:Value->Prop}(hk:qS P S o ρ K):∃v,K v/\∀h,S h->qK P o ρ h (· = v):=by
 unfold qS at hk;split at hk
 ·obtain⟨va,ha,hk⟩:=Wo hk;split at hk
  ·rename_i ad c hs;rw[WC]at hk;obtain⟨h1,x,hx,hK⟩:=hk;refine⟨_,hK,λh hS=>?_⟩;simp only[qK,ha,wv,hs,WC];refine⟨h1,?_⟩;have hc:=hx h hS;cases c<;>exact⟨x,hc,rfl⟩
  ·rename_i ad cs hs;rw[WC,WC]at hk;obtain⟨h1,h2,hk⟩:=hk;obtain⟨vs,hK,hall⟩:=Wdy hk;refine⟨_,hK,λh hS=>?_⟩;simp only[qK,ha,wv,hs,WC];refine⟨h1,h2,?_⟩;have key:∀{cs:List CK} {i:Nat} {K K':List Value->Prop},(∀vs,K vs->K' vs)->LdN cs ad i h K->LdN cs ad i h K':=by
    intro cs
    induction cs with
    | nil=>intro i K K' hh hk;exact hh _ hk
    | cons c cs ih=>
     intro i K K' hh hk;simp only[LdN]at hk ⊢;cases c<;>(obtain⟨y,hy,hk⟩:=hk;exact⟨y,hy,ih (λvs hv=>hh _ hv) hk⟩)
   exact key (λus hu=>by rw[hu]) (hall h hS)
  ·exact hk.elim
 ·obtain⟨vx,hx,hk1⟩:=Wo hk;obtain⟨vi,hi,hk2⟩:=Wo hk1;clear hk hk1;split at hk2
  case h_2=>exact hk2.elim
  rename_i kt et m k n hu;split at hk2
  case h_2=>exact hk2.elim
  rename_i k' c ti hkk hs hti;split at hk2
  case h_2=>exact hk2.elim
  rename_i z hz;split at hk2
  case isFalse=>exact hk2.elim
  rename_i e;subst e;obtain⟨zx,rfl,l,hl,hK⟩:=Vk hk2;refine⟨_,hK,λh hS=>?_⟩;simp only[qK,hx,hi,wv,lkK,hu,hkk,hs,hti,hz,zP];have hm:=hl h hS;rw[WlA];exact⟨l,hm,rfl⟩
 ·split at hk
  ·rename_i m t hc ha ht;obtain⟨kt,et,k,c,hu,hku,hsk,l,hl,hK⟩:=WdR hk;refine⟨_,hK,λh hS=>?_⟩;simp only[qK,hc,ha,ht,lenK,hu,hku,hsk];exact⟨l,hl h hS,rfl⟩
  ·exact hk.elim
 ·exact hk.elim
structure DInv (ops:Array Oper) (listed:Array Bool) (D:List Nat):Prop where
 size:listed.size=ops.size
 at_:∀j,j<ops.size->listed[j]?=some (D.contains j)
 lt:∀j∈D,j<ops.size
theorem DInv.getD {ops:Array Oper}{listed:Array Bool}{D:List Nat}(h:DInv ops listed D){j:Nat}(hj:j<ops.size)(b:Bool):listed.getD j b=D.contains j:=by
 rw[zCJ,h.at_ j hj];rfl
theorem DInv.getD' {ops:Array Oper}{listed:Array Bool}{D:List Nat}(h:DInv ops listed D)(j:Nat):listed.getD j false=D.contains j:=by
 rcases zAB j ops.size with hj|hj
 ·exact h.getD hj false
 ·rw[zCJ,Array.getElem?_eq_none (by rw[h.size];exact hj)]
  symm
  simp only[Option.getD_none,zCT,decide_eq_false_iff_not];exact λhm=>by have:=h.lt j hm;omega
theorem DInv.start (ops:Array Oper):DInv ops (Array.replicate ops.size false) []:=
 ⟨by simp,λj hj=>by simp[hj],λj hj=>by simp at hj⟩
theorem DInv.cons {ops:Array Oper}{listed:Array Bool}{D:List Nat}(h:DInv ops listed D){i:Nat}(hi:i<ops.size):DInv ops (listed.setIfInBounds i true) (i::D):=by
 refine⟨by simp[h.size],λj hj=>?_,λj hj=>?_⟩
 ·by_cases hij:i=j
  ·subst hij;simp[h.size,hj]
  ·rw[zEP hij,h.at_ j hj];have:(j==i)=false:=by simpa using λe=>hij e.symm
   simp only[List.contains_cons,this,zEW]
 ·rcases zX.1 hj with rfl|h'
  ·exact hi
  ·exact h.lt j h'
def rdyD (ops:Array Oper)(D:List Nat)(i:Nat):Bool:=match ops[i]? with
 | none=>false
 | some o=>!D.contains i&&o.after.toList.all λe=>!Region.binds .any e||D.contains e.on
def Wjt (ops:Array Oper)(D:List Nat)(i:Nat):Bool:=match ops[i]? with
 | none=>false
 | some oi=>(List.range ops.size).all λj=>Nat.beq j i||(D.contains j||match ops[j]? with
  | some oj=>oj.after.toList.any (λe=>Region.binds .any e&&Nat.beq e.on i)||oi.apart ops oj
  | none=>true)
theorem WcN {ops:Array Oper}{D:List Nat}{i:Nat}(h:rdyD ops D i=true):i<ops.size:=by
 unfold rdyD at h;split at h
 ·cases h
 ·rename_i o ho;exact(zAK.1 ho).1
theorem Hg {ops:Array Oper}{listed:Array Bool}{D:List Nat}(h:DInv ops listed D)(i:Nat):i∈Region.ready .any ops listed↔rdyD ops D i=true:=by
 rw[mem_ready];unfold rdyD;cases ho:ops[i]? with
 | none=>simp
 | some o=>
  have hi:i<ops.size:=(zAK.1 ho).1;simp only[h.getD hi,Option.some.injEq,exists_eq_left',zF,zAO,zw,zBH];constructor
  ·rintro⟨h1,h2⟩;refine⟨h1,λe he=>?_⟩;cases hb:Region.binds .any e
   ·exact .inl rfl
   ·right;have:=h2 e (by simpa using he) hb
    rwa [h.getD']at this
  ·rintro⟨h1,h2⟩;refine⟨h1,λe he hb=>?_⟩;have:=h2 e (by simpa using he);rw[hb]at this;rw[h.getD'];simpa using this
theorem Uk {ops:Array Oper}{listed:Array Bool}{D:List Nat}(h:DInv ops listed D){i:Nat}(hf:Wjt ops D i=true):Region.free .any ops listed i=true:=by
 unfold Wjt at hf;unfold Region.free;cases ho:ops[i]? with
 | none=>rw[ho]at hf;cases hf
 | some oi=>
  rw[ho]at hf;simp only[zw,zW]at hf ⊢;intro j hj;have:=hf j hj;rw[h.getD hj];simp only[zBH]at this ⊢;rcases this with h1|h1|h1
  ·exact .inl (.inl (by simpa using zAE h1))
  ·exact .inl (.inr h1)
  ·right;split at h1
   ·rename_i oj hoj;simp only[hoj,zBH]at h1 ⊢;rcases h1 with h1|h1
    ·left;rw[zl]at h1;obtain⟨e,he,hb⟩:=h1;simp only[zF]at hb;rw[Array.any_eq_true'];exact⟨e,by simpa using he,by simp[hb.1,zAE hb.2]⟩
    ·exact .inr h1
   ·rename_i hoj;simp[hoj]
inductive SH where
 | done
 | take (i:Nat) (r:SH)
 | split (c:Nat) (t f:SH)
 | all (l:List (Nat×SH))
def Sx (sm:Bool)(S:Hp->Prop)(h:Hp)(X:Prop):Prop:=match sm with
 | true=>S h/\X
 | false=>X
def shut (C D:List Nat):Bool:=C.any λk=>D.contains k
def allB (f:Nat->SH->Prop):List (Nat×SH)->Prop
 | []=>True
 | [x]=>f x.1 x.2
 | x::y::l=>f x.1 x.2/\allB f (y::l)
def Vh (P:Program)(N:Nat)(ops:Array Oper)(sm:Bool)(C:List Nat)(S:Hp->Prop)(K:Env->Hp->Prop):Nat->Nat->SH->List Nat->Env->Hp->Prop
 | 0,_,_,_,_,_=>False
 | n+1,_,.done,D,ρ,h=>chk ((List.range ops.size).all λj=>D.contains j) (K ρ h)
 | n+1,m+1,.take i r,D,ρ,h=>match ops[i]? with
  | some o=>chk (rdyD ops D i&&(Wjt ops D i&&(WcM N o.dst && !C.contains i)))
   (bif Wcw ops o ρ then Vh P N ops sm C S K n m r (i::D) (ρ.putO o.dst undef) h
    else chk (Hu ops o ρ) (bif UN P o.op then qK P o.op ρ h λv=>Vh P N ops sm C S K n m r (i::D) (ρ.putO o.dst v) h
     else chk (sm&&((C.all λk=>WgR ops k i) && !shut C D)) (qS P S o.op ρ λv=>Vh P N ops sm C S K n m r (i::D) (ρ.putO o.dst v) h)))
  | none=>False
 | n+1,m,.split c t f,D,ρ,h=>V8 ρ (.tmp c) λb=>If b (Vh P N ops sm C S K n m t D (ρ.put c (.bool true)) h) (Vh P N ops sm C S K n m f D (ρ.put c (.bool false)) h)
 | n+1,m+1,.all l,D,ρ,h=>chk ((!l.isEmpty&&l.all λx=>Nat.blt x.1 ops.size)&&((List.range ops.size).all λj=>rdyD ops D j==l.any λx=>Nat.beq x.1 j))
  (allB (λi r=>match ops[i]? with
   | some o=>chk (WcM N o.dst) (bif Wcw ops o ρ then Sx (sm && !shut C (i::D)) S h (Vh P N ops sm C S K n m r (i::D) (ρ.putO o.dst undef) h)
    else chk (Hu ops o ρ) (opK P o.op o.type ρ h λv h'=>Sx (sm && !shut C (i::D)) S h' (Vh P N ops sm C S K n m r (i::D) (ρ.putO o.dst v) h')))
   | none=>False) l)
 | _,_,_,_,_,_=>False
def Held (h:Hp)(body:(Hp->Prop)->Prop):Prop:=∃S:Hp->Prop,S h/\body S
theorem Wc5 {f:Nat->SH->Prop}:∀{l:List (Nat×SH)},allB f l->∀x∈l,f x.1 x.2
 | [],_,x,hx=>by simp at hx
 | [y],h,x,hx=>by simp at hx;subst hx;exact h
 | y::z::l,h,x,hx=>by
  rcases zX.1 hx with rfl|hx
  ·exact h.1
  ·exact Wc5 h.2 x hx
theorem Wbl {ds:List Nat}{ρ ρ':Env}{ops:Array Oper}{i:Nat}{o:Oper}(ho:ops[i]?=some o){v:Value}
 (k:∀j,(ops.toList.filterMap (·.dst)).contains j=false->∀u,(ρ.putO o.dst v) j=some u->ρ' j=some u):∀j,(ops.toList.filterMap (·.dst)).contains j=false->∀u,ρ j=some u->ρ' j=some u:=by
 intro j hj u hu;refine k j hj u ?_;cases hd:o.dst with
 | none=>exact hu
 | some d=>
  simp only[Env.putO,Env.put];cases hb:Nat.beq j d
  ·exact hu
  ·have e:j=d:=zAE hb;subst e;exfalso;simp only[zCT,decide_eq_false_iff_not,zEC,not_exists,not_and]at hj;refine hj o ?_ hd;have:=zFO ho;simpa using this
def TD (S:Hp->Prop)(C D:List Nat)(h:Hp):Prop:=S h\/shut C D=true
theorem TD.ts {S:Hp->Prop}{C D:List Nat}{ops:Array Oper}{listed:Array Bool}{w:World}(hD:DInv ops listed D)(h:TD S C D w.heap):TS (λw=>S w.heap) C listed w:=by
 refine h.imp id λhs=>?_;unfold shut at hs;rw[zl]at hs;obtain⟨k,hk,hc⟩:=hs;exact⟨k,hk,by rw[hD.getD'];exact hc⟩
theorem WhX {C D:List Nat}{ops:Array Oper}{listed:Array Bool}(hD:DInv ops listed D)(h:shut C D=false):∀k∈C,listed.getD k false=false:=by
 intro k hk;unfold shut at h;rw[zAP]at h;rw[hD.getD'];simpa using h k hk
theorem Wgn {C D:List Nat}{i:Nat}(h:shut C D=true):shut C (i::D)=true:=by
 unfold shut at *;rw[zl]at *;obtain⟨k,hk,hc⟩:=h;refine⟨k,hk,?_⟩;rw[zEV]at *;exact zBK _ hc
theorem Wk4 {sm:Bool}{S:Hp->Prop}{C D:List Nat}{h:Hp}{X:Prop}(hs:sm=false->∀h,S h)(hx:Sx (sm && !shut C D) S h X):TD S C D h/\X:=by
 cases hc:shut C D
 ·rw[hc]at hx;simp only[zEX,zDH]at hx;cases sm
  ·exact⟨.inl (hs rfl h),hx⟩
  ·exact⟨.inl hx.1,hx.2⟩
 ·rw[hc]at hx;simp only[Bool.not_true,zCU]at hx;exact⟨.inr hc,hx⟩
theorem ZL {P:Program}{N:Nat}{ops:Array Oper}{sm:Bool}{C:List Nat}{S:Hp->Prop}{K:Env->Hp->Prop}{Qn:Act->World->Prop}(hsel:Region.noSelect ops=true)(hsm:sm=false->∀h,S h):∀(n m:Nat) {sh:SH} {D:List Nat} {ρ:Env} {a:Act} {w:World} {listed:Array Bool},
 Vh P N ops sm C S K n m sh D ρ w.heap->Fits N ρ a->DInv ops listed D->TD S C D w.heap->(∀ρ' a' w',Fits N ρ' a'->Zc w w'->VD ops.toList ρ ρ'->K ρ' w'.heap->Qn a' w') →
 anyS P ops (λe a w=>match e with | .normal=>Qn a w|_=>False) (λw=>S w.heap) C m listed a w
 | 0,m,sh,D,ρ,a,w,listed,h,hf,hD,hS,hK=>(by simp only[Vh]at h)
 | n+1,m,.done,D,ρ,a,w,listed,h,hf,hD,hS,hK=>by
  have h':chk ((List.range ops.size).all λj=>D.contains j) (K ρ w.heap):=by cases m<;>exact h
  rw[WC]at h';refine WfK ?_ (hK ρ a w hf (.refl _) (λ_ _ _ h=>h) h'.2) m;rw[List.eq_nil_iff_forall_not_mem];intro j hj;have hr:=(Hg hD j).1 hj;have:=zw.1 h'.1 j (zW.2 (WcN hr));unfold rdyD at hr;split at hr
  ·cases hr
  ·rw[this]at hr;simp at hr
 | n+1,0,.take i r,D,ρ,a,w,listed,h,hf,hD,hS,hK=>(by simp only[Vh]at h)
 | n+1,m+1,.take i r,D,ρ,a,w,listed,h,hf,hD,hS,hK=>by
  simp only[Vh]at h;split at h
  case h_2=>exact h.elim
  rename_i o ho;rw[WC]at h;obtain⟨hc,h⟩:=h;simp only[zF,zAO]at hc;obtain⟨hrd,hfr,hdst,hiC⟩:=hc;have hi:=WcN hrd;have hready:i∈Region.ready .any ops listed:=(Hg hD i).2 hrd;have hS':TD S C (i::D) w.heap:=hS.imp id Wgn;cases hg:Wcw ops o ρ
  ·rw[hg]at h;simp only[cond_false]at h;rw[WC]at h;obtain⟨hgo,h⟩:=h;have hw:=Zx hf hgo;cases hp:UN P o.op
   ·rw[hp]at h;simp only[cond_false]at h;rw[WC]at h;obtain⟨hc2,h⟩:=h;simp only[zF,zAO,zw]at hc2;obtain⟨v,hk,hall⟩:=WgZ h;refine Hj (T:=λw=>S w.heap) ho hsel (Uk hD hfr) hready (λ_ _ _ h=>h) hiC (.inr ⟨λ_ h=>h,hc2.2.1⟩) (.inr (WhX hD hc2.2.2)) (v:=v) (.inl ⟨hw,λw' hS'=>?_⟩) (hS.ts hD) ?_
    ·obtain⟨u,hr,rfl⟩:=Hh hf.ev o (hall w'.heap hS');exact hr
    ·exact ZL hsel hsm n m hk (hf.put hdst v) (hD.cons hi) hS' λρ' a' w' hf' io ke hk'=>hK ρ' a' w' hf' io (Wbl (ds:=[]) ho ke) hk'
   ·rw[hp]at h;simp only[cond_true]at h;obtain⟨v,hk,hall⟩:=WiV hp h;refine Hj (T:=λ_=>True) ho hsel (Uk hD hfr) hready (λ_ _ _ h=>h) hiC (.inl λ_=>trivial) (.inl λ_=>trivial) (v:=v) (.inl ⟨hw,λw' _=>?_⟩) (hS.ts hD) ?_
    ·obtain⟨u,hr,rfl⟩:=Hh hf.ev o (hall w'.heap);exact hr
    ·exact ZL hsel hsm n m hk (hf.put hdst v) (hD.cons hi) hS' λρ' a' w' hf' io ke hk'=>hK ρ' a' w' hf' io (Wbl (ds:=[]) ho ke) hk'
  ·rw[hg]at h;simp only[cond_true]at h;refine Hj (T:=λ_=>True) ho hsel (Uk hD hfr) hready (λ_ _ _ h=>h) hiC (.inl λ_=>trivial) (.inl λ_=>trivial) (v:=undef) (.inr ⟨Kl hf hg,rfl⟩) (hS.ts hD) ?_;exact ZL hsel hsm n m h (hf.put hdst undef) (hD.cons hi) hS' λρ' a' w' hf' io ke hk'=>hK ρ' a' w' hf' io (Wbl (ds:=[]) ho ke) hk'
 | n+1,m,.split c t f,D,ρ,a,w,listed,h,hf,hD,hS,hK=>by
  have h':V8 ρ (.tmp c) λb=>If b (Vh P N ops sm C S K n m t D (ρ.put c (.bool true)) w.heap) (Vh P N ops sm C S K n m f D (ρ.put c (.bool false)) w.heap):=by cases m<;>exact h
  obtain⟨b,hb,h12⟩:=Vx h';have h1:=λe=>h12.t e;have h2:=λe=>h12.f e;have hbc:ρ c=some (.bool b):=hb;have kk:∀(b':Bool),b=b'->∀ρ',VD ops.toList (ρ.put c (.bool b')) ρ'->VD ops.toList ρ ρ':=by
   intro b' e ρ' k i hi u hu;refine k i hi u ?_;simp only[Env.put];cases hic:Nat.beq i c
   ·exact hu
   ·have e2:i=c:=zAE hic;subst e2;rw[hbc]at hu;simp only[cond_true];rw[←e];exact hu
  cases b
  ·exact ZL hsel hsm n m (h2 rfl) (hf.lit hbc rfl) hD hS λρ' a' w' hf' io ke hk'=>hK ρ' a' w' hf' io (kk false rfl ρ' ke) hk'
  ·exact ZL hsel hsm n m (h1 rfl) (hf.lit hbc rfl) hD hS λρ' a' w' hf' io ke hk'=>hK ρ' a' w' hf' io (kk true rfl ρ' ke) hk'
 | n+1,0,.all l,D,ρ,a,w,listed,h,hf,hD,hS,hK=>(by simp only[Vh]at h)
 | n+1,m+1,.all l,D,ρ,a,w,listed,h,hf,hD,hS,hK=>by
  simp only[Vh]at h;rw[WC]at h;obtain⟨hc,h⟩:=h;simp only[zF,zAO,zw,zW,zS]at hc;obtain⟨⟨hne,hlt⟩,heq⟩:=hc;have hmem:∀j,j∈Region.ready .any ops listed->∃r,(j,r)∈l:=by
   intro j hj;have hr:=(Hg hD j).1 hj;have:=heq j (WcN hr);rw[hr]at this;have:=zl.1 this.symm;obtain⟨x,hx,hb⟩:=this;have e:x.1=j:=zAE hb;exact⟨x.2,by rw[←e];exact hx⟩
  refine Whr (rs:=Region.ready .any ops listed) rfl ?_ λj hj=>?_
  ·intro hnil
   match l,hne with
   | x::l',_=>
    have hx:=Nat.blt_eq.mp (hlt x (by simp));have:=heq x.1 hx;have hany:(x::l').any (λy=>Nat.beq y.1 x.1)=true:=zl.2 ⟨x,by simp,by simp⟩;rw[hany]at this;have:=(Hg hD x.1).2 this;rw[hnil]at this;simp at this
  ·obtain⟨r,hr⟩:=hmem j hj;have h1:=Wc5 h (j,r) hr;simp only at h1;split at h1
   case h_2=>exact h1.elim
   rename_i o ho;have hi:j<ops.size:=(zAK.1 ho).1;rw[WC]at h1;obtain⟨hdst,h1⟩:=h1;unfold wpOp;simp only[ho];cases hg:Wcw ops o ρ
   ·rw[hg]at h1;simp only[cond_false]at h1;rw[WC]at h1;obtain⟨hgo,h1⟩:=h1;rw[zB (Zx hf hgo)];refine .inl (Q5.upon (GF hf.ev o h1) λv w' io hk=>?_);obtain⟨hS',hk⟩:=Wk4 hsm hk;exact⟨hS'.ts (hD.cons hi),ZL hsel hsm n m hk (hf.put hdst v) (hD.cons hi) hS' λρ' a' w'' hf' io' ke hk'=>hK ρ' a' w'' hf' (io.trans io') (Wbl (ds:=[]) ho ke) hk'⟩
   ·rw[hg]at h1;simp only[cond_true]at h1;rw[Kl hf hg];simp only[zZ,zq];obtain⟨hS',hk⟩:=Wk4 hsm h1;exact⟨hS'.ts (hD.cons hi),ZL hsel hsm n m hk (hf.put hdst undef) (hD.cons hi) hS' λρ' a' w'' hf' io' ke hk'=>hK ρ' a' w'' hf' io' (Wbl (ds:=[]) ho ke) hk'⟩
def Wjo (P:Program)(N:Nat)(sm:Bool)(C:List Nat)(sh:SH)(ops:Array Oper)(ρ:Env)(h:Hp)(K:Env->Hp->Prop):Prop:=
 match sm with
 | true=>Held h λS=>Vh P N ops true C S K 400 ops.size sh [] ρ h
 | false=>Vh P N ops false C (λ_=>True) K 400 ops.size sh [] ρ h
theorem Vm {P:Program}{N id:Nat}{ops:Array Oper}{sm:Bool}{C:List Nat}{sh:SH}{K:Env->Hp->Prop}{ρ:Env}{a:Act}{w:World}{Q:Exit->Act->World->Prop}
 (hm:P.follows .mixedOrders=true) (hsel:Region.noSelect ops=true) (h:Wjo P N sm C sh ops ρ w.heap K)
 (hf:Fits N ρ a) (hK:∀ρ' a' w',Fits N ρ' a'->Zc w w'->VD ops.toList ρ ρ'->K ρ' w'.heap->Q .normal a' w'):(Code.region id ops true).wp P Q a w:=by
 refine wp_mono (Q:=λe a w=>match e with | .normal=>Q .normal a w|_=>False) ?_ (λe a w hq=>by cases e<;>first|exact hq|exact hq.elim)
 have hd:Zc w {w with drawn:=w.drawn+1}:=⟨rfl,rfl,rfl,zD _⟩;cases sm
 ·exact VF (S:=λw=>True) hm (ZL (S:=λ_=>True) (w:={w with drawn:=w.drawn+1}) (Qn:=Q .normal) hsel (λ_ _=>trivial) 400 ops.size h hf (DInv.start ops) (.inl trivial) λρ' a' w' hf' io ke hk=>hK ρ' a' w' hf' (hd.trans io) ke hk)
 ·obtain⟨S,hS,h⟩:=h;exact VF hm (ZL (S:=S) (w:={w with drawn:=w.drawn+1}) (Qn:=Q .normal) hsel (λe=>by cases e) 400 ops.size h hf (DInv.start ops) (.inl hS) λρ' a' w' hf' io ke hk=>hK ρ' a' w' hf' (hd.trans io) ke hk)
abbrev Js:=List (Nat×SK)
def ksJ (js:Js):List CK:=ksOf (js.map (·.2))
def WcQ (ρ:Env):Js->Option (List Value)
 | []=>some []
 | (i,.one _)::js=>match ρ i,WcQ ρ js with|some v,some vs=>some (v::vs)|_,_=>none
 | (i,.agg cs)::js=>match ρ i,WcQ ρ js with
  | some (.agg a),some vs=>bif a.size==cs.length then some (a.toList++vs)else none
  | _,_=>none
def apJ (js:Js)(ρ:Env)(J:Fam (ksJ js))(h:Hp):Prop:=match WcQ ρ js with
 | some vs=>apF (ksJ js) J vs h
 | none=>False
def putJ:Env->Js->List Value->Env
 | ρ,[],_=>ρ
 | ρ,(i,.one _)::js,v::vs=>putJ (ρ.put i v) js vs
 | ρ,(i,.one _)::js,[]=>putJ ρ js []
 | ρ,(i,.agg cs)::js,vs=>putJ (ρ.put i (.agg (vs.take cs.length).toArray)) js (vs.drop cs.length)
def Jn (ks:List CK)(K:Fam ks)(body:Fam ks->Prop):Prop:=∃J:Fam ks,Fam.le ks J K/\body J
theorem Fam.le_refl:∀(ks:List CK) (R:Fam ks),Fam.le ks R R
 | [],_=>λ_ h=>h
 | _::cs,_=>λ_=>Fam.le_refl cs _
theorem Jn.intro {ks:List CK}{K:Fam ks}{body:Fam ks->Prop}(h:body K):Jn ks K body:=⟨K,Fam.le_refl ks K,h⟩
def isIn (ds:List Nat)(i:Nat):Bool:=ds.contains i
def Ki (ds:List Nat)(ρ ρ':Env):Prop:=∀i,ds.contains i=false->∀v,ρ i=some v->ρ' i=some v
theorem Ki.trans {d1 d2:List Nat}{a b c:Env}(h:Ki d1 a b)(k:Ki d2 b c):Ki (d1++d2) a c:=by
 intro i hi v hv;simp only[zCT,zM,decide_eq_false_iff_not,not_or]at hi;exact k i (by simpa using hi.2) v (h i (by simpa using hi.1) v hv)
theorem Ki.mono {d1 d2:List Nat}{a b:Env}(h:Ki d1 a b)(hs:∀i,i∈d1->i∈d2):Ki d2 a b:=by
 intro i hi v hv;refine h i ?_ v hv;simp only[zCT,decide_eq_false_iff_not]at hi ⊢;exact λhm=>hi (hs i hm)
theorem Ki.refl (ds:List Nat)(a:Env):Ki ds a a:=λ_ _ _ h=>h
theorem QW (ds:List Nat):∀(js:Js) (ρ:Env) (vs:List Value),(js.all λs=>isIn ds s.1)=true->Ki ds ρ (putJ ρ js vs)
 | [],ρ,vs,_=>by simp only[putJ];exact .refl _ _
 | (i,.one c)::js,ρ,[],h=>by
  simp only[zDB,zF]at h;simp only[putJ];exact QW ds js ρ [] h.2
 | (i,.one c)::js,ρ,v::vs,h=>by
  simp only[zDB,zF]at h;simp only[putJ];intro j hj u hu;refine QW ds js _ vs h.2 j hj u ?_;simp only[Env.put];cases hb:Nat.beq j i
  ·exact hu
  ·have e:j=i:=zAE hb;subst e;simp only[isIn]at h;rw[hj]at h;cases h.1
 | (i,.agg cs)::js,ρ,vs,h=>by
  simp only[zDB,zF]at h;simp only[putJ];intro j hj u hu;refine QW ds js _ _ h.2 j hj u ?_;simp only[Env.put];cases hb:Nat.beq j i
  ·exact hu
  ·have e:j=i:=zAE hb;subst e;simp only[isIn]at h;rw[hj]at h;cases h.1
theorem Ky {N:Nat}:∀(js:Js) {ρ ρ':Env} {a:Act} {vs:List Value},Fits N ρ a->Fits N ρ' a->WcQ ρ' js=some vs->Fits N (putJ ρ js vs) a
 | [],ρ,ρ',a,vs,h,_,_=>h
 | (i,.one c)::js,ρ,ρ',a,vs,h,h',hv=>by
  simp only[WcQ]at hv;split at hv
  ·rename_i v vs' h1 h2;cases hv;simp only[putJ];refine Ky js ⟨h.defers,h.size,λj u hu=>?_⟩ h' h2;simp only[Env.put]at hu;cases hb:Nat.beq j i
   ·rw[hb]at hu;exact h.at_ j u hu
   ·have e:j=i:=zAE hb;subst e;rw[hb]at hu;simp only[cond_true,Option.some.injEq]at hu;subst hu;exact h'.at_ j _ h1
  ·cases hv
 | (i,.agg cs)::js,ρ,ρ',a,vs,h,h',hv=>by
  simp only[WcQ]at hv;split at hv
  ·rename_i ar vs' h1 h2;cases hs:(ar.size==cs.length)
   ·rw[hs]at hv;cases hv
   ·rw[hs]at hv;simp only[cond_true,Option.some.injEq]at hv;subst hv;have hlen:ar.toList.length=cs.length:=by simpa using hs
    simp only[putJ];rw[←hlen,List.take_left,List.drop_left];refine Ky js ⟨h.defers,h.size,λj u hu=>?_⟩ h' h2;simp only[Env.put]at hu;cases hb:Nat.beq j i
    ·rw[hb]at hu;exact h.at_ j u hu
    ·have e:j=i:=zAE hb;subst e;rw[hb]at hu;simp only[cond_true,Option.some.injEq]at hu;subst hu;simpa using h'.at_ j _ h1
  ·cases hv
theorem Wau {js:Js}{ρ:Env}{J:Fam (ksJ js)}{h:Hp}(hj:apJ js ρ J h):∃vs,WcQ ρ js=some vs/\Sat (ksJ js) J vs h:=by
 unfold apJ at hj;split at hj
 ·exact⟨_,by assumption,Wah hj⟩
 ·exact hj.elim
theorem UG {N:Nat}{ds:List Nat}{ρ ρ':Env}{a:Act}(h:Fits N ρ' a)(k:Ki ds ρ ρ'):Fits N (ρ.hide ds) a:=by
 refine h.weaken λi v hv=>?_;simp only[Env.hide]at hv;cases hc:ds.contains i
 ·rw[hc]at hv;exact k i hc v hv
 ·rw[hc]at hv;cases hv
theorem UI (ds:List Nat)(ρ:Env):Ki ds ρ (ρ.hide ds):=by
 intro i hi v hv;simp only[Env.hide,hi];exact hv
def WcZ:Op->Bool
 | .pick .. => true
 | _=>false
def allQ (os:List Oper):Bool:=os.all λo=>isQ o.op||WcZ o.op
theorem Kz {P:Program}{N:Nat}{ops:Array Oper}{Q:Act->Prop}{w:World}:∀(n:Nat) {hs:List RI} {os:List Oper} {tail:List Oper} {ρ:Env} {a:Act} {K:Env->Hp->Prop},
 opsK P N ops n hs os ρ w.heap K->allQ os=true->Fits N ρ a->(∀ρ' a',Fits N ρ' a'->VD os ρ ρ'->K ρ' w.heap->wpStill P ops w Q tail a')->wpStill P ops w Q (os++tail) a
 | 0,_,_,_,_,_,_,h,_,_,_=>(by simp only[opsK]at h)
 | n+1,[],[],tail,ρ,a,K,h,hq,hf,hK=>by
  simp only[opsK]at h;exact hK ρ a hf (λ_ _ _ h=>h) h
 | n+1,[],o::os,tail,ρ,a,K,h,hq,hf,hK=>(by simp only[opsK]at h)
 | n+1,.op::hs,[],tail,ρ,a,K,h,hq,hf,hK=>(by simp only[opsK]at h)
 | n+1,.it ki c::hs,[],tail,ρ,a,K,h,hq,hf,hK=>(by simp only[opsK]at h)
 | n+1,.it ki c::hs,o::os,tail,ρ,a,K,h,hq,hf,hK=>by
  simp only[opsK]at h;rw[WC]at h;simp only[allQ,zDB,zF,zBH]at hq;have h2:=h.2;unfold itK at h2;split at h2
  ·rename_i heq;rw[heq]at hq;simp[isQ,WcZ]at hq
  ·rename_i heq;rw[heq]at hq;simp[isQ,WcZ]at hq
  ·exact h2.elim
 | n+1,.op::hs,o::os,tail,ρ,a,K,h,hq,hf,hK=>by
  simp only[opsK]at h;rw[WC]at h;obtain⟨hc,h⟩:=h;simp only[zF]at hc;have hw:=Zx hf hc.1;simp only[allQ,zDB,zF,zBH]at hq;have hqo:isQ o.op=true:=by
   rcases hq.1 with h1|h1
   ·exact h1
   ·unfold WcZ at h1;split at h1
    ·rename_i heq;rw[heq];rfl
    ·cases h1
  unfold opK at h;rw[hqo]at h;obtain⟨v,hr,hk⟩:=Hh hf.ev o h;simp only[zAV,wpStill,hw,zP,Oper.still,hr,Oper.stillUpon];exact⟨trivial,Kz n hk (by simpa[allQ]using hq.2) (hf.put hc.2 v) λρ' a' hf' ke hk'=>hK ρ' a' hf' ke.cons hk'⟩
 | n+1,.grd and m inner::hs,os,tail,ρ,a,K,h,hq,hf,hK=>by
  simp only[opsK]at h;split at h
  case h_2=>exact h.elim
  rename_i pk rest hdrop;split at h
  case h_2=>exact h.elim
  rename_i c x y d hop hd;split at h
  case h_2=>exact h.elim
  rename_i b hb;rw[WC]at h;obtain⟨hc,J,hJ,h⟩:=h;simp only[zF]at hc;obtain⟨hdN,hcon,hpk,hcc,hskip⟩:=hc;have hos:os++tail=os.take m++(pk::rest++tail):=by
   rw[←hdrop,←zAC,zBG]
  have hqt:allQ (os.take m)=true:=by
   rw[allQ,zw]at hq ⊢;exact λo ho=>hq o (zBS ho)
  have hqr:allQ rest=true:=by
   rw[allQ,zw]at hq ⊢;exact λo ho=>hq o (zDI (i:=m) (by rw[hdrop];exact zBK _ ho))
  rw[hos];have after:∀(r b':Bool) (z:Operand) a',b=b'->(bif b' then x else y)=z->Fits N (ρ.hide ((os.take m).filterMap (·.dst))) a'->J r w.heap->Region.wanted pk (yielded ops a'.tmps)=true →
   a'.eval (.tmp c)=.bool b'->a'.eval z=.bool r->wpStill P ops w Q (pk::rest++tail) a':=by
   intro r b' z a' e ez hf' hj hw hec hez;have hrun:(execOp a'.eval pk).run P w=.ok (.value (.bool r)) w:=by
    obtain⟨dst,op,ty,pos,aft,guard⟩:=pk;simp only at hop;subst hop;subst ez;cases b'<;>simp at hez<;>simp[execOp,hec,asBool,hez]
   simp only[zAV,wpStill,hw,zP,Oper.still,hrun,Oper.stillUpon];have hfp:=hf'.put (d:=some d) hdN (.bool r);rw[hd];exact⟨trivial,Kz n (hJ _ _ hj) hqr hfp λρ' a'' hf'' ke hk'=>hK ρ' a'' hf'' (VD.grd hd hdrop ke) hk'⟩
  have run:∀(b':Bool) (z:Operand),b=b'->(bif b' then x else y)=z →
   opsK P N ops n inner (os.take m) (ρ.put c (.bool b')) w.heap (λρ' h'=>chk (Hu ops pk ρ'&&cIs ρ' c b') (V8 ρ' z λr=>J r h'))->wpStill P ops w Q (os.take m++(pk::rest++tail)) a:=by
   intro b' z e ez hseg;refine Kz n hseg hqt (hf.lit hb e) λρ' a' hf' ke hk=>?_;rw[WC]at hk;simp only[zF]at hk;obtain⟨⟨hg,hci⟩,hk⟩:=hk;obtain⟨r,hr,hj⟩:=Vx hk;exact after r b' z a' e ez (hf'.seg hb e ke) hj (Zx hf' hg) (hf'.ev _ _ (UY hci)) (hf'.ev _ _ hr)
  have skip:∀(b':Bool),b=b'->b' = !and->J (!and) w.heap->wpStill P ops w Q (os.take m++(pk::rest++tail)) a:=by
   intro b' e eb hj;subst eb;refine GW hskip (hf.lit hb e) λa' hf'=>?_;have hfs:Fits N (ρ.hide ((os.take m).filterMap (·.dst))) a':=hf'.seg (ρ':=(ρ.put c (.bool (!and))).hide ((os.take m).filterMap (·.dst))) hb e (λi hi v hv=>by simp only[Env.hide,hi];exact hv);have hec:=hf'.ev (.tmp c) _ (UY hcc);refine after (!and) (!and) (bif (!and)then x else y) a' e rfl hfs hj (Zx hfs hpk) hec ?_;refine Wdj ?_ _ (λv=>rfl);cases and<;>exact hcon
  cases and
  ·simp only[cond_false]at h;cases b
   ·exact run false y rfl rfl (h.f rfl)
   ·exact skip true rfl rfl (h.t rfl)
  ·simp only[cond_true]at h;cases b
   ·exact skip false rfl rfl (h.f rfl)
   ·exact run true x rfl rfl (h.t rfl)
inductive RH where
 | seq (hs:List RI)
 | quiet (hs:List RI)
 | tail (n:Nat) (hs1 hs2:List RI)
 | held (sm:Bool) (C:List Nat) (sh:SH)
 | heldJ (sm:Bool) (C:List Nat) (js:Js) (sh:SH)
def WdS (ops:Array Oper):List Nat:=ops.toList.filterMap (·.dst)
def regK (P:Program)(N:Nat)(r:RH)(ops:Array Oper)(draw:Bool)(ρ:Env)(h:Hp)(K:Env->Hp->Prop):Prop:=
 match r,draw with
 | .seq hs,false=>opsK P N ops 400 hs ops.toList ρ h K
 | .quiet hs,true=>chk (P.follows .mixedOrders&&(Region.lexB .any ops&&allQ ops.toList)) (opsK P N ops 400 hs ops.toList ρ h K)
 | .tail n hs1 hs2,true=>chk (P.follows .mixedOrders&&(Region.lexTailB .any ops n&&allQ (ops.toList.take n)))
  (opsK P N ops 400 hs1 (ops.toList.take n) ρ h λρ' h'=>opsK P N ops 400 hs2 (ops.toList.drop n) ρ' h' K)
 | .held sm C sh,true=>chk (P.follows .mixedOrders&&Region.noSelect ops) (Wjo P N sm C sh ops ρ h K)
 | .heldJ sm C js sh,true=>chk (P.follows .mixedOrders&&(Region.noSelect ops&&js.all λs=>isIn (WdS ops) s.1))
  (Jn (ksJ js) (lam (ksJ js) λvs h'=>K (putJ (ρ.hide (WdS ops)) js vs) h') λJ=>Wjo P N sm C sh ops ρ h λρ' h'=>apJ js ρ' J h')
 | _,_=>False
theorem Wd6 {P:Program}{N id:Nat}{r:RH}{ops:Array Oper}{draw:Bool}{ρ:Env}{a:Act}{w:World}{K:Env->Hp->Prop}{Q:Exit->Act->World->Prop}
 (h:regK P N r ops draw ρ w.heap K) (hf:Fits N ρ a) (hK:∀ρ' a' w',Fits N ρ' a'->Zc w w'->VD ops.toList ρ ρ'->K ρ' w'.heap->Q .normal a' w'):(Code.region id ops draw).wp P Q a w:=by
 unfold regK at h;split at h
 ·rename_i hs;refine wp_region_list ?_;have:=QY (Q:=Q) (tail:=[]) 400 h hf λρ' a' w' hf' io ke hk=>hK ρ' a' w' hf' io ke hk;simpa using this
 ·rename_i hs;rw[WC]at h;simp only[zF]at h;obtain⟨⟨hm,hB,hq⟩,h⟩:=h;refine wp_region_still hm hB ?_;have:=Kz (w:={w with drawn:=w.drawn+1}) (Q:=λa'=>Q .normal a' {w with drawn:=w.drawn+1}) (tail:=[]) 400 h hq hf λρ' a' hf' ke hk=>hK ρ' a' _ hf' ⟨rfl,rfl,rfl,zD _⟩ ke hk;simpa using this
 ·rename_i n hs1 hs2;rw[WC]at h;simp only[zF]at h;obtain⟨⟨hm,hB,hq⟩,h⟩:=h;obtain⟨l,rfl⟩:∃l:List Oper,ops=l.toArray:=⟨ops.toList,by simp⟩;refine wp_region_still_tail n hm hB ?_;have:=Kz (w:={w with drawn:=w.drawn+1}) (ops:=l.toArray) (Q:=λa'=>wpList P l.toArray Q (l.drop n) a' {w with drawn:=w.drawn+1}) (tail:=[]) 400 h (by simpa using hq) hf (λρ' a' hf' ke hk=>by
   have:=QY (Q:=Q) (tail:=[]) (w:={w with drawn:=w.drawn+1}) 400 hk hf' λρ'' a'' w'' hf'' io ke' hk'=>hK ρ'' a'' w'' hf'' (Zc.trans (b:={w with drawn:=w.drawn+1}) ⟨rfl,rfl,rfl,zD _⟩ io) (λi hi v hv=>?_) hk'
   ·simpa[wpStill]using this
   ·rw[show l.toArray.toList=l.take n++l.drop n by simp,zDG]at hi;simp only[zCT,zM,decide_eq_false_iff_not,not_or]at hi;exact ke' i (by simpa using hi.2) v (ke i (by simpa using hi.1) v hv))
  simpa using this
 ·rename_i sm sh;rw[WC]at h;simp only[zF]at h;exact Vm h.1.1 h.1.2 h.2 hf hK
 ·rename_i sm js sh;rw[WC]at h;simp only[zF]at h;obtain⟨⟨hm,hsel,hjs⟩,J,hJ,h⟩:=h;refine Vm hm hsel h hf λρ' a' w' hf' io ke hk=>?_;obtain⟨vs,hv,hs⟩:=Wau hk;have hs':=VH (hs.mono hJ);refine hK _ a' w' (Ky js (UG hf' ke) hf' hv) io ?_ hs';exact((UI (WdS ops) ρ).trans (QW (WdS ops) js (ρ.hide (WdS ops)) vs hjs)).mono λi hi=>by
   simp only[zM]at hi;rcases hi with h|h<;>exact h
 ·exact h.elim
def dsts:Code->List Nat
 | .region _ ops _=>WdS ops
 | .seq a b=>dsts a++dsts b
 | .cond _ a b=>dsts a++dsts b
 | .block _ b=>dsts b
 | .loop b=>dsts b
 | .scope b=>dsts b
 | _=>[]
def Hk:(ks:List CK)->Fam ks->FamN ks->(Nat->Prop)->Fam ks
 | [],I,μ,p=>λh=>I h/\p (μ h)
 | c::cs,I,μ,p=>λx=>Hk cs (I x) (μ x) p
def XL (ks:List CK)(start:Fam ks->Prop)(round:Fam ks->Fam ks):Prop:=
 ∃(I:Fam ks) (μ:FamN ks),start I/\∀m:Nat,Fam.le ks (Hk ks I μ (· = m)) (round (Hk ks I μ (· < m)))
inductive Hn where
 | leaf
 | reg (r:RH)
 | seq (a b:Hn)
 | sjn (js:Js) (a b:Hn)
 | cond (a b:Hn)
 | block (b:Hn)
 | loop (js:Js) (b:Hn)
 | scope (b:Hn)
def RI.ops:Nat->List RI
 | 0=>[]
 | n+1=>.op::RI.ops n
abbrev Hn.l:Hn:=.leaf
abbrev Hn.q (a b:Hn):Hn:=.seq a b
abbrev Hn.c (a b:Hn):Hn:=.cond a b
abbrev Hn.k (a:Hn):Hn:=.block a
def Hn.o (n:Nat):Hn:=.reg (.seq (RI.ops n))
abbrev Hn.o1:Hn:=.o 1
abbrev Hn.o2:Hn:=.o 2
abbrev Hn.o3:Hn:=.o 3
abbrev Hn.o4:Hn:=.o 4
abbrev Hn.o5:Hn:=.o 5
abbrev Hn.o6:Hn:=.o 6
abbrev Hn.o7:Hn:=.o 7
abbrev Hn.o8:Hn:=.o 8
abbrev Hn.o9:Hn:=.o 9
abbrev Hn.o10:Hn:=.o 10
def Hn.oq (n:Nat):Hn:=.reg (.quiet (RI.ops n))
def Wkh (next:Env->Hp->Prop)(Q:Exit->Env->Hp->Prop):Exit->Env->Hp->Prop
 | .normal,ρ,h=>next ρ h
 | e,ρ,h=>Q e ρ h
def WkT (id:Nat)(Q:Exit->Env->Hp->Prop):Exit->Env->Hp->Prop
 | .exit i,ρ,h=>match Nat.beq i id with
  | true=>Q .normal ρ h
  | false=>Q (.exit i) ρ h
 | e,ρ,h=>Q e ρ h
def noG (Q:Exit->Env->Hp->Prop):Exit->Env->Hp->Prop
 | .goto _,_,_=>False
 | e,ρ,h=>Q e ρ h
def cwp (P:Program)(N:Nat):Code->Hn->(Exit->Env->Hp->Prop)->Env->Hp->Prop
 | .skip,_,Q,ρ,h=>Q .normal ρ h
 | .ret,_,Q,ρ,h=>Q .ret ρ h
 | .exit id,_,Q,ρ,h=>Q (.exit id) ρ h
 | .region _ ops d,.reg r,Q,ρ,h=>regK P N r ops d ρ h λρ' h'=>Q .normal ρ' h'
 | .seq a b,.seq x y,Q,ρ,h=>cwp P N a x (Wkh (λρ' h'=>cwp P N b y Q ρ' h') Q) ρ h
 | .seq a b,.sjn js x y,Q,ρ,h=>chk (js.all λs=>isIn (dsts a) s.1)
  (Jn (ksJ js) (lam (ksJ js) λvs h'=>cwp P N b y Q (putJ (ρ.hide (dsts a)) js vs) h') λJ=>cwp P N a x (Wkh (λρ' h'=>apJ js ρ' J h') Q) ρ h)
 | .cond c a b,.cond x y,Q,ρ,h=>V8 ρ c λt=>If t (cwp P N a x Q ρ h) (cwp P N b y Q ρ h)
 | .block id b,.block x,Q,ρ,h=>cwp P N b x (WkT id Q) ρ h
 | .scope b,.scope x,Q,ρ,h=>cwp P N b x (noG Q) ρ h
 | .label _,_,Q,ρ,h=>Q .normal ρ h
 | .loop b,.loop js x,Q,ρ,h=>chk (js.all λs=>isIn (dsts b) s.1)
  (XL (ksJ js) (λI=>apJ js ρ I h) λJ=>lam (ksJ js) λvs h'=>cwp P N b x (Wkh (λρ' h''=>apJ js ρ' J h'') Q) (putJ (ρ.hide (dsts b)) js vs) h')
 | _,_,_,_,_=>False
theorem GY:∀{ks:List CK} {I:Fam ks} {μ:FamN ks} {p:Nat->Prop} {vs:List Value} {h:Hp},Sat ks (Hk ks I μ p) vs h->∃n,p n/\Sat ks (Hk ks I μ (· = n)) vs h
 | [],I,μ,p,[],h,hs=>⟨μ h,hs.2,hs.1,rfl⟩
 | c::cs,I,μ,p,v::vs,h,⟨x,e,hs⟩=>by
  obtain⟨n,hp,hn⟩:=GY (I:=I x) (μ:=μ x) hs;exact⟨n,hp,x,e,hn⟩
 | [],I,μ,p,_::_,h,hs=>hs.elim
 | _::_,I,μ,p,[],h,hs=>hs.elim
theorem Gg:∀{ks:List CK} {I:Fam ks} (μ:FamN ks) {vs:List Value} {h:Hp},Sat ks I vs h->∃n,Sat ks (Hk ks I μ (· = n)) vs h
 | [],I,μ,[],h,hs=>⟨μ h,hs,rfl⟩
 | c::cs,I,μ,v::vs,h,⟨x,e,hs⟩=>by
  obtain⟨n,hn⟩:=Gg (I:=I x) (μ x) hs;exact⟨n,x,e,hn⟩
 | [],I,μ,_::_,h,hs=>hs.elim
 | _::_,I,μ,[],h,hs=>hs.elim
theorem Wav {p:Nat->Prop}(h:∃n,p n):∃n,p n/\∀m,p m->n<=m:=by
 obtain⟨n,hn⟩:=h
 induction n using Nat.strongRecOn with
 | _ n ih=>
  by_cases hm:∃m,m<n/\p m
  ·obtain⟨m,hlt,hp⟩:=hm;exact ih m hlt hp
  ·exact⟨n,hn,λm hp=>Nat.le_of_not_lt λhlt=>hm ⟨m,hlt,hp⟩⟩
open Classical in
noncomputable def Wbt (p:Nat->Prop):Nat:=if h:∃n,p n then(Wav h).choose else 0
theorem WcC {p:Nat->Prop}(h:∃n,p n):p (Wbt p):=by
 unfold Wbt;rw[dif_pos h];exact(Wav h).choose_spec.1
theorem WgP {p:Nat->Prop}{n:Nat}(h:p n):Wbt p<=n:=by
 unfold Wbt;rw[dif_pos ⟨n,h⟩];exact(Wav ⟨n,h⟩).choose_spec.2 n h
theorem WeY {P:Program}{c:Code}{Q:Exit->Act->World->Prop}{a:Act}{w:World}(I:Nat->Act->World->Prop)(h0:∃n,I n a w)
 (round:∀n a w,I n a w->c.wp P (Exit.then (λa' w'=>∃m,m<n/\I m a' w') Q) a w):(Code.loop c).wp P Q a w:=by
 refine wp_loop (λa w=>∃n,I n a w) (λa w=>Wbt λn=>I n a w) h0 λa w hI=>?_;refine wp_mono (round _ a w (WcC hI)) λe a' w' hq=>?_;cases e<;>try exact hq
 obtain⟨m,hm,hI'⟩:=hq;exact⟨⟨m,hI'⟩,Nat.lt_of_le_of_lt (WgP hI') hm⟩
theorem Qd {P:Program}{N:Nat}:∀(c:Code) {x:Hn} {Q:Exit->Env->Hp->Prop} {Q':Exit->Act->World->Prop} {ρ:Env} {a:Act} {w:World},
 cwp P N c x Q ρ w.heap->Fits N ρ a->(∀e ρ' a' w',Fits N ρ' a'->Zc w w'->Ki (dsts c) ρ ρ'->Q e ρ' w'.heap->Q' e a' w')->c.wp P Q' a w
 | .skip,x,Q,Q',ρ,a,w,h,hf,hq=>by
  have h':Q .normal ρ w.heap:=by cases x<;>exact h
  exact wp_skip (hq _ ρ a w hf (.refl _) (.refl _ _) h')
 | .ret,x,Q,Q',ρ,a,w,h,hf,hq=>by
  have h':Q .ret ρ w.heap:=by cases x<;>exact h
  exact wp_ret (hq _ ρ a w hf (.refl _) (.refl _ _) h')
 | .exit id,x,Q,Q',ρ,a,w,h,hf,hq=>by
  have h':Q (.exit id) ρ w.heap:=by cases x<;>exact h
  exact wp_exit (hq _ ρ a w hf (.refl _) (.refl _ _) h')
 | .region id ops d,x,Q,Q',ρ,a,w,h,hf,hq=>by
  cases x<;>simp only[cwp]at h
  exact Wd6 h hf λρ' a' w' hf' io ke hk=>hq _ ρ' a' w' hf' io ke hk
 | .seq c1 c2,x,Q,Q',ρ,a,w,h,hf,hq=>by
  cases x<;>simp only[cwp]at h
  case seq x y=>
   refine wp_seq (Qd c1 h hf λe ρ' a' w' hf' io ke hk=>?_);cases e
   case normal=>exact Qd c2 hk hf' λe ρ'' a'' w'' hf'' io' ke' hk'=>hq e ρ'' a'' w'' hf'' (io.trans io') (ke.trans ke') hk'
   all_goals exact hq _ ρ' a' w' hf' io (ke.mono λi hi=>zAM _ hi) hk
  case sjn js x y=>
   rw[WC]at h;obtain⟨hjs,J,hJ,h⟩:=h;refine wp_seq (Qd c1 h hf λe ρ' a' w' hf' io ke hk=>?_);cases e
   case normal=>
    obtain⟨vs,hv,hs⟩:=Wau hk;have hs':=VH (hs.mono hJ);have hfe:=Ky js (UG hf' ke) hf' hv;refine Qd c2 hs' hfe λe ρ'' a'' w'' hf'' io' ke' hk'=>hq e ρ'' a'' w'' hf'' (io.trans io') ?_ hk';have k1:=(UI (dsts c1) ρ).trans (QW (dsts c1) js (ρ.hide (dsts c1)) vs hjs);exact(k1.trans ke').mono λi hi=>by
     simp only[dsts,zM]at hi ⊢;rcases hi with(h|h)|h
     ·exact Or.inl h
     ·exact Or.inl h
     ·exact Or.inr h
   all_goals exact hq _ ρ' a' w' hf' io (ke.mono λi hi=>zAM _ hi) hk
 | .cond c c1 c2,x,Q,Q',ρ,a,w,h,hf,hq=>by
  cases x<;>simp only[cwp]at h
  obtain⟨t,ht,h⟩:=Vx h;refine wp_cond_split (hf.ev _ _ ht) (λe=>?_) (λe=>?_)
  ·exact Qd c1 (h.t e) hf λe ρ' a' w' hf' io ke hk=>hq e ρ' a' w' hf' io (ke.mono λi hi=>zAM _ hi) hk
  ·exact Qd c2 (h.f e) hf λe ρ' a' w' hf' io ke hk=>hq e ρ' a' w' hf' io (ke.mono λi hi=>zBL _ hi) hk
 | .block id c1,x,Q,Q',ρ,a,w,h,hf,hq=>by
  cases x<;>simp only[cwp]at h
  refine wp_block (Qd c1 h hf λe ρ' a' w' hf' io ke hk=>?_);cases e
  case exit i=>
   simp only[WkT]at hk;simp only[Exit.inBlock];split at hk
   ·rename_i e;have e':i=id:=zAE e;rw[zB e'];exact hq _ ρ' a' w' hf' io ke hk
   ·rename_i e;have e':i≠id:=λh=>by subst h;simp at e
    rw[zA e'];exact hq _ ρ' a' w' hf' io ke hk
  all_goals exact hq _ ρ' a' w' hf' io ke hk
 | .loop c1,x,Q,Q',ρ,a,w,h,hf,hq=>by
  cases x<;>simp only[cwp]at h
  rename_i js x;rw[WC]at h;obtain⟨hjs,I,μ,hs,hr⟩:=h;refine WeY (λn a' w'=>∃vs,Fits N (putJ (ρ.hide (dsts c1)) js vs) a'/\Zc w w'/\Sat (ksJ js) (Hk (ksJ js) I μ (· = n)) vs w'.heap) ?_ ?_
  ·obtain⟨vs,hv,hs⟩:=Wau hs;obtain⟨n,hn⟩:=Gg μ hs;exact⟨n,vs,Ky js (hf.weaken (Wcr _ _)) hf hv,.refl _,hn⟩
  ·rintro n a' w' ⟨vs,hf',io,hn⟩;have:=VH (hn.mono (hr n));have kJ:=(UI (dsts c1) ρ).trans (QW (dsts c1) js (ρ.hide (dsts c1)) vs hjs);refine Qd c1 this hf' λe ρ'' a'' w'' hf'' io' ke hk=>?_;have kall:Ki (dsts c1) ρ ρ'':=(kJ.trans ke).mono λi hi=>by
    simp only[zM]at hi;rcases hi with(h|h)|h<;>exact h
   cases e
   case normal=>
    obtain⟨vs',hv',hs'⟩:=Wau hk;obtain⟨m,hm,hs''⟩:=GY hs';exact⟨m,hm,vs',Ky js (UG hf'' kall) hf'' hv',io.trans io',hs''⟩
   all_goals exact hq _ ρ'' a'' w'' hf'' (io.trans io') kall hk
 | .scope c1,x,Q,Q',ρ,a,w,h,hf,hq=>by
  cases x<;>simp only[cwp]at h
  refine wp_scope_straight (Qd c1 h hf λe ρ' a' w' hf' io ke hk=>?_);cases e
  case goto l=>exact hk.elim
  all_goals exact hq _ ρ' a' w' hf' io ke hk
 | .label l,x,Q,Q',ρ,a,w,h,hf,hq=>by
  have h':Q .normal ρ w.heap:=by cases x<;>exact h
  exact wp_label (hq _ ρ a w hf (.refl _) (.refl _ _) h')
 | .rangeFunc ..,x,Q,Q',ρ,a,w,h,hf,hq=>(by cases x<;>simp only[cwp]at h)
 | .goto ..,x,Q,Q',ρ,a,w,h,hf,hq=>(by cases x<;>simp only[cwp]at h)
 | .refuse ..,x,Q,Q',ρ,a,w,h,hf,hq=>(by cases x<;>simp only[cwp]at h)
def res1 (P:Program)(r:ResultVar)(s:SK)(ρ:Env)(h:Hp)(K:List Value->Prop):Prop:=
 match r,s with
 | .tmp t,.one _=>wv (ρ t) λv=>K [v]
 | .tmp t,.agg cs=>wv (ρ t) λv=>match v with
  | .agg a=>chk (a.size==cs.length) (K a.toList)
  | _=>False
 | .cell a t,.one c=>wv (ρ a) λv=>match v,skOf P t with
  | .pointer (some ad),some (.one _)=>Ld1 c ad h λx=>K [c.v x]
  | _,_=>False
 | .cell a t,.agg cs=>wv (ρ a) λv=>match v,skOf P t with
  | .pointer (some ad),some (.agg _)=>chk (P.cellsOf t==cs.length&&(P.info? t).isSome) (LdN cs ad 0 h λvs=>K vs)
  | _,_=>False
def resK (P:Program):List ResultVar->List SK->Env->Hp->(List Value->Prop)->Prop
 | [],[],_,_,K=>K []
 | r::rs,s::ss,ρ,h,K=>res1 P r s ρ h λvs=>resK P rs ss ρ h λus=>K (vs++us)
 | _,_,_,_,_=>False
def retQ (P:Program)(fn:Func)(rs:List SK)(R:Fam (ksOf rs)):Exit->Env->Hp->Prop
 | .normal,ρ,h=>resK P fn.results.toList rs ρ h λvs=>apF (ksOf rs) R vs h
 | .ret,ρ,h=>resK P fn.results.toList rs ρ h λvs=>apF (ksOf rs) R vs h
 | _,_,_=>False
def Wgu (vs:List Value):Env:=λi=>vs[i]?
def fnK (P:Program)(fn:Func)(x:Hn)(args:List Value)(rs:List SK)(R:Fam (ksOf rs))(h:Hp):Prop:=
 match fn.body with
 | some c=>chk (Nat.ble args.length fn.ntmps) (cwp P fn.ntmps c x (retQ P fn rs R) (Wgu args) h)
 | none=>False
def VP:SK->List Value->Value
 | .one _,[v]=>v
 | .one _,_=>undef
 | .agg _,vs=>.agg vs.toArray
def HM (tmps:Array Value):ResultVar->Sem Value
 | .tmp t=>pure (tmps.getD t undef)
 | .cell b t=>do loadVar t (←asAddr (tmps.getD b undef))
theorem WeD (fn:Func)(tmps:Array Value):results fn tmps=(do
 let vs ←fn.results.mapM (HM tmps)
 pure (if h:vs.size=1 then vs[0]else .tuple vs)):=by
 unfold results
 congr 1
theorem Wev {P:Program}{r:ResultVar}{s:SK}{ρ:Env}{K:List Value->Prop}{a:Act}{N:Nat}{w:World}(hf:Fits N ρ a)(h:res1 P r s ρ w.heap K) :
 ∃vs,vs.length=s.ks.length/\K vs/\(HM a.tmps r).run P w=.ok (VP s vs) w:=by
 unfold res1 at h;split at h
 ·rename_i t c;obtain⟨v,hv,hK⟩:=Wo h;refine⟨[v],rfl,hK,?_⟩;simp[HM,zCJ,hf.at_ _ _ hv,VP]
 ·rename_i t cs;obtain⟨v,hv,hK⟩:=Wo h;split at hK
  ·rename_i ar;rw[WC]at hK;refine⟨ar.toList,by simpa[SK.ks]using hK.1,hK.2,?_⟩;simp[HM,zCJ,hf.at_ _ _ hv,VP]
  ·exact hK.elim
 ·rename_i b t c;obtain⟨v,hv,hK⟩:=Wo h;split at hK
  ·rename_i ad c' hs;obtain⟨d,hd,hag⟩:=Wc8 hs;obtain⟨x,hx,hK⟩:=HV hK;refine⟨[c.v x],rfl,hK,?_⟩;simp only[HM,zCJ,hf.at_ _ _ hv,zBY,asAddr,Sem.run_bind,Sem.run_pure,Result.andThen_ok,loadVar,QQ hd,hag,VP];simpa using WaZ hx
  ·exact hK.elim
 ·rename_i b t cs;obtain⟨v,hv,hK⟩:=Wo h;split at hK
  ·rename_i ad cs' hs;rw[WC]at hK;obtain⟨hc,hK⟩:=hK;simp only[zF,zS]at hc;obtain⟨d,hd,hag⟩:=WdC hs;obtain⟨vs,hl,hK,hr⟩:=Hv (P:=P) hK;refine⟨vs,hl,hK,?_⟩;simp only[HM,zCJ,hf.at_ _ _ hv,zBY,asAddr,Sem.run_bind,Sem.run_pure,Result.andThen_ok,loadVar,QQ hd,hag,zP,Z5 hc.2,loadCells,hc.1,hr,VP];simp
  ·exact hK.elim
theorem G4 {P:Program}{ρ:Env}{a:Act}{N:Nat}{w:World}(hf:Fits N ρ a):∀{rv:List ResultVar} {rs:List SK} {K:List Value->Prop},resK P rv rs ρ w.heap K →
 ∃vs,K vs/\(rv.mapM (HM a.tmps)).run P w=.ok (Gz rs vs) w
 | [],[],K,h=>⟨[],h,by simp[Gz]⟩
 | r::rv,s::rs,K,h=>by
  obtain⟨v1,hl,hK,hr⟩:=Wev hf h;obtain⟨v2,hK2,hr2⟩:=G4 hf hK;refine⟨v1++v2,hK2,?_⟩;simp only[List.mapM_cons,Sem.run_bind,hr,Result.andThen_ok,hr2,Sem.run_pure];cases s with
  | one c=>
   match v1,hl with
   | [v],_=>simp[Gz,VP]
  | agg cs=>
   simp only[SK.ks]at hl;simp only[Gz,VP,←hl,List.take_left,List.drop_left]
 | [],_::_,K,h=>h.elim
 | _::_,[],K,h=>h.elim
theorem Ge {P:Program}{fn:Func}{ρ:Env}{a:Act}{N:Nat}{w:World}{rs:List SK}{K:List Value->Prop}(hf:Fits N ρ a)(h:resK P fn.results.toList rs ρ w.heap K) :
 ∃vs,K vs/\(results fn a.tmps).run P w=.ok (pack rs vs) w:=by
 obtain⟨vs,hK,hr⟩:=G4 hf h;refine⟨vs,hK,?_⟩;rw[WeD,Array.mapM_eq_mapM_toList];simp only[Sem.run_bind,Sem.run_map,hr,Result.andThen_ok,Sem.run_pure,pack];split
 ·rename_i h1
  match hp:Gz rs vs,h1 with
  | [v],_=>simp
 ·rename_i h1
  match hp:Gz rs vs,h1 with
  | [],_=>rfl
  | [v],h1=>simp at h1
  | _::_::_,_=>rfl
theorem R0 {a b:Prop}(f:b)(e:a=b:=by kernel_rfl):a:=e.mpr f
theorem Wa {P:Program}{f:Nat}{fn:Func}{x:Hn}{args:List Value}{rs:List SK}{R:Fam (ksOf rs)}{h:Hp}(hfn:P.funcs[f]?=some fn)(hk:fnK P fn x args rs R h):Wi P f args.toArray rs h R:=by
 intro w hw;subst hw;unfold fnK at hk;split at hk
 case h_2=>exact hk.elim
 rename_i c hb;rw[WC]at hk;obtain⟨hle,hk⟩:=hk;have hle':args.length<=fn.ntmps:=Nat.le_of_ble_eq_true hle;refine calls_of_wp hfn hb ?_;refine Qd c hk (ρ:=Wgu args) ⟨rfl,by simp;omega,λi v hv=>?_⟩ λe ρ' a' w' hf io ke hq=>?_
 ·simp only[Wgu]at hv;have hlt:i<args.length:=(gSi.1 hv).1;rw[zFV (by simpa using hlt)];simpa using hv
 ·cases e<;>simp only[retQ]at hq
  case normal=>
   obtain⟨vs,hK,hr⟩:=Ge hf hq;exact⟨hf.defers,_,hr,io,vs,rfl,Wah hK⟩
  case ret=>
   obtain⟨vs,hK,hr⟩:=Ge hf hq;exact⟨hf.defers,_,hr,io,vs,rfl,Wah hK⟩
theorem WkF {start:Fam []->Prop}{round:Fam []->Fam []}(I:Hp->Prop)(μ:Hp->Nat)(h0:start I)
 (hr:∀h,I h->round (λh'=>I h'/\μ h'<μ h) h):XL [] start round:=
 ⟨I,μ,h0,λ_ h ⟨hi,hm⟩=>hm▸hr h hi⟩
theorem Zw {a:CK}{start:Fam [a]->Prop}{round:Fam [a]->Fam [a]}(I:a.T->Hp->Prop)(μ:a.T->Hp->Nat)(h0:start I)
 (hr:∀x h,I x h->round (λx' h'=>I x' h'/\μ x' h'<μ x h) x h):XL [a] start round:=
 ⟨I,μ,h0,λ_ x h ⟨hi,hm⟩=>hm▸hr x h hi⟩
theorem Ks {a bb:CK}{start:Fam [a,bb]->Prop}{round:Fam [a,bb]->Fam [a,bb]}(I:a.T->bb.T->Hp->Prop)(μ:a.T->bb.T->Hp->Nat)(h0:start I)
 (hr:∀x y h,I x y h->round (λx' y' h'=>I x' y' h'/\μ x' y' h'<μ x y h) x y h):XL [a,bb] start round:=
 ⟨I,μ,h0,λ_ x y h ⟨hi,hm⟩=>hm▸hr x y h hi⟩
theorem WlH {a bb c d e:CK}{start:Fam [a,bb,c,d,e]->Prop}{round:Fam [a,bb,c,d,e]->Fam [a,bb,c,d,e]}(I:a.T->bb.T->c.T->d.T->e.T->Hp->Prop)(μ:a.T->bb.T->c.T->d.T->e.T->Hp->Nat)(h0:start I)
 (hr:∀x y z u v h,I x y z u v h->round (λx' y' z' u' v' h'=>I x' y' z' u' v' h'/\μ x' y' z' u' v' h'<μ x y z u v h) x y z u v h):XL [a,bb,c,d,e] start round:=
 ⟨I,μ,h0,λ_ x y z u v h ⟨hi,hm⟩=>hm▸hr x y z u v h hi⟩
theorem nilP {a:Addr}{K:Addr->Prop}(h:K a):NilP (some a) K:=⟨a,rfl,h⟩
theorem ldI {k:IntKind}{a:Addr}{h:Hp}{n:Int}{K:Int->Prop}(hc:cell h a=some (.int k n))(hK:K n):LdI k a h K:=⟨n,hc,hK⟩
theorem ldB {a:Addr}{h:Hp}{n:Bool}{K:Bool->Prop}(hc:cell h a=some (.bool n))(hK:K n):LdB a h K:=⟨n,hc,hK⟩
theorem ldP {a:Addr}{h:Hp}{n:Option Addr}{K:Option Addr->Prop}(hc:cell h a=some (.pointer n))(hK:K n):LdP a h K:=⟨n,hc,hK⟩
theorem ldM {a:Addr}{h:Hp}{n:Option Nat}{K:Option Nat->Prop}(hc:cell h a=some (.map n))(hK:K n):LdM a h K:=⟨n,hc,hK⟩
theorem ldS {a:Addr}{h:Hp}{x:Option Addr}{n c:Nat}{K:Sl->Prop}(hc:cell h a=some (.slice x n c))(hK:K ⟨x,n,c⟩):LdS a h K:=⟨⟨x,n,c⟩,hc,hK⟩
theorem Vu {e:Int}(h1 : -9223372036854775808<=e)(h2:e<=9223372036854775807):IntKind.i64.wrap e=e:=by
 unfold IntKind.wrap;simp[IntKind.bits,IntKind.signed];omega
theorem ar {e:Int}{K:Int->Prop}(h1 : -9223372036854775808<=e)(h2:e<=9223372036854775807)(hK:K e):Ar .i64 e K:=by
 unfold Ar;rw[Vu h1 h2];exact hK
theorem nz {y:Int}{A:Prop}(h:y≠0)(hA:A):Nz y A:=⟨h,hA⟩
theorem nn {y:Int}{A:Prop}(h:0<=y)(hA:A):Nn y A:=⟨h,hA⟩
theorem ix {a:Addr}{n:Nat}{i:Int}{sz:Nat}{K:Addr->Prop}(h0:0<=i)(h1:i<(n:Int))(hK:K (a.add (i.toNat*sz))):Ix (some a) n i sz K:=⟨a,rfl,h0,h1,hK⟩
theorem iff_ {b:Bool}{A B:Prop}(h1:b=true->A)(h2:b=false->B):If b A B:=If.mk h1 h2
theorem ifD {p:Prop}[Decidable p]{A B:Prop}(h1:p->A)(h2:¬p->B):If (decide p) A B:=
 If.mk (λh=>h1 (zAS h)) (λh=>h2 (zAW h))
theorem ifT {b:Bool}{A B:Prop}(hb:b=true)(h:A):If b A B:=by subst hb;exact h
theorem ifF {b:Bool}{A B:Prop}(hb:b=false)(h:B):If b A B:=by subst hb;exact h
theorem ifDT {p:Prop}[Decidable p]{A B:Prop}(hp:p)(h:A):If (decide p) A B:=ifT (by simpa using hp) h
theorem ifDF {p:Prop}[Decidable p]{A B:Prop}(hp:¬p)(h:B):If (decide p) A B:=ifF (by simpa using hp) h
theorem WdD (a:Int)(n:Nat):a.fdiv (2^n)=a/2^n:=Int.fdiv_eq_ediv_of_nonneg _ (Int.le_of_lt (Int.pow_pos (by decide)))
theorem YQ {a b:Int}(h:0<=a):a.tdiv b=a/b:=Int.tdiv_eq_ediv_of_nonneg h
theorem Qw {a b:Int}(h:0<=a):a.tmod b=a%b:=Int.tmod_eq_emod_of_nonneg h
def Blk (h:Hp)(b:Nat)(cs:List Value):Prop:=∃e,h[b]?=some (.cells cs.toArray e (0,0))
theorem Blk.lt {h:Hp}{b:Nat}{cs:List Value}(hb:Blk h b cs):b<h.size:=by
 obtain⟨e,he⟩:=hb;exact(zAK.1 he).1
theorem Blk.cell {h:Hp}{b o:Nat}{cs:List Value}(hb:Blk h b cs):cell h ⟨b,o,none⟩=cs[o]? := by
 obtain⟨e,he⟩:=hb;simp[Vc.cell,he]
theorem Blk.frz {h:Hp}{b o:Nat}{cs:List Value}(hb:Blk h b cs):frz h ⟨b,o,none⟩=false:=by
 obtain⟨e,he⟩:=hb;simp[Vc.frz,he]
theorem Blk.set {h:Hp}{b o:Nat}{cs:List Value}(hb:Blk h b cs)(v:Value):Blk (setc h ⟨b,o,none⟩ v) b (cs.set o v):=by
 obtain⟨e,he⟩:=hb;refine⟨e,?_⟩;simp[setc,zEY,he]
theorem KA {h:Hp}{a:Addr}{v:Value}{b:Nat}(hne:b≠a.block):(setc h a v)[b]?=h[b]? := by
 simp only[setc,zEY];rw[zA (Ne.symm hne)]
theorem add_lit (b o n:Nat):Addr.add ⟨b,o,none⟩ n=⟨b,o+n,none⟩:=Addr.add_lit b o n
def BlkQ (h:Hp)(b:Nat)(cs:List Value):Prop:=∃e z,h[b]?=some (.cells cs.toArray e z)
theorem Blk.q {h:Hp}{b:Nat}{cs:List Value}(hb:Blk h b cs):BlkQ h b cs:=by
 obtain⟨e,he⟩:=hb;exact⟨e,_,he⟩
theorem BlkQ.lt {h:Hp}{b:Nat}{cs:List Value}(hb:BlkQ h b cs):b<h.size:=by
 obtain⟨e,z,he⟩:=hb;exact(zAK.1 he).1
theorem BlkQ.cell {h:Hp}{b o:Nat}{cs:List Value}(hb:BlkQ h b cs):cell h ⟨b,o,none⟩=cs[o]? := by
 obtain⟨e,z,he⟩:=hb;simp[Vc.cell,he]
def Ext (F:Nat->Prop)(h h':Hp):Prop:=h.size<=h'.size/\∀b,b<h.size->¬F b->h'[b]?=h[b]?
def Ext0 (h h':Hp):Prop:=Ext (λ_=>False) h h'
theorem Ext.refl (F:Nat->Prop)(h:Hp):Ext F h h:=⟨zD _,λ_ _ _=>rfl⟩
theorem Ext.trans {F:Nat->Prop}{a b c:Hp}(h:Ext F a b)(k:Ext F b c):Ext F a c:=
 ⟨ze h.1 k.1,λi hi hf=>(k.2 i (zDJ hi h.1) hf).trans (h.2 i hi hf)⟩
theorem Ext.mono {F G:Nat->Prop}{a b:Hp}(h:Ext F a b)(hs:∀i,i<a.size->F i->G i):Ext G a b:=
 ⟨h.1,λi hi hg=>h.2 i hi λhf=>hg (hs i hi hf)⟩
theorem Ext0.to {F:Nat->Prop}{a b:Hp}(h:Ext0 a b):Ext F a b:=Ext.mono h λ_ _ h=>h.elim
theorem Ext.trans0 {F:Nat->Prop}{a b c:Hp}(h:Ext F a b)(k:Ext0 b c):Ext F a c:=h.trans k.to
theorem Ext.size {F:Nat->Prop}{a b:Hp}(h:Ext F a b):a.size<=b.size:=h.1
theorem Ext.push (F:Nat->Prop)(h:Hp)(o:Obj):Ext F h (h.push o):=
 ⟨by simp,λb hb _=>by rw[zES,zA (zEA hb)]⟩
theorem Ext.of_only {F:Nat->Prop}{h h':Hp}{r:Nat}(ho:ZY h h' r)(hr:F r):Ext F h h':=
 ⟨Nat.le_of_eq ho.1.symm,λb _ hf=>ho.2 b λe=>hf (e▸hr)⟩
theorem Ext.setc {F:Nat->Prop}{h:Hp}{a:Addr}{v:Value}(hr:F a.block):Ext F h (setc h a v):=
 ⟨Nat.le_of_eq (Ka h a v).symm,λb _ hf=>KA λe=>hf (e▸hr)⟩
theorem Ext.at_ {F:Nat->Prop}{h h':Hp}(e:Ext F h h'){b:Nat}{o:Obj}(hb:h[b]?=some o)(hf:¬F b):h'[b]?=some o:=by
 rw[e.2 b (zAK.1 hb).1 hf];exact hb
theorem Ext.blk {F:Nat->Prop}{h h':Hp}(e:Ext F h h'){b:Nat}{cs:List Value}(hb:Blk h b cs)(hf:¬F b):Blk h' b cs:=by
 obtain⟨t,ht⟩:=hb;exact⟨t,e.at_ ht hf⟩
theorem Ext.mapL {F:Nat->Prop}{h h':Hp}(e:Ext F h h'){r:Nat}{k:IntKind}{c:CK}{l:List (Int×c.T)}(hb:MapL h r k c l)(hf:¬F r):MapL h' r k c l:=by
 obtain⟨es,clk,hr,rest⟩:=hb;exact⟨es,clk,e.at_ hr hf,rest⟩
theorem MapL.lt {h:Hp}{r:Nat}{k:IntKind}{c:CK}{l:List (Int×c.T)}(hb:MapL h r k c l):r<h.size:=by
 obtain⟨es,clk,hr,_⟩:=hb;exact(zAK.1 hr).1
theorem MapL.nodup {h:Hp}{r:Nat}{k:IntKind}{c:CK}{l:List (Int×c.T)}(hb:MapL h r k c l):(l.map (·.1)).Nodup:=by
 obtain⟨es,clk,hr,_,hn,_⟩:=hb;exact hn
theorem Wr {h h':Hp}{r b:Nat}{cs:List Value}(ho:ZY h h' r)(hb:Blk h b cs)(hne:b≠r):Blk h' b cs:=by
 obtain⟨t,ht⟩:=hb;exact⟨t,by rw[ho.2 b hne];exact ht⟩
theorem Wbr {h h':Hp}{r b:Nat}{k:IntKind}{c:CK}{l:List (Int×c.T)}(ho:ZY h h' r)(hb:MapL h b k c l)(hne:b≠r):MapL h' b k c l:=by
 obtain⟨es,clk,hr,rest⟩:=hb;exact⟨es,clk,by rw[ho.2 b hne];exact hr,rest⟩
end Go.Vc
namespace Go.Bu
open Go Go.Vc
theorem WbH {a b:Nat}(ha:a<9223372036854775808)(hb:b<9223372036854775808):bits .xor .i64 (a:Int) (b:Int)=((a ^^^ b:Nat):Int):=by
 have hx:a ^^^ b<2^63:=Nat.xor_lt_two_pow (by omega) (by omega);have h1:(BitVec.ofInt 64 (a:Int)).toNat=a:=by
  rw[BitVec.ofInt_natCast,BitVec.toNat_ofNat];exact zDD (by omega)
 have h2:(BitVec.ofInt 64 (b:Int)).toNat=b:=by
  rw[BitVec.ofInt_natCast,BitVec.toNat_ofNat];exact zDD (by omega)
 show IntKind.i64.wrap ((BitVec.ofInt 64 (a:Int) ^^^ BitVec.ofInt 64 (b:Int)).toNat:Int)=_;rw[BitVec.toNat_xor,h1,h2,Vu]<;>omega
theorem bits_and_i64 {a b:Nat}(ha:a<9223372036854775808)(hb:b<9223372036854775808):bits .and .i64 (a:Int) (b:Int)=((a &&& b:Nat):Int):=by
 have hx:a &&& b<2^63:=Nat.and_lt_two_pow _ (by omega);have h1:(BitVec.ofInt 64 (a:Int)).toNat=a:=by
  rw[BitVec.ofInt_natCast,BitVec.toNat_ofNat];exact zDD (by omega)
 have h2:(BitVec.ofInt 64 (b:Int)).toNat=b:=by
  rw[BitVec.ofInt_natCast,BitVec.toNat_ofNat];exact zDD (by omega)
 show IntKind.i64.wrap ((BitVec.ofInt 64 (a:Int) &&& BitVec.ofInt 64 (b:Int)).toNat:Int)=_;rw[BitVec.toNat_and,h1,h2,Vu]<;>omega
theorem WjI (q:Nat):q ^^^ 1=mate q:=by
 apply Nat.eq_of_testBit_eq;intro i;rw[Nat.testBit_xor];unfold mate;cases i with
 | zero=>
  simp only[Nat.testBit_zero];split<;>rename_i h
  ·have:(q+1)%2=1:=by omega
   simp[h,this]
  ·have h1:q%2=1:=by omega
   have:(q-1)%2=0:=by omega
   simp[h1,this]
 | succ i=>
  simp only[Nat.testBit_succ];have h0:(1:Nat)/2=0:=by decide
  rw[h0,Nat.zero_testBit,Bool.xor_false]
  congr 1
  split<;>omega
theorem Wg1 (q k:Nat):(q*2^k) ^^^ (2^k)=mate q*2^k:=by
 have h:=Nat.shiftLeft_xor_distrib (a:=q) (b:=1) (i:=k);rw[WjI,Nat.shiftLeft_eq,Nat.shiftLeft_eq,Nat.shiftLeft_eq,zED]at h;exact h.symm
theorem WbP {k:Nat}(h:k<=62):2^k<=4611686018427387904:=zAI (n:=2) (by decide) h
def Keys (S:Nat->Bool)(k:Nat)(B:List (Int×Bool)):Prop:=
 (∀x v,(x,v)∈B->v=true/\∃q:Nat,x=((q*2^k:Nat):Int)/\can S k q=true)/\∀q,can S k q=true->(((q*2^k:Nat):Int),true)∈B
structure BH (σ:Hp) (p n:Nat) (S:Nat->Bool) (sb:Nat) (ms:List Nat):Prop where
 hd:∃cap,Blk σ p [.int .i64 n,.slice (some ⟨sb,0,none⟩) ms.length cap]
 row:∃rest,Blk σ sb (ms.map (λm=>Value.map (some m))++rest)
 maps:∀k m,ms[k]?=some m->∃B:List (Int×Bool),MapL σ m .i64 .b B/\Keys S k B
 nd:(p::sb::ms).Nodup
 n1:1<=n
 n2:n<=1024
 lo:2^ms.length<=2*n
 hi:n<2^ms.length
 bnd:Bounded S n
def fp (p sb:Nat)(ms:List Nat)(b:Nat):Prop:=b∈p::sb::ms
variable {σ h':Hp}{p n sb:Nat}{S:Nat->Bool}{ms:List Nat}
theorem BH.len (h:BH σ p n S sb ms):ms.length<=11:=by
 have:=h.lo;have:=h.n2;apply Classical.byContradiction;intro hc;have:2^12<=2^ms.length:=zAI (by decide) (by omega);omega
theorem BH.fits (h:BH σ p n S sb ms){k q:Nat}(hf:q*2^k+2^k<=n):k<ms.length:=by
 apply Classical.byContradiction;intro hc;have:2^ms.length<=2^k:=zAI (by decide) (by omega);have:=h.hi;omega
theorem BH.ldN (h:BH σ p n S sb ms):cell σ ⟨p,0,none⟩=some (.int .i64 n):=by
 obtain⟨cap,hb⟩:=h.hd;rw[hb.cell];rfl
theorem BH.ldB (h:BH σ p n S sb ms):∃cap,cell σ ⟨p,1,none⟩=some (.slice (some ⟨sb,0,none⟩) ms.length cap):=by
 obtain⟨cap,hb⟩:=h.hd;exact⟨cap,by rw[hb.cell];rfl⟩
theorem BH.ldR (h:BH σ p n S sb ms){k m:Nat}(hm:ms[k]?=some m):cell σ ⟨sb,k,none⟩=some (.map (some m)):=by
 obtain⟨rest,hb⟩:=h.row;rw[hb.cell,zd (by simpa using(gSi.1 hm).1),za,hm];rfl
theorem BH.get (h:BH σ p n S sb ms){k:Nat}(hk:k<ms.length):∃m,ms[k]?=some m:=⟨ms[k],by simp[hk]⟩
theorem BH.keep (h:BH σ p n S sb ms){F:Nat->Prop}(e:Ext F σ h')(hF:∀b,fp p sb ms b->¬F b):BH h' p n S sb ms where
 hd:=by obtain⟨cap,hb⟩:=h.hd;exact⟨cap,e.blk hb (hF _ (by simp[fp]))⟩
 row:=by obtain⟨rest,hb⟩:=h.row;exact⟨rest,e.blk hb (hF _ (by simp[fp]))⟩
 maps:=λk m hm=>by
  obtain⟨B,hB,hk⟩:=h.maps k m hm;exact⟨B,e.mapL hB (hF _ (by simp[fp,zE hm])),hk⟩
 nd:=h.nd
 n1:=h.n1
 n2:=h.n2
 lo:=h.lo
 hi:=h.hi
 bnd:=h.bnd
theorem BH.keep0 (h:BH σ p n S sb ms)(e:Ext0 σ h'):BH h' p n S sb ms:=h.keep e λ_ _=>id
theorem Whp {k:Nat}{B:List (Int×Bool)}(hK:Keys S k B)(hn:(B.map (·.1)).Nodup)(q:Nat):mget B ((q*2^k:Nat):Int)=if can S k q then some true else none:=by
 unfold mget;cases hf:B.find? λx=>x.1==((q*2^k:Nat):Int)with
 | some x=>
  have h1:=zCV hf;have hmem:=zCW hf;obtain⟨x1,x2⟩:=x;obtain⟨hv,q',hx,hc⟩:=hK.1 x1 x2 hmem;have h1':x1=((q*2^k:Nat):Int):=by simpa using h1
  rw[h1']at hx;have:q*2^k=q'*2^k:=by exact_mod_cast hx
  have:=zEE (zv k) this;subst this;subst hv;simp[hc]
 | none=>
  rw[zBI]at hf;by_cases hc:can S k q=true
  ·have:=hf _ (hK.2 q hc);simp at this
  ·simp[hc]
theorem BH.lk (h:BH σ p n S sb ms){k m q:Nat}(hm:ms[k]?=some m){x:Int}(hx:x=((q*2^k:Nat):Int)){K:Option Bool->Prop}
 (hK:K (if can S k q then some true else none)):Lk .i64 .b (some m) x σ K:=by
 obtain⟨B,hB,hk⟩:=h.maps k m hm;exact⟨B,hB,by rw[hx,Whp hk hB.nodup];exact hK⟩
theorem GR {k:Nat}{B:List (Int×Bool)}(hK:Keys S k B)(hn:(B.map (·.1)).Nodup)(hb:Bounded S n):B.length=many n S k:=by
 have hp:(B.map (·.1)).Perm (((List.range n).filter (can S k)).map λq=>((q*2^k:Nat):Int)):=by
  rw[zEF hn]
  ·intro x;simp only[zC,zH,zW];constructor
   ·rintro⟨⟨x1,x2⟩,hm,rfl⟩;obtain⟨_,q,hx,hc⟩:=hK.1 x1 x2 hm;refine⟨q,⟨?_,hc⟩,hx.symm⟩;have:=Zd hb (Y8.1 hc).1;have h1:=zv k;have h2:q<=q*2^k:=zFN _ h1;omega
   ·rintro⟨q,⟨_,hc⟩,rfl⟩;exact⟨_,hK.2 q hc,rfl⟩
  ·have hnd:((List.range n).filter (can S k)).Pairwise (· ≠ ·):=List.Pairwise.sublist zCS zEZ;refine List.Pairwise.map _ (λa b (hne:a≠b) hab=>hne ?_) hnd;have:a*2^k=b*2^k:=by exact_mod_cast hab
   exact zEE (zv k) this
 have:=hp.length_eq;simp only[zh]at this;rw[this,many,zEG]
theorem BH.mlen (h:BH σ p n S sb ms){k m:Nat}(hm:ms[k]?=some m){K:Int->Prop}(hK:K ((many n S k:Nat):Int)):MLen .i64 .b (some m) σ K:=by
 obtain⟨B,hB,hk⟩:=h.maps k m hm;exact⟨B,hB,by rw[GR hk hB.nodup h.bnd];exact hK⟩
theorem BH.turn (h:BH σ p n S sb ms){k m:Nat}{T:Nat->Bool}(hm:ms[k]?=some m)(ho:ZY σ h' m){B':List (Int×Bool)}(hB':MapL h' m .i64 .b B')(hK':Keys T k B')
 (hoth:∀j q,j≠k->can T j q=can S j q) (hT:Bounded T n):BH h' p n T sb ms where
 hd:=by
  obtain⟨cap,hb⟩:=h.hd;refine⟨cap,Wr ho hb ?_⟩;have:=h.nd;simp only[zm,zX,not_or]at this;rintro rfl;exact this.1.2 (zE hm)
 row:=by
  obtain⟨rest,hb⟩:=h.row;refine⟨rest,Wr ho hb ?_⟩;have:=h.nd;simp only[zm,zX,not_or]at this;rintro rfl;exact this.2.1 (zE hm)
 maps:=λj m' hm'=>by
  by_cases e:j=k
  ·subst e;rw[hm]at hm';cases hm';exact⟨B',hB',hK'⟩
  ·obtain⟨B,hB,hKj⟩:=h.maps j m' hm';refine⟨B,Wbr ho hB ?_,?_⟩
   ·rintro rfl;have hnd:=h.nd;simp only[zm]at hnd;exact e ((List.getElem?_inj (gSi.1 hm').1 hnd.2.2).1 (hm'.trans hm.symm))
   ·refine⟨λx v hx=>?_,λq hq=>hKj.2 q (by rw[←hoth j q e];exact hq)⟩;obtain⟨hv,q,hxq,hc⟩:=hKj.1 x v hx;exact⟨hv,q,hxq,by rw[hoth j q e];exact hc⟩
 nd:=h.nd
 n1:=h.n1
 n2:=h.n2
 lo:=h.lo
 hi:=h.hi
 bnd:=hT
theorem Wkw (hb:Bounded S n)(k q:Nat):Bounded (del S k q) n:=λx hx=>hb x (Kt.1 hx).1
theorem WeZ (hb:Bounded S n){k q:Nat}(hf:q*2^k+2^k<=n):Bounded (ins S k q) n:=λx hx=>by
 rcases Kv.1 hx with h|h
 ·exact hb x h
 ·have:=Zv.1 h;omega
theorem WgF {a b:Bool}(h:a=true↔b=true):a=b:=by cases a<;>cases b<;>simp_all
theorem BH.mdelR (h:BH σ p n S sb ms){k m q:Nat}(hm:ms[k]?=some m)(hc:can S k q=true){x:Int}(hx:x=((q*2^k:Nat):Int)){K:Hp->Prop}
 (hK:∀h',Ext (· ∈ ms) σ h'->BH h' p n (del S k q) sb ms->K h'):MDel .i64 .b (some m) x σ K:=by
 obtain⟨B,hB,hk⟩:=h.maps k m hm;refine⟨B,hB,λh' ho _ hB'=>hK h' (Ext.of_only (ho m rfl) (zE hm)) ?_⟩;refine h.turn hm (ho m rfl) hB' ⟨λy v hy=>?_,λr hr=>?_⟩ (λj r hj=>WgF ?_) (Wkw h.bnd k q)
 ·simp only[mdel,zH,zAO,zAR]at hy;obtain⟨hv,r,hyr,hcr⟩:=hk.1 y v hy.1;refine⟨hv,r,hyr,(Wci hc).2 ⟨hcr,λe=>hy.2 ?_⟩⟩;rw[hyr,hx,e.2]
 ·have hr':=(Wci hc).1 hr;simp only[mdel,zH,zAO,zAR];refine⟨hk.2 r hr'.1,λe=>hr'.2 ⟨rfl,?_⟩⟩;rw[hx]at e;have:r*2^k=q*2^k:=by exact_mod_cast e
  exact zEE (zv k) this
 ·rw[Wci hc];exact⟨λh=>h.1,λh=>⟨h,λe=>hj e.1⟩⟩
theorem BH.msetR (h:BH σ p n S sb ms){k m q:Nat}(hm:ms[k]?=some m)(hd:∀y,y/2^k=q->S y=false)(hup:¬full (ins S k q) (k+1) (q/2)=true)(hf:q*2^k+2^k<=n)
 {x:Int} (hx:x=((q*2^k:Nat):Int)) {K:Hp->Prop} (hK:∀h',Ext (· ∈ ms) σ h'->BH h' p n (ins S k q) sb ms->K h'):MSet .i64 .b (some m) x true σ K:=by
 obtain⟨B,hB,hk⟩:=h.maps k m hm;refine⟨m,B,rfl,hB,λh' ho hB'=>hK h' (Ext.of_only ho (zE hm)) ?_⟩;have hnew:∀y∈B,(y.1==x)=false:=by
  rintro⟨y,v⟩ hy;obtain⟨_,r,hyr,hcr⟩:=hk.1 y v hy;simp only[zAR];rintro rfl;rw[hx]at hyr;have:q*2^k=r*2^k:=by exact_mod_cast hyr
  have:=zEE (zv k) this;subst this;have h1:=QV hcr (QG k q);rw[hd _ (QG k q)]at h1;cases h1
 have hset:mset B x true=B++[(x,true)]:=by
  unfold mset;rw[zA];simp only[zBJ,zAP];intro y hy;simp[hnew y hy]
 refine h.turn hm ho hB' ?_ (λj r hj=>WgF ?_) (WeZ h.bnd hf)
 ·rw[hset];refine⟨λy v hy=>?_,λr hr=>?_⟩
  ·simp only[zM,zR,Prod.mk.injEq]at hy;rcases hy with hy|⟨rfl,rfl⟩
   ·obtain⟨hv,r,hyr,hcr⟩:=hk.1 y v hy;exact⟨hv,r,hyr,(Waw hd hup).2 (.inl hcr)⟩
   ·exact⟨rfl,q,hx,(Waw hd hup).2 (.inr ⟨rfl,rfl⟩)⟩
  ·rcases(Waw hd hup).1 hr with h1|⟨_,rfl⟩
   ·exact zAM _ (hk.2 r h1)
   ·rw[hx];exact zBL _ (by simp)
 ·rw[Waw hd hup];exact⟨λh=>h.elim id λe=>(hj e.1).elim,.inl⟩
end Go.Bu
namespace Go.Vc
open Go
theorem KE {b o:Nat}:∀{vs:List Value} {h:Hp} {cs:List Value} {i:Nat} {K:Hp->Prop},Blk h b cs->o+i+vs.length<=cs.length →
 (∀h',ZY h h' b->Blk h' b (cs.take (o+i)++vs++cs.drop (o+i+vs.length))->K h')->StN ⟨b,o,none⟩ h vs i K
 | [],h,cs,i,K,hb,hl,hK=>hK h ⟨rfl,λ_ _=>rfl⟩ (by simpa using hb)
 | v::vs,h,cs,i,K,hb,hl,hK=>by
  simp only[zU]at hl;refine⟨?_,?_,?_⟩
  ·rw[add_lit,hb.cell,gGe (by omega)];rfl
  ·rw[add_lit];exact hb.frz
  ·rw[add_lit];have hb':=hb.set (o:=o+i) v;refine KE hb' (by simp;omega) λh' ho hb''=>hK h' ?_ ?_
   ·exact⟨ho.1.trans (Ka _ _ _),λc hc=>(ho.2 c hc).trans (KA hc)⟩
   ·have e:(cs.set (o+i) v).take (o+(i+1))++vs++(cs.set (o+i) v).drop (o+(i+1)+vs.length)=cs.take (o+i)++v::vs++cs.drop (o+i+(v::vs).length):=by
     rw[List.drop_set_of_lt (by omega),show o+(i+1)=(o+i)+1 by omega,zr,List.take_set_of_le (by omega),zK (by omega)];simp only[zDK,zAC,List.singleton_append,zAV,zCK,zU]
     congr 4
     omega
    rw[e]at hb'';exact hb''
def Own (Q:Nat->Prop)(h:Hp)(s:Sl)(sz:Nat)(xs:List Value):Prop:=
 xs.length=s.len*sz/\(s.a=none/\s.len=0/\s.cap=0\/∃b cs,Q b/\s.a=some ⟨b,0,none⟩/\Blk h b cs/\s.len<=s.cap/\cs.length=s.cap*sz/\cs.take xs.length=xs)
def V9 (s:Sl)(b:Nat):Prop:=∃o,s.a=some ⟨b,o,none⟩
theorem Own.nil (Q:Nat->Prop)(h:Hp)(sz:Nat):Own Q h ⟨none,0,0⟩ sz []:=⟨by simp,.inl ⟨rfl,rfl,rfl⟩⟩
theorem Own.keep {Q F:Nat->Prop}{h h':Hp}{s:Sl}{sz:Nat}{xs:List Value}(ho:Own Q h s sz xs)(e:Ext F h h')(hF:∀b,Q b->b<h.size->¬F b):Own Q h' s sz xs:=by
 refine⟨ho.1,ho.2.imp id ?_⟩;rintro⟨b,cs,hq,ha,hb,r⟩;exact⟨b,cs,hq,ha,e.blk hb (hF b hq hb.lt),r⟩
theorem Own.keep0 {Q:Nat->Prop}{h h':Hp}{s:Sl}{sz:Nat}{xs:List Value}(ho:Own Q h s sz xs)(e:Ext0 h h'):Own Q h' s sz xs:=ho.keep e λ_ _ _ h=>h
theorem Own.mono {Q Q':Nat->Prop}{h:Hp}{s:Sl}{sz:Nat}{xs:List Value}(ho:Own Q h s sz xs)(hq:∀b,b<h.size->Q b->Q' b):Own Q' h s sz xs:=by
 refine⟨ho.1,ho.2.imp id ?_⟩;rintro⟨b,cs,hQ,ha,hb,r⟩;exact⟨b,cs,hq b hb.lt hQ,ha,hb,r⟩
theorem Own.blk_lt {Q:Nat->Prop}{h:Hp}{s:Sl}{sz:Nat}{xs:List Value}(ho:Own Q h s sz xs){b:Nat}(hb:V9 s b):Q b/\b<h.size:=by
 obtain⟨o,ho'⟩:=hb;rcases ho.2 with⟨ha,_⟩|⟨b',cs,hq,ha,hk,_⟩
 ·rw[ha]at ho';cases ho'
 ·rw[ha]at ho';cases ho';exact⟨hq,hk.lt⟩
theorem Own.rd {Q:Nat->Prop}{h:Hp}{s:Sl}{sz:Nat}{xs:List Value}(ho:Own Q h s sz xs):Rd h s.a xs:=by
 rcases ho.2 with⟨ha,hl,_⟩|⟨b,cs,_,ha,hb,_,_,ht⟩
 ·rw[ha];have:=ho.1;rw[hl]at this;simp at this;exact this
 ·rw[ha];intro j v hv;rw[add_lit,hb.cell,zG];rw[←ht,zg]at hv;split at hv
  ·exact hv
  ·cases hv
theorem Own.cell {Q:Nat->Prop}{h:Hp}{s:Sl}{sz:Nat}{xs:List Value}(ho:Own Q h s sz xs){j:Nat}{v:Value}(hv:xs[j]?=some v):∃b,s.a=some ⟨b,0,none⟩/\Vc.cell h ⟨b,j,none⟩=some v:=by
 rcases ho.2 with⟨ha,hl,_⟩|⟨b,cs,_,ha,hb,_,_,ht⟩
 ·have:=ho.1;rw[hl]at this;simp at this;subst this;simp at hv
 ·refine⟨b,ha,?_⟩;rw[hb.cell];rw[←ht,zg]at hv;split at hv
  ·exact hv
  ·cases hv
theorem Own.app {Q:Nat->Prop}{h:Hp}{s x:Sl}{sz bytes e:Nat}{zs xs ys:List Value}{K:Sl->Hp->Prop}(ho:Own Q h s sz xs)(hq:∀b,h.size<=b->Q b)(hz:zs.length=sz)
 (hy:ys.length=x.len*sz) (hr:Rd h x.a ys) (h1:∀v∈ys,one1 v=true) (hb:(s.len+x.len)*bytes<=2^46) (hc:s.len+x.len<=2^62)
 (hx:0<x.len) (hK:∀s' h',s'.len=s.len+x.len->Ext (V9 s) h h'->Own Q h' s' sz (xs++ys)->s'.a≠none->K s' h'):App s sz bytes e zs x h K:=by
 refine⟨xs,ys,ho.1,hy,ho.rd,hr,h1,hb,hc,λhin=>?_,λhout c hcc=>?_⟩
 ·rcases ho.2 with⟨ha,hl,hcap⟩|⟨b,cs,hQ,ha,hk,hle,hcl,ht⟩
  ·omega
  ·rw[ha];simp only;rw[add_lit];have hm:(s.len+x.len)*sz<=s.cap*sz:=zAG _ hin;rw[zc]at hm;have hxl:=ho.1;refine KE hk (by omega) λh' ho' hb'=>hK _ h' rfl (Ext.of_only ho' ⟨0,ha⟩) ⟨?_,.inr ⟨b,_,hQ,rfl,hb',hin,?_,?_⟩⟩ (by simp)
   ·simp[hxl,hy,zc]
   ·simp;omega
   ·rw[zJ,hxl];rw[zG,zt,←hxl];rw[ht,zBM (by simp),zAZ (by simp)]
 ·refine hK _ _ rfl (Ext.push _ _ _) ⟨by simp[ho.1,hy,zc],.inr ⟨h.size,xs++ys++(List.replicate (c-(s.len+x.len)) zs).flatten,hq _ (zD _),rfl,⟨e,by simp⟩,hcc,?_,?_⟩⟩ (by simp)
  ·simp only[zJ,zDL,zCX,zDM,ho.1,hy,hz,←zc]
   congr 1;omega
  ·rw[zBM (by simp),zAZ (by simp)]
theorem Wla {h:Hp}{v:Value}{e:Nat}:Rd (h.push (.cells #[v] e (0,0))) (some ⟨h.size,0,none⟩) [v]:=by
 intro j u hu;rw[add_lit];cases j with
 | zero=>simp at hu;subst hu;simp[Vc.cell]
 | succ j=>simp at hu
theorem Blk.st1 {h:Hp}{b o:Nat}{cs:List Value}(hb:Blk h b cs){v:Value}(ho:o<cs.length){K:Hp->Prop}(hK:∀h',ZY h h' b->Blk h' b (cs.set o v)->K h'):St1 (Addr.add ⟨b,0,none⟩ o) v h K:=by
 rw[add_lit,zG];refine⟨?_,hb.frz,hK _ ⟨Ka _ _ _,λc hc=>KA hc⟩ (hb.set v)⟩;rw[hb.cell,gGe ho];rfl
theorem Blk.push (h:Hp)(cs:List Value)(e:Nat):Blk (h.push (.cells cs.toArray e (0,0))) h.size cs:=⟨e,by simp⟩
theorem MapL.push (h:Hp)(k:IntKind)(c:CK):MapL (h.push (.map #[] 0)) h.size k c []:=⟨#[],0,by simp,by simp,by simp,by simp,by simp⟩
theorem Ext.only {F:Nat->Prop}{a b c:Hp}{r:Nat}(e:Ext F a b)(ho:ZY b c r)(hr:F r\/a.size<=r):Ext F a c:=
 ⟨by rw[ho.1];exact e.1,λi hi hf=>by
  rw[ho.2 i ?_];exact e.2 i hi hf;rintro rfl;rcases hr with h|h
  ·exact hf h
  ·omega⟩
theorem Ext.fresh {a b c:Hp}{F:Nat->Prop}(e:Ext0 a b)(k:Ext F b c)(hF:∀i,F i->a.size<=i):Ext0 a c:=
 ⟨ze e.1 k.1,λi hi _=>(k.2 i (zDJ hi e.1) λhf=>by have:=hF i hf;omega).trans (e.2 i hi id)⟩
theorem Own.st {Q:Nat->Prop}{h:Hp}{s:Sl}{sz:Nat}{xs:List Value}(ho:Own Q h s sz xs){j:Nat}(hj:j<xs.length){v:Value}{K:Hp->Prop}{a:Addr}(ha:∀b,s.a=some ⟨b,0,none⟩->a=⟨b,j,none⟩)
 (hK:∀h',Ext (V9 s) h h'->Own Q h' s sz (xs.set j v)->K h'):St1 a v h K:=by
 rcases ho.2 with⟨h1,hl,_⟩|⟨b,cs,hq,hsa,hb,hle,hcl,ht⟩
 ·have:=ho.1;rw[hl]at this;simp at this;subst this;simp at hj
 ·rw[ha b hsa];have hjc:j<cs.length:=by
   have:(cs.take xs.length).length=xs.length:=by rw[ht]
   rw[zY]at this;omega
  refine⟨by rw[hb.cell,gGe hjc];rfl,hb.frz,hK _ (Ext.setc (F:=V9 s) ⟨0,hsa⟩) ⟨by simp[ho.1],.inr ⟨b,_,hq,hsa,hb.set v,hle,by simp[hcl],?_⟩⟩⟩;rw[zBQ,List.take_set,ht]
end Go.Vc