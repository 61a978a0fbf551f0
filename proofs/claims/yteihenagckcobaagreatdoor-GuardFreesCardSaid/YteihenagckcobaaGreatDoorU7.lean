/- Texts joined. -/
import Derived.Shelf.SlSortCmp.NoneTotal
import Derived.Ground.SlsfProg
import Derived.Test.YteihenagckcobaaGreatDoorProg
import Derived.Shelf.SlIterI.Nil
import Derived.Ground.GgzProg
import Derived.Test.YteihenagckcobaaGreatDoorU6
set_option linter.unusedVariables false
set_option linter.unusedSimpArgs false
namespace Go.Ar
open Go Go.Vc Go.Proofs
variable {U w:Hp}
def mw:Nat->Int->Int->List T3
 | 0,_,_=>[]
 | n+1,s,w=>if s<512 then kV s w::mw n (s+wm s w) w else[]
def allM (w:Int):List T3:=mw 64 8 w++[kV 512 w]
def G2 (l:List T3)(i:Nat):Bool:=i==l.length-1||(match l[i]?,l[i+1]? with
 | some x,some y=>x.2.1 != y.2.1||mh x != mh y
 | _,_=>false)
def lU (l:List T3)(n:Nat):List T3:=(List.range n).filterMap λi=>if G2 l i then l[i]? else none
def qb (w:Int):List T3:=lU (allM w) (allM w).length
def sN (x:T3):Prop:=8<=x.1/\x.1<=512/\1<=x.2.1/\x.2.1<=4
theorem DX (s w:Int)(h1:8<=s)(h2:s<=512):sN (kV s w):=⟨h1,h2,OI s w 4⟩
theorem tD {Q:Rg}{s:Sl}{l:List T3}{e1 e2:Nat}(ho:Go.Vc.Own Q U s 3 (j9 l))(hQ:∀b,U.size<=b->Q b)(hl:l.length<=1000)(x:T3){K:Sl->Hp->Prop}(hK:∀s' σ',Ext Q U σ'->Go.Vc.Own Q σ' s' 3 (j9 (l++[x]))->K s' σ') :
 Nw (.cells #[.int .i64 x.1,.int .i64 x.2.1,.int .i64 x.2.2] e1 (0,0)) U λn20 v3=>App s 3 24 e2 [.int .i64 0,.int .i64 0,.int .i64 0] ⟨some n20,1,1⟩ v3 K:=by
 have m:s.len=l.length:=by have:=ho.1;rw[Ub]at this;omega
 refine nw (cs:=v3 x) λv p e a=>?_;refine(ho.bO e).app (ys:=v3 x) (λb a=>hQ b O) rfl rfl ?_ (by simp[v3,dN]) ?_ ?_ mO λs' i _ d g _=>hK s' i ?_ ?_
 ·intro j u hu;rw[add_lit,zH,a.cell];exact hu
 ·simp only;have:(s.len+1)*24<=1001*24:=l0 O O;omega
 ·simp only;omega
 ·exact(bK.to e).trans (d.sub λb a=>((ho.bO e).jj a).1)
 ·rw[Bj];exact g
theorem J0 (w:Int)(h:w<2\/16<w){R:Sl->Int->Hp->Prop}(hR:R ⟨none,0,0⟩ 1 U):WQ.c w U R:=by
 refine WQ.o ?_;unfold WQ.v;exact bW.intro (cQ (λa=>cD rfl hR) λa=>cD (zJ O) hR)
theorem E8 (w:Int)(hw1:2<=w)(hw2:w<=16){R:Sl->Int->Hp->Prop}(hR:∀s' σ',bK U σ'->ig σ' s' (qb w)->R s' 0 σ'):WQ.c w U R:=by
 refine WQ.o ?_;unfold WQ.v;refine bW.intro (fT O (cB (zM O) ?_));refine UC (a:=.s) (bb:=bN) (λ(all:Sl) (s:Int) u=>∃(n:Nat) (done:List T3),8<=s/\s<=768/\bK U u/\Go.Vc.Own (λb=>U.size<=b) u all 3 (j9 done)/\done++mw n s w=mw 64 8 w/\512<=s+8*(n:Int)/\(∀x∈done,sN x)/\done.length+n=64) (λ_ s _=>1000-s.toNat) ⟨64,[],O,O,Ext.refl _ _,Own.nil _ _ _,rfl,O,by simp,by simp⟩ ?_;rintro(all:Sl) (s:Int) u ⟨n,done,hs1,hs2,eu,ho,hdone,hn,hok,hlen⟩;refine cQ (λS=>?_) λX=>?_
 ·obtain⟨n,rfl⟩:∃m,n=m+1:=⟨n-1,O⟩;refine EN s w O O hw1 hw2 λv2 e2=>?_;refine tD (ho.bO e2) (λb E=>by have:=eu.1;have:=e2.1;omega) O (kV s w) λall1 v4 e4 h4=>?_;have e04:bK U v4:=Ext.dS (eu.trans e2) e4 λb E=>.inr E;refine SN s w O O hw1 λd1 d2=>ar O O ⟨⟨n,done++[kV s w],O,O,e04,h4,?_,O,λx B=>?_,by simp;omega⟩,O⟩
  ·rw[←hdone,j3]
   congr 1
   conv=>rhs;rw[mw,zC S]
   rfl
  ·rcases zK.1 B with h1|h1
   ·exact hok x h1
   ·rw[zN]at h1;subst h1;exact DX s w O O
 ·have V:mw n s w=[]:=by
   cases n with
   | zero=>rfl
   | succ n=>rw[mw,zB X]
  rw[V,kI]at hdone;refine EN 512 w O O hw1 hw2 λv6 e6=>?_;refine tD (ho.bO e6) (λb E=>by have:=eu.1;have:=e6.1;omega) O (kV 512 w) λe v8 e8 J=>?_;have e08:bK U v8:=Ext.dS (eu.trans e6) e8 λb E=>.inr E;rw[hdone]at J;have A:∀x∈allM w,sN x:=λx B=>by
   rcases zK.1 B with h1|h1
   ·rw[←hdone]at h1;exact hok x h1
   ·rw[zN]at h1;subst h1;exact DX 512 w O O
  have hml:(allM w).length<=65:=by unfold allM;rw[←hdone];simp;omega
  have J:Go.Vc.Own (λb=>U.size<=b) v8 e 3 (j9 (allM w)):=J;generalize hall:allM w=l at J A hml;have hmk:qb w=lU l l.length:=by unfold qb;rw[hall]
  have hl2:e.len=l.length:=by have:=J.1;rw[Ub]at this;omega
  refine UC (a:=.s) (bb:=bN) (λ(out:Sl) (z:Int) u=>∃i:Nat,z=(i:Int)/\i<=l.length/\bK v8 u/\Go.Vc.Own (λb=>v8.size<=b) u out 3 (j9 (lU l i))/\(lU l i).length<=i) (λ_ z _=>l.length-z.toNat) ⟨0,rfl,O,Ext.refl _ _,Own.nil _ _ _,by simp[lU]⟩ ?_;rintro(out:Sl) (z:Int) u ⟨i,rfl,hi,eu8,hout,hol⟩;refine cQ (λS=>?_) λX=>?_
  ·have hi':i<l.length:=by omega
   have B:l[i]?=some l[i]:=cT hi';generalize l[i]=x at B;have D:=A x (zG B);have g:lU l (i+1)=lU l i++(if G2 l i then[x]else[]):=by
    unfold lU;rw[qm,vo]
    congr 1
    by_cases hk:G2 l i=true
    ·simp[hk,B]
    ·simp[hk]
   have hA:∀m,bK u m->ig m e l:=λm d=>Dp (J.bO (eu8.trans d));refine yL (λr u'=>bK u u'/\r=G2 l i) (λr u' ⟨j,hr⟩=>?_) λJ3 H=>?_
   ·have N:=hout.bO j;cases hk:G2 l i with
    | true=>
     rw[hk]at hr g;refine cD hr (yd (hA u' j) B ?_);refine tD N (λb E=>by have:=eu8.1;have:=j.1;omega) O x λout1 v12 e12 h12=>?_;refine cP (m:=i+1) O O ⟨⟨i+1,rfl,O,Ext.dS (eu8.trans j) e12 λb E=>.inr E,?_,?_⟩,O⟩
     ·rw[g];exact h12
     ·rw[g];simp;omega
    | false=>
     rw[hk]at hr g;refine cB hr (cP (m:=i+1) O O ⟨⟨i+1,rfl,O,eu8.trans j,?_,?_⟩,O⟩)
     ·rw[g];simpa using N
     ·rw[g];simp;omega
   ·refine⟨λm=>bK u m,Ext.refl _ _,ar O O ?_⟩;refine cO (λF=>H _ _ ⟨Ext.refl _ _,?_⟩) λhnl=>?_
    ·have:i=l.length-1:=by simp only[zT]at F;omega
     unfold G2;rw[this];simp
    ·have hi2:i+1<l.length:=by simp only[mJ]at hnl;omega
     have Y:l[i+1]?=some l[i+1]:=cT hi2;generalize l[i+1]=y at Y;have C:=A y (zG Y);have Q:G2 l i=(x.2.1 != y.2.1||mh x != mh y):=by
      unfold G2;rw[B,Y];have:(i==l.length-1)=false:=by simp only[mJ];omega
      rw[this];rfl
     have M:=λ(m:Hp) (d:bK u m)=>(hA m d).2 i x.1 x.2.1 x.2.2 B;have hcy:=λ(m:Hp) (d:bK u m)=>(hA m d).2 (i+1) y.1 y.2.1 y.2.2 Y;obtain⟨b,o,Z,_,_⟩:=M u (Ext.refl _ _);have rx:∀m,bK u m->cell m ⟨b,o+i*3,none⟩=some (.int .i64 x.1)/\cell m ⟨b,o+i*3+1,none⟩=some (.int .i64 x.2.1)/\cell m ⟨b,o+i*3+2,none⟩=some (.int .i64 x.2.2):=λm d=>by
      obtain⟨b',o',p,_,h⟩:=M m d;rw[Z]at p;cases p;exact h
     have ry:∀m,bK u m->cell m ⟨b,o+(i+1)*3,none⟩=some (.int .i64 y.1)/\cell m ⟨b,o+(i+1)*3+1,none⟩=some (.int .i64 y.2.1)/\cell m ⟨b,o+(i+1)*3+2,none⟩=some (.int .i64 y.2.2):=λm d=>by
      obtain⟨b',o',p,_,h⟩:=hcy m d;rw[Z]at p;cases p;exact h
     have L:∀{K:Addr->Prop},K ⟨b,o+i*3,none⟩->Ix e.a e.len (i:Int) 3 K:=λhK=>by
      rw[Z];exact ix O O (by rw[add_lit,dE];exact hK)
     have W:∀{K:Addr->Prop},K ⟨b,o+(i+1)*3,none⟩->Ix e.a e.len ((i+1:Nat):Int) 3 K:=λhK=>by
      rw[Z];exact ix O O (by rw[add_lit,dE];exact hK)
     refine L ⟨x.2.1,λm d=>by rw[add_lit];exact(rx m d).2.1,cP (m:=i+1) O O (W ⟨y.2.1,λm d=>by rw[add_lit];exact(ry m d).2.1,?_⟩)⟩;refine cO (λhp=>H _ _ ⟨Ext.refl _ _,by rw[Q,hp];rfl⟩) λhp=>?_;refine L ⟨x.1,λm d=>by rw[add_lit];exact(rx m d).1,⟨x.2.1,λm d=>by rw[add_lit];exact(rx m d).2.1,⟨x.2.2,λm d=>by rw[add_lit];exact(rx m d).2.2,?_⟩⟩⟩;refine cP (m:=i+1) O O (W ⟨y.1,λm d=>by rw[add_lit];exact(ry m d).1,⟨y.2.1,λm d=>by rw[add_lit];exact(ry m d).2.1,⟨y.2.2,λm d=>by rw[add_lit];exact(ry m d).2.2,?_⟩⟩⟩);refine F0 x D.1 D.2.1 D.2.2.1 D.2.2.2 λv13 G=>⟨G,F0 y C.1 C.2.1 C.2.2.1 C.2.2.2 λv14 P=>⟨G.trans P,H _ _ ⟨G.trans P,by rw[Q,hp];rfl⟩⟩⟩
  ·have hil:i=l.length:=by omega
   subst hil;refine hR out u (e08.trans eu8) ?_;rw[hmk];exact Dp hout
theorem Hj:∀w:Nat,2<=w->w<=16->Qg (qb (w:Int))=true:=by
 have h:((List.range 17).all λw=>decide (w<2)||Qg (qb (w:Int)))=true:=by decide +kernel
 intro w h1 h2;have:=j4.1 h w (zg.2 O);simp only[nr,zU]at this;exact this.resolve_left O
end Go.Ar
namespace Go.Proofs
open Go.Shelf
def Tryz.eO:Go.Shelf.Ren:=⟨fun|6=>263|15=>87|14=>291|28=>128|29=>129|20=>311|21=>312|22=>313|23=>314|24=>315|25=>316|26=>317|27=>318|46=>324|47=>185|48=>186|49=>325|50=>326|57=>328|n=>n,fun|22=>129|24=>135|25=>341|3=>3|39=>145|0=>0|53=>196|55=>55|4=>4|46=>188|45=>187|50=>193|5=>5|9=>9|66=>271|70=>275|76=>324|77=>325|n=>n,fun|n=>n⟩
theorem Tryz.n4:Go.Proofs.SlLaysF0.n6 Tryz.prog Tryz.eO:={
 mixed:=by kernel_rfl
 f6:=⟨Tryz.f263.name,by decide,Tryz.func263.trans (congrArg some (by kernel_rfl))⟩
 f14:=⟨Tryz.f291.name,by decide,Tryz.func291.trans (congrArg some (by kernel_rfl))⟩
 f15:=Tryz.func87.trans (congrArg some (by kernel_rfl))
 f20:=⟨Tryz.f311.name,by decide,Tryz.func311.trans (congrArg some (by kernel_rfl))⟩
 f21:=⟨Tryz.f312.name,by decide,Tryz.func312.trans (congrArg some (by kernel_rfl))⟩
 f22:=⟨Tryz.f313.name,by decide,Tryz.func313.trans (congrArg some (by kernel_rfl))⟩
 f23:=⟨Tryz.f314.name,by decide,Tryz.func314.trans (congrArg some (by kernel_rfl))⟩
 f24:=⟨Tryz.f315.name,by decide,Tryz.func315.trans (congrArg some (by kernel_rfl))⟩
 f25:=⟨Tryz.f316.name,by decide,Tryz.func316.trans (congrArg some (by kernel_rfl))⟩
 f26:=⟨Tryz.f317.name,by decide,Tryz.func317.trans (congrArg some (by kernel_rfl))⟩
 f27:=⟨Tryz.f318.name,by decide,Tryz.func318.trans (congrArg some (by kernel_rfl))⟩
 f28:=Tryz.func128.trans (congrArg some (by kernel_rfl))
 f29:=Tryz.func129.trans (congrArg some (by kernel_rfl))
 f46:=⟨Tryz.f324.name,by decide,Tryz.func324.trans (congrArg some (by kernel_rfl))⟩
 f47:=Tryz.func185.trans (congrArg some (by kernel_rfl))
 f48:=Tryz.func186.trans (congrArg some (by kernel_rfl))
 f49:=⟨Tryz.f325.name,by decide,Tryz.func325.trans (congrArg some (by kernel_rfl))⟩
 f50:=⟨Tryz.f326.name,by decide,Tryz.func326.trans (congrArg some (by kernel_rfl))⟩
 f57:=⟨Tryz.f328.name,by decide,Tryz.func328.trans (congrArg some (by kernel_rfl))⟩
 t0:=Tryz.underlying0
 a0:=Tryz.isAgg0
 z0:=Tryz.sizeOf0
 v0:=Tryz.zeroValue0
 t3:=Tryz.underlying3
 a3:=Tryz.isAgg3
 z3:=Tryz.sizeOf3
 v3:=Tryz.zeroValue3
 t4:=Tryz.underlying4
 a4:=Tryz.isAgg4
 z4:=Tryz.sizeOf4
 v4:=Tryz.zeroValue4
 t5:=Tryz.underlying5
 a5:=Tryz.isAgg5
 z5:=Tryz.sizeOf5
 v5:=Tryz.zeroValue5
 t9:=Tryz.underlying9
 a9:=Tryz.isAgg9
 z9:=Tryz.sizeOf9
 v9:=Tryz.zeroValue9
 t22:=Tryz.underlying129
 a22:=Tryz.isAgg129
 z22:=Tryz.sizeOf129
 v22:=Tryz.zeroValue129
 t25:=Tryz.underlying341
 a25:=Tryz.isAgg341
 z25:=Tryz.sizeOf341
 v25:=Tryz.zeroValue341
 t39:=Tryz.underlying145
 a39:=Tryz.isAgg145
 z39:=Tryz.sizeOf145
 v39:=Tryz.zeroValue145
 t45:=Tryz.underlying187
 a45:=Tryz.isAgg187
 z45:=Tryz.sizeOf187
 v45:=Tryz.zeroValue187
 t46:=Tryz.underlying188
 a46:=Tryz.isAgg188
 z46:=Tryz.sizeOf188
 v46:=Tryz.zeroValue188
 t50:=Tryz.underlying193
 a50:=Tryz.isAgg193
 z50:=Tryz.sizeOf193
 v50:=Tryz.zeroValue193
 t53:=Tryz.underlying196
 a53:=Tryz.isAgg196
 z53:=Tryz.sizeOf196
 v53:=Tryz.zeroValue196
 t55:=Tryz.underlying55
 a55:=Tryz.isAgg55
 z55:=Tryz.sizeOf55
 v55:=Tryz.zeroValue55
 t66:=Tryz.underlying271
 a66:=Tryz.isAgg271
 z66:=Tryz.sizeOf271
 v66:=Tryz.zeroValue271
 t70:=Tryz.underlying275
 a70:=Tryz.isAgg275
 z70:=Tryz.sizeOf275
 v70:=Tryz.zeroValue275
 t76:=Tryz.underlying324
 a76:=Tryz.isAgg324
 z76:=Tryz.sizeOf324
 v76:=Tryz.zeroValue324
 t77:=Tryz.underlying325
 a77:=Tryz.isAgg325
 z77:=Tryz.sizeOf325
 v77:=Tryz.zeroValue325}
end Go.Proofs
namespace Go.Ar
open Go Go.Vc Go.Proofs Go.RowKit Go.Sort Go.Shelf Go.Lib
abbrev sH:=Fin 64×Sl
instance:Inhabited sH:=⟨(0,⟨none,0,0⟩)⟩
def kB (x:sH):List Value:=[.int .i64 (x.1.val:Int),.slice x.2.a x.2.len x.2.cap]
def oL (x y:sH):Int:=(x.1.val:Int)-(y.1.val:Int)
theorem Ch (x y:sH)(W:World):Calls Tryz.prog 264 #[.agg #[.int .i64 (x.1.val:Int),.slice x.2.a x.2.len x.2.cap],.agg #[.int .i64 (y.1.val:Int),.slice y.2.a y.2.len y.2.cap]] W λe w'=>e=.returned (.int .i64 (oL x y))/\∃q os',w'=grow (W.drewN q) os':=by
 have b:IntKind.i64.wrap ((x.1.val:Int)-(y.1.val:Int))=oL x y:=by
  have d:=x.1.isLt;have g:=y.1.isLt;unfold oL;exact Uv O O
 go_enter Tryz.func264,Tryz.ntmps264
 go_wp2
 go_ret
 exact⟨rfl,0,_,by rw[alloc_eq_grow,alloc_eq_grow,grow_grow];rfl⟩
theorem Ci:SWO (ltOf oL) where
 irrefl x:=by simp[ltOf,oL]
 trans x y z a h2:=by
  have a:=re a;have h2:=re h2;unfold oL at a h2;exact zJ (by unfold oL;omega)
 ntrans x y z a h2:=by
  have a:=vX a;have h2:=vX h2;unfold oL at a h2;exact zM (by unfold oL;omega)
def sC (x:sH):Nat×Sl:=(x.1.val,x.2)
theorem Fq (l:List sH)(j:Nat)(hj:j<l.length*2):(fD (l.map sC))[j]?=some (flatK kB 2 l.toArray)[j]! := by
 rw[get_flatK _ _ _ _ (by simpa using hj)];have a:j/2<l.length:=by omega
 have e1:l.toArray[j/2]! = l[j/2]:=by rw[getElem!_pos _ _ (by simpa using a)];simp
 have b:(l.map sC)[j/2]?=some (sC l[j/2]):=by simp[a]
 have:=IZ b (d:=j%2) O;rw[show 2*(j/2)+j%2=j by omega]at this;rw[this,e1];have hd:j%2=0\/j%2=1:=by omega
 rcases hd with h|h<;>rw[h]<;>rfl
theorem Fu:Ga:=by
 intro U F s xs hrow hk hlen R hR;rintro w rfl;have W:s.len=xs.length:=by have:=hrow.1;rw[Kz]at this;omega
 rcases hrow.2 with⟨h0,hc0⟩|⟨b,cs,hF,ha,hb,hle,hcl,ht⟩
 ·have E:xs=[]:=wu.1 O;have:=AnyF.slices_SortFunc_none Tryz.n4 s.a s.cap (.func (.func 264) #[] #[]) w;show Calls _ _ #[.slice s.a s.len s.cap,.func (.func 264) #[] #[]] w _;rw[h0];refine this.mono ?_;rintro e Y ⟨rfl,rfl⟩;subst E;exact⟨.refl _,[],rfl,hR [] _ (.refl _) List.Pairwise.nil (Ext.refl _ _) hrow⟩
 ·have G:∀x∈xs,x.1<64:=hk
  let toK:Nat×Sl->sH:=λx=>(Fin.ofNat 64 x.1,x.2)
  have u:(xs.map toK).map sC=xs:=by
   rw[lh]
   conv=>rhs;rw[←uD xs]
   apply ka;intro x hx;simp only[Function.comp,toK,sC,Fin.ofNat,id];rw[uR (G x hx)]
  have J:(xs.map toK).length=xs.length:=by simp
  generalize xs.map toK=l at u J;have z:=hb.lt;have X:HoldsK kB 2 w b 0 l.toArray:=by
   intro j hj;simp only[size_flatK,yG]at hj;have hc:Vc.cell w.heap ⟨b,0+j,none⟩=some (flatK kB 2 l.toArray)[j]! := by
    rw[hb.cell,zH,←Fq l j hj,u];rw[←ht,zj,zC (by rw[Kz];omega)]
   exact⟨hc,hb.nj⟩
  have V:∀args w,(callFunc 264 args).run Tryz.prog w=.ok (.enter 264 args) w:=enters_of Tryz.func264 (by kernel_rfl) rfl;have C:∀w,(isAgg (Tryz.eO.t 24)).run Tryz.prog w=.ok true w:=λw=>by
   have h:=KD (P:=Tryz.prog) (t:=Tryz.eO.t 24) (d:=(Tryz.prog.underlying (Tryz.eO.t 24)).getD .bool) (by kernel_rfl) w
   rwa [show V3 ((Tryz.prog.underlying (Tryz.eO.t 24)).getD .bool)=true by kernel_rfl]at h
  have N:∀w,(Go.sizeOf (Tryz.eO.t 24)).run Tryz.prog w=.ok 2 w:=λw=>by
   have h:=QJ (P:=Tryz.prog) (t:=Tryz.eO.t 24) (by kernel_rfl) w
   rwa [show Tryz.prog.cellsOf (Tryz.eO.t 24)=2 by kernel_rfl]at h
  have A:=AnyQ.slices_SortFunc Tryz.n4 2 C N kB (λ_=>rfl) (λx v Q=>by simp only[kB,zW,List.not_mem_nil,or_false]at Q;rcases Q with rfl|rfl<;>rfl) oL Ci 264 #[] b 0 s.cap l.toArray w V (λ_ _ _ _ x y=>Ch x y _) X z (by simp only[yG];omega)
  show Calls _ _ #[.slice s.a s.len s.cap,.func (.func 264) #[] #[]] w _;rw[ha,show s.len=l.toArray.size by simp only[yG];omega];refine A.mono ?_;rintro e Y ⟨rfl,d',n,os,S,H,rfl⟩;have g:d'.size=l.length:=by simpa using S.1
  have r:d'.toList.Perm l:=by
   have M:=S.2.2;rw[show l.toArray.size=d'.size by simp[g]]at M;have e1:(d'.extract 0 d'.size)=d':=by simp
   have e2:(l.toArray.extract 0 d'.size)=l.toArray:=by rw[g];simp
   rw[e1,e2]at M;simpa using M
  obtain⟨Z,K⟩:=hb;have m:(sortWorldK kB 2 w b 0 n d' os).heap=(w.heap.modify b (onCells (putCells id 0 (flatK kB 2 d'))))++os:=rfl;have p:(w.heap.modify b (onCells (putCells id 0 (flatK kB 2 d')))).size=w.heap.size:=by simp
  refine⟨⟨rfl,rfl,rfl,by rw[m,xJ,p];omega⟩,[],rfl,?_⟩;rw[m];have B:Ext F w.heap ((w.heap.modify b (onCells (putCells id 0 (flatK kB 2 d'))))++os):=by
   refine⟨by rw[xJ,p];omega,λq hq hf=>?_⟩;rw[sZ (by rw[p];exact hq),uN,zB λ(e:b=q)=>hf (by rw[←e];exact hF)]
  refine hR (d'.toList.map sC) _ ?_ ?_ B ⟨?_,.inr ⟨b,(putCells id 0 (flatK kB 2 d') cs.toArray).toList,hF,ha,⟨Z,?_⟩,hle,?_,?_⟩⟩
  ·rw[←u];exact r.map _
  ·rw[p8];rw[k6];intro i j hi hj hij;have D:=H i j O hij (by simp only[wq]at hj;simp only[yG];omega);rw[getElem!_pos d' i (by simpa using hi),getElem!_pos d' j (by simpa using hj)]at D;have D:=vX D;unfold oL at D;simp only[sC,Array.getElem_toList];omega
  ·rw[Kz,zl,wq,g];omega
  ·rw[sZ (by rw[p];exact z),uN,zC rfl,K];simp[onCells]
  ·simp[putCells,hcl]
  ·rw[Kz,zl,wq,g];apply zp;intro j;rw[zj];by_cases hj:j<l.length*2
   ·rw[zC hj,Fq d'.toList j (by simpa[g]using hj)];have L:j<cs.length:=by
     have:l.length*2<=s.cap*2:=l7 _ O;omega
    simp only[putCells,vB,Array.getElem?_mapIdx,List.getElem?_toArray,cT L,zX];rw[zC ⟨O,by rw[size_flatK,g];omega⟩];simp
   ·rw[zB hj,zV (by rw[Kz,zl,wq,g];omega)]
end Go.Ar
namespace Go.Proofs
open Go.Vc
set_option maxRecDepth 100000
def XI.h:Hn:=.q .o2 (.q (.q (.cS (.seq [.op,.op,.op,.cX false 3 (RI.ops 3)])) .aK) (.q .o3 (.q (.q .o2 .aK) (.q (.q .o1 (.k (.loop [(8,.I)] (.q (.q .o4 (.c .l .l)) (.q (.k .o6) .o3))))) .aL))))
def XI.v (a b c d e f:Int)(g:Sl)(h:Int)(i:Hp)(j:Option Addr->Hp->Prop):Prop:=aV #[.I a,.I b,.I c,.I d,.I e,.I f] 25 i λk l=>aQ k 0 l λm=>aQ k 1 l λn=>aQ k 2 l λo=>aQ k 3 l λp=>aQ k 4 l λq=>aQ k 5 l λr=>WJ.c m n o p q r l λs t=>bW (λu v=>If u (j none v) (aQ k 0 v λw=>aQ k 1 v λx=>aQ k 2 v λy=>aQ k 3 v λz=>aQ k 4 v λaa=>aQ k 5 v λab=>Xr.c w x y z aa ab v λac ad=>If ac.isNone (j none ad) (X9 [bN] (λae=>ae 0 ad) λaf (ag:Int) ah=>If (ag<((g.len:Nat):Int)) (Ix g.a g.len ag 8 λai=>aQ ai 0 ah λaj=>aQ ai 1 ah λak=>aQ ai 2 ah λal=>aQ ai 3 ah λam=>aQ ai 4 ah λan=>aQ ai 5 ah λao=>aQ ai 6 ah λap=>bC ai 7 ah λaq=>Xg.c ac aj ak al am an ao ap aq ah λar au=>bL (ag+1) λav=>af av au) (j ac ah)))) λaw=>If s (aw true t) (XH.c g h t λax ay=>aw ax ay)
theorem XI.o {a b c d e f g h i j}(k:XI.v a b c d e f g h i j):XI.c a b c d e f g h i j:=Wa Tryz.func11 (x:=XI.h) (R0 k)
def XH.h:Hn:=.q .o1 (.q .o5 .l)
def XH.v (a:Sl)(b:Int)(c:Hp)(d:aO):Prop:=d (decide (((a.len:Nat):Int)>b)) c
theorem XH.o {a b c d}(e:XH.v a b c d):XH.c a b c d:=Wa Tryz.func12 (x:=XH.h) (R0 e)
def Xd.h:Hn:=.q .o1 (.q .o2 (.q (.q .o2 .aK) (.q .o7 (.q (.q (.cS (.seq [.op,.op,.op,.cX false 2 [.op,.op]])) .aK) (.q .o7 (.q (.q (.cS (.seq [.op,.op,.op,.cX false 2 [.op,.op],.op,.cX false 3 (RI.ops 3)])) .aK) (.q .o8 (.q (.q (.cS (.seq [.op,.op,.op,.cX false 4 (RI.ops 4),.op,.cX false 4 (RI.ops 4),.op,.cX false 3 (RI.ops 3)])) .aK) (.q .o6 (.q (.cS (.seq [.op,.op,.op,.cX true 2 [.op,.op],.op,.cX true 4 (RI.ops 4),.op,.cX true 4 (RI.ops 4),.op])) .l))))))))))
def Xd.v (a:Hp)(b:aO):Prop:=Xq.c a λc d=>If c.isNone (b false d) (Qw.c c d λe f g=>bW (λh i=>If h (b false i) (Xp.c e 0 24 8 i λj k l=>bW (λm n=>bW (λo p=>If o (b false p) (Xw.c e j p λq r s=>bW (λt u=>bW (λv w=>bW (λx y=>If x (b false y) (Xh.c e 4128 7 y λz aa=>Xh.c e 4136 7 aa λab ac=>bW (λad ae=>bW (λaf ag=>bW (λah ai=>b ah ai) λaj=>If af (WH.c e 0 j ag λak al=>aj (ak==9) al) (aj false ag)) λam=>If ad (WH.c e 0 j ae λan ao=>am (an==0) ao) (am false ae)) λap=>If (z==0) (ap (ab==7) ac) (ap false ac))) λaq=>If v (aq true w) (W9.c c 4136 (-4137) w λar au=>aq (ar != 0) au)) λav=>If t (av true u) (WH.c e 0 j u λaw ax=>av (aw != 10) ax)) λay=>If (r != 0) (ay true s) (aV #[.I 4136] 3 s λaz a0=>XF.c q ⟨some az,1,1⟩ a0 λa1 a2=>ay (!a1) a2))) λa3=>If m (a3 true n) (W9.c c 4136 5 n λa4 a5=>a3 (a4 != 0) a5)) λa6=>If (j != 4112) (a6 true l) (a6 (k != 0) l))) λa7=>If (f != 0) (a7 true g) (a7 e.isNone g))
theorem Xd.o {a b}(c:Xd.v a b):Xd.c a b:=Wa Tryz.func13 (x:=Xd.h) (R0 c)
def YE.h:Hn:=.q .o2 (.q (.q (.cS (.seq [.op,.op,.op,.op,.cX false 3 (RI.ops 3)])) (.c (.q .o3 .l) .l)) (.q (.oq 12) .l))
def YE.v (a:Sl)(b c d e f g h:Int)(i:ByteArray)(j:Hp)(k:aN):Prop:=aV #[.I b,.I c,.I d,.I e,.I f,.I g,.I h,.string i] 44 j λl m=>aQ l 4 m λn=>bW (λo p=>If o (aQ l 5 p λq=>k q p) (aQ l 4 p λr=>Nz ((a.len:Nat):Int) <| Ix a.a a.len (r.tmod ((a.len:Nat):Int)) 1 λs=>bM s p λt=>aQ l 5 p λu=>bL (t+u) λv=>k v p)) λw=>If (n<0) (w true m) (w (((a.len:Nat):Int)==0) m)
theorem YE.o {a b c d e f g h i j k}(l:YE.v a b c d e f g h i j k):YE.c a b c d e f g h i j k:=Wa Tryz.func18 (x:=YE.h) (R0 l)
def Xg.h:Hn:=.q .o2 (.q (.cS (.tail 5 (RI.ops 5) [.op,.op])) (.q (.q .o2 (.k (.q .o2 (.c (.q (.cS (.held true [10] (.tk [0,1,2,3,4,5,6,7,8,9] (.all [(10,.tk [11,12,13,14,15] (.done))])))) (.q (.q .o2 (.c (.q (.o 11) (.cS (.held true [15] (.tk [0,1,2,3,4,5,6,7,8,9,10] (.all [(11,.all [(12,.take 13 (.take 14 (.all [(15,.done)])))])]))))) .l)) .aL)) (.j8 [(69,.one .b)] (.q .o2 (.c .l .o2)) (.c (.q (.cS (.tail 7 (RI.ops 7) [.op,.op])) (.q (.q .o2 (.c (.q .o1 (.q (.q .o1 (.k (.loop [(9,.one .s),(10,.I)] (.q (.q .o7 (.c .l .l)) (.q (.k (.q .gH (.c (.o 11) .l))) .o3))))) .o5)) .l)) .aL)) (.q .o2 (.c (.q (.o 11) .aL) (.q .o2 (.c .o5 (.q .o2 (.c (.q (.o 11) .aL) (.q .o2 (.c (.q (.cS (.tail 7 (RI.ops 7) [.op,.op])) .l) (.q .o2 (.c (.q (.o 12) .aL) .l)))))))))))))))) .aM))
def Xg.v (a:R2)(b c d e f g h:Int)(i:ByteArray)(j:Hp)(k:aN):Prop:=aV #[.I b,.I c,.I d,.I e,.I f,.I g,.I h,.string i] 44 j λl m=>bE a 1 m λo=>aQ l 0 m λp=>aQ l 1 m λq=>aQ l 2 m λr=>aQ l 3 m λs=>aQ l 4 m λt=>aQ l 5 m λu=>aQ l 6 m λv=>bC l 7 m λw=>YE.c o p q r s t u v w m λx y=>aQ l 0 y λz=>If (z==20) (eN y λaa=>bU a λab=>aU aa ab 0 λac=>aS aa l 1 λad=>aS aa l 2 λae=>aS aa l 3 λaf=>Xp.c ac ad ae af y λag ah ai=>If (ah==0) (bE a 1 ai λak=>aV #[.I ag] 3 ai λal am=>App ak 1 8 3 [.I 0] ⟨some al,1,1⟩ am λan ao=>bU a λap=>aR ap 1 (.slice an.a an.len an.cap) ao λaq=>eN aq λar=>bU a λau=>aT ar au 2 λav=>aS ar l 2 λaw=>aS ar l 3 λax=>aV #[.I ag,.I aw,.I ax] 60 aq λay az=>And (ar az) <| App av 3 24 60 [.I 0,.I 0,.I 0] ⟨some ay,1,1⟩ az λa0 a1=>And (ar a1) <| bU a λa2=>aR a2 2 (.slice a0.a a0.len a0.cap) a1 λa3=>k ah a3) (k ah ai)) (Jn [.b] (λ(a4:Bool) a5=>If a4 (bF a 0 a5 λa7=>aQ l 1 a5 λa8=>WH.c a7 a8 x a5 λa9 ba=>If (a9==0) (X9 [.s,bN] (λbb=>bb ⟨none,0,0⟩ 0 ba) λbc (bd:Sl) (be:Int) bf=>bE a 2 bf λbh=>
 If (be<((bh.len:Nat):Int)) (bE a 2 bf λbj=>Ix bj.a bj.len be 3 λbk=>aQ bk 0 bf λbl=>If (bl != x) (bE a 2 bf λbn=>Ix bn.a bn.len be 3 λbo=>aQ bo 0 bf λbp=>aQ bo 1 bf λbq=>aQ bo 2 bf λbr=>aV #[.I bp,.I bq,.I br] 60 bf λbs bt=>App bd 3 24 60 [.I 0,.I 0,.I 0] ⟨some bs,1,1⟩ bt λbu bv=>bL (be+1) λbw=>bc bu bw bv) (bL (be+1) λbx=>bc bd bx bf)) (bU a λbz=>aR bz 2 (.slice bd.a bd.len bd.cap) bf λb0=>k a9 b0)) (k a9 ba)) (If (z==23) (bF a 0 a5 λb2=>Xw.c b2 x a5 λb3 b4 b5=>k b4 b5) (If (z==24) (bF a 0 a5 λb7=>Yg.c b7 a5 λb8 b9=>k 0 b9) (If (z==25) (bF a 0 a5 λcb=>YI.c cb x a5 λcc cd ce=>k cd ce) (If (z==26) (bF a 0 a5 λcg=>aQ l 6 a5 λch=>Xh.c cg x ch a5 λci cj=>k ci cj) (If (z==27) (bF a 0 a5 λcl=>YF.c cl x a5 λcm cn co cp cq cr=>aV #[.I 0,.I 0,.I 0,.I 0] 52 cr λcs ct=>aR cs 0 (.I cm) ct λcu=>aR cs 1 (.I cn) cu λcv=>aR cs 2 (.I co) cv λcw=>aR cs 3 (.I cp) cw λcx=>k cq cx) (k 0 a5))))))) λcy=>If (z==21) (cy (z==21) y) (cy (z==22) y))
theorem Xg.o {a b c d e f g h i j k}(l:Xg.v a b c d e f g h i j k):Xg.c a b c d e f g h i j k:=Wa Tryz.func19 (x:=Xg.h) (R0 l)
def Xq.h:Hn:=.q .o1 (.q .o4 .l)
def Xq.v (a:Hp)(b:Option Addr->Hp->Prop):Prop:=Wv.c 8 64 1 1 1024 2 a λc d=>b c d
theorem Xq.o {a b}(c:Xq.v a b):Xq.c a b:=Wa Tryz.func37 (x:=Xq.h) (R0 c)
def WJ.h:Hn:=.q .o2 (.q .o5 .l)
def WJ.v (a b c d e f:Int)(g:Hp)(h:aO):Prop:=aV #[.I a,.I b,.I c,.I d,.I e,.I f] 25 g λi j=>bM ((i.add 1).add 0) j λk=>h (decide (k>128)) j
theorem WJ.o {a b c d e f g h}(i:WJ.v a b c d e f g h):WJ.c a b c d e f g h:=Wa Tryz.func38 (x:=WJ.h) (R0 i)
def Xr.h:Hn:=.q .o2 (.q .o3 (.q (.q .o2 .aK) (.q .o7 (.q (.q (.cS (.seq [.op,.op,.op,.cX false 2 [.op,.op]])) .aK) (.q .o4 .l)))))
def Xr.v (a b c d e f:Int)(g:Hp)(h:Option Addr->Hp->Prop):Prop:=aV #[.I a,.I b,.I c,.I d,.I e,.I f] 25 g λi j=>aQ i 0 j λk=>aQ i 1 j λl=>aQ i 2 j λm=>aQ i 3 j λn=>aQ i 4 j λo=>aQ i 5 j λp=>Wv.c k l m n o p j λq r=>If q.isNone (h none r) (Qw.c q r λs t u=>bW (λv w=>If v (h none w) (aV #[.pointer s,.slice none 0 0,.slice none 0 0] 37 w λx y=>h (some x) y)) λz=>If (t != 0) (z true u) (z s.isNone u))
theorem Xr.o {a b c d e f g h}(i:Xr.v a b c d e f g h):Xr.c a b c d e f g h:=Wa Tryz.func39 (x:=Xr.h) (R0 i)
def Wv.h:Hn:=.q .o2 (.q .o8 (.q .o9 (.q (.q .o2 .aK) .aL)))
def Wv.v (a b c d e f:Int)(g:Hp)(h:Option Addr->Hp->Prop):Prop:=aV #[.I a,.I b,.I c,.I d,.I e,.I f] 25 g λi j=>aQ i 0 j λk=>WQ.c k j λl m n=>bM ((i.add 1).add 0) n λo=>bM ((i.add 1).add 1) n λp=>bM ((i.add 1).add 2) n λq=>bM ((i.add 1).add 3) n λr=>bM ((i.add 1).add 4) n λs=>Ks.c l o p q r s n λt u v=>If (u != 0) (h none v) (h t v)
theorem Wv.o {a b c d e f g h}(i:Wv.v a b c d e f g h):Wv.c a b c d e f g h:=Wa Tryz.func69 (x:=Wv.h) (R0 i)
end Go.Proofs
namespace Go.Ar
open Go Go.Vc Go.Proofs
variable {U w w':Hp}{F P Q:Rg}{L:dK}{H H':Hw}{held:List Pc}{s0:Sp}{t n:Nat}{g:Th}
structure fP where
 kd:Int
 th:Int
 a:Int
 b:Int
 of:Int
 pl:Int
 va:Int
 s:ByteArray
def qO (d:fP):List Value:=[.int .i64 d.kd,.int .i64 d.th,.int .i64 d.a,.int .i64 d.b,.int .i64 d.of,.int .i64 d.pl,.int .i64 d.va,.string d.s]
def jT (x:Int):Prop:=-9223372036854775808<=x/\x<=9223372036854775807
structure lS (d:fP):Prop where
 a:jT d.a
 b:jT d.b
 pl:jT d.pl
 va:jT d.va
structure jl (U:Hp) (sl:Sl) (ds:List fP):Prop where
 len:sl.len=ds.length
 at_:∀(i:Nat) (d:fP),ds[i]?=some d->∃b o,sl.a=some ⟨b,o,none⟩/\b<U.size/\∀(j:Nat) v,(qO d)[j]?=some v->cell U ⟨b,o+i*8+j,none⟩=some v
 i:∀d∈ds,lS d
 xD:ds.length<=9223372036854775807
theorem jl.bO {sl:Sl}{ds:List fP}(h:jl U sl ds)(e:bK U w):jl w sl ds:=⟨h.len,λi d g=>by
 obtain⟨b,o,p,m,a⟩:=h.at_ i d g;exact⟨b,o,p,by have:=e.1;omega,λj v r=>by rw[Q7 e m id];exact a j v r⟩,h.i,h.xD⟩
theorem jl.rd {sl:Sl}{ds:List fP}(h:jl U sl ds)(e:bK U w){i:Nat}{d:fP}(hx:ds[i]?=some d){K:Addr->Prop}(hK:∀b o,(∀w',bK U w'->∀(j:Nat) v,(qO d)[j]?=some v->cell w' ⟨b,o+j,none⟩=some v)->K ⟨b,o,none⟩):Ix sl.a sl.len (i:Int) 8 K:=by
 obtain⟨b,o,s,r,p⟩:=h.at_ i d hx;have x:=(cW.1 hx).1;have g:=h.len;rw[s];refine ix O O ?_;rw[add_lit,dE];exact hK b _ λw' m j v u=>by rw[Q7 m r id];exact p j v u
theorem Af {b o i:Nat}{h:Hp}{x:ByteArray}{K:ByteArray->Prop}(hc:cell h ⟨b,o+i,none⟩=some (.string x))(hK:K x):wL (Addr.add ⟨b,o,none⟩ i) h K:=⟨x,by rw[add_lit];exact hc,hK⟩
theorem _root_.Go.Vc.bY.rT {b o i:Nat}{cs:List Value}(hb:bY U b cs){x:ByteArray}{K:ByteArray->Prop}(hc:cs[o+i]?=some (.string x))(hK:K x):wL (Addr.add ⟨b,o,none⟩ i) U K:=⟨x,by rw[add_lit,hb.cell];exact hc,hK⟩
def ru (ad:List Int)(d:fP):Int:=if d.of<0\/ad=[]then d.pl else IntKind.i64.wrap (ad.getD (d.of.toNat%ad.length) 0+d.pl)
theorem Mx {ad:List Int}{d:fP}(h:lS d):jT (ru ad d):=by
 unfold ru;split
 ·exact h.pl
 ·exact Nk _
theorem MY {addrs:Sl}{ad:List Int}(hs:cV addrs 1 (Wo ad) U F)(d:fP){R:aN}(hR:∀σ',bK U σ'->R (ru ad d) σ'):YE.c addrs d.kd d.th d.a d.b d.of d.pl d.va d.s U R:=by
 refine YE.o ?_;unfold YE.v;have y:addrs.len=ad.length:=by have:=hs.1;simp[Wo]at this;omega
 refine nw (cs:=qO d) λv D e j=>j.rI rfl (KJ (λr w=>w=v/\r=decide (d.of<0\/ad=[])) (λr w ⟨B,A⟩=>?_) λJ u=>cQ (λm=>u _ _ ⟨rfl,by rw[zJ (.inl m)]⟩) λm=>u _ _ ⟨rfl,?_⟩)
 ·subst B;have g:=hR w e;by_cases hc:d.of<0\/ad=[]
  ·refine cD (by rw[A];exact zJ hc) (j.rI rfl ?_);unfold ru at g;rw[zC hc]at g;exact g
  ·have i:0<ad.length:=pX.2 λh=>hc (.inr h);refine cB (by rw[A];exact zM hc) (j.rI rfl (nz O ?_));have x:0<=d.of:=by omega
   have C:d.of.tmod (addrs.len:Int)=((d.of.toNat%ad.length:Nat):Int):=by
    rw[Qz x,y,Int.natCast_emod,Int.toNat_of_nonneg x]
   rw[C];have p:d.of.toNat%ad.length<ad.length:=uG _ i;have z:ad[d.of.toNat%ad.length]?=some ad[d.of.toNat%ad.length]:=cT p;refine(cV.loc _ _ _ |>.bO (aH.cut hs) e).mf z (j.rI rfl (xy ?_));unfold ru at g;rw[zB hc,zP,z]at g;exact g
 ·rw[y];rw[l5];simp only[zT,zU];constructor
  ·intro h;exact .inr (wu.1 O)
  ·rintro(h|h)
   ·exact(m h).elim
   ·rw[h];rfl
theorem RU {l:Sl}{most:Int}{R:aO}(hR:R (decide ((l.len:Int)>most)) U):XH.c l most U R:=by
 refine XH.o ?_;unfold XH.v;exact hR
theorem Oc {xs:List (Int×Int×Int)}(h:Qg xs=true):(xs.map Z3).map mI=xs:=by
 rw[lh]
 conv=>rhs;rw[←uD xs]
 apply ka;intro t ht;obtain⟨i,e⟩:=zQ ht;have:=((Qd xs).1 h).2.2.1 i t e;obtain⟨c,_,d,a,b,g⟩:=Gm this;simp only[Function.comp,id];rw[show Z3 t=c from d];unfold mI;rw[←a,←b,←g]
theorem R6 {xs:List (Int×Int×Int)}(h:Qg xs=true):(xs.map Z3).length<=40/\∀c∈xs.map Z3,c.ok:=by
 refine⟨by have:=((Qd xs).1 h).2.1;simpa using this,λc b=>?_⟩;obtain⟨t,e,rfl⟩:=zE.1 b;obtain⟨i,g⟩:=zQ e;have:=((Qd xs).1 h).2.2.1 i t g;obtain⟨c,a,d,_⟩:=Gm this;rw[show Z3 t=c from d];exact a
structure tF (H:Hw) (aF:Int):Prop where
 hi:HI H [] (Vf H.cf.aF)
 cf:kA H
 pg:(H.cf.aF:Int)=aF
 live:H.live=[]
 ph:∀g∈H.bQ,g.ph=none
 th:1<=H.cf.threads
theorem Dd {xs:List (Int×Int×Int)}{p a t b r:Int}(h:Qg xs=true)(hc:rQ p a t b r=true):tF (VM (xs.map Z3) ⟨p.toNat,a.toNat,t.toNat,b.toNat,r.toNat⟩) p:=by
 obtain⟨⟨m,j,u⟩,⟨s,w⟩,⟨y,x⟩,_⟩:=(EX p a t b r).1 hc;obtain⟨d,e⟩:=R6 h;refine⟨LF (cf:=⟨p.toNat,a.toNat,t.toNat,b.toNat,r.toNat⟩) aC aC aC aC d e,⟨by simp only[VM];omega,by simp[VM],?_⟩,by simp only[VM];omega,rfl,λg i=>by rw[BU i],by simp only[VM];omega⟩;show Qg ((xs.map Z3).map mI)=true;rw[Oc h];exact h
theorem IH (g:Gl U)(gd:Gd U)(b b1 b2 b3 b4 b5:Int){R:Option Addr->Hp->Prop}(h0:∀σ',bK U σ'->R none σ')
 (h1:∀σ' L N H,bK U σ'->U.size<=N->N<=σ'.size->HH σ' (λb=>N<=b) L H->tF H b1->R (some ⟨L.p,0,none⟩) σ'):Wv.c b b1 b2 b3 b4 b5 U R:=by
 refine Wv.o ?_;unfold Wv.v;refine nw (cs:=[.int .i64 b,.int .i64 b1,.int .i64 b2,.int .i64 b3,.int .i64 b4,.int .i64 b5]) λv E e j=>j.rI rfl ?_;by_cases hw:2<=b/\b<=16
 ·refine E8 b hw.1 hw.2 λs C e1 w=>?_;have a:=e1.bT j id;have d:=e.trans e1;have m:Qg (qb b)=true:=by
   have:=Hj b.toNat O O;rw[show((b.toNat:Nat):Int)=b by omega]at this;exact this
  refine a.eY rfl (a.eY rfl (a.eY rfl (a.eY rfl (a.eY rfl ?_))));refine B0 w (g.bO d) (gd.bO d) b1 b2 b3 b4 b5 (λu=>by rw[m]at u;cases u) (λ_ A r e2=>?_) λ_ A r L e2 B=>?_
  ·exact cD rfl (h0 r (d.trans e2))
  ·exact cB rfl (h1 r L C.size _ (d.trans e2) d.1 e2.1 B (Dd m A))
 ·refine J0 b O (j.eY rfl (j.eY rfl (j.eY rfl (j.eY rfl (j.eY rfl ?_)))));have w:ig v ⟨none,0,0⟩ []:=⟨rfl,λi x y z D=>by simp at D⟩;refine B0 w (g.bO e) (gd.bO e) b1 b2 b3 b4 b5 (λ_ r e2=>cD rfl (h0 r (e.trans e2))) (λm=>?_) λm=>?_
  ·exact absurd m aB
  ·exact absurd m aB
def Safe (H:Hw)(d:fP)(x:Int)(e:Int×Bk):Prop:=(∀j,fC H j≠some (.find e.1))/\¬((d.kd=3\/d.kd=1\/d.kd=6)/\e.1<=x/\x<e.1+e.2.2.1)
structure qH (H:Hw) (d:fP) (x:Int) (H':Hw):Prop where
 hi:∃held s0,HI H' held s0
 kp:Qv H' H
 fx:∀e∈H.live,Safe H d x e->e∈H'.live/\(∀w:Nat,e.1<=((8*w:Nat):Int)->((8*w:Nat):Int)<e.1+e.2.2.1->H'.sp.wd w=H.sp.wd w)/\∀j,fC H' j≠some (.find e.1)
theorem qH.op (h:HI H held s0){d:fP}{x:Int}(o:fY H H')(hl:∀e∈H.live,Safe H d x e->e∈H'.live):qH H d x H':=
 ⟨o.hi,o.kp,λe b a=>⟨hl e b a,h.kl o.ks e b,λj=>by rw[o.ph];exact a.1 j⟩⟩
theorem qH.ar {d:fP}{x:Int}(o:mn H H'):qH H d x H':=
 ⟨o.hi,o.kp,λe a b=>⟨by rw[o.live];exact a,o.kl e a,λj=>by unfold fC;rw[o.bQ];exact b.1 j⟩⟩
theorem HI.kJ (h:HI H held s0){e:Int×Bk}(he:e∈H.live):8<=e.2.2.1/\0<=e.1/\e.1%8=0/\e.2.2.1%8=0/\e.1+e.2.2.1<=270000:=by
 obtain⟨_,p,g,C,z,G,K,_⟩:=h.lv e he;have F:=h.yM.size_pos g;have B:=h.yM.jG g;obtain⟨A,y,hd⟩:=h.yM.hf p g;have J:p.addr%8=0:=by
  rcases hd with⟨_,_,r,hr,c2,c3⟩|⟨j,c,c1,c2,c3,c4,_⟩
  ·omega
  ·obtain⟨a,u,b,x⟩:=c4;have:a=c:=Option.some.inj (b.1.symm.trans c2);subst this;have m:=(h.yM.ga _ A y).cE j a u b;obtain⟨l,s,i,D,E,e,_⟩:=(Vz m).1 x;have d:=m.ok;unfold bZ.ok at d;unfold at_ at e;have w:a.size=8*(a.size/8):=by omega
   have:i*a.size=8*(i*(a.size/8)):=by rw[Nat.mul_left_comm,←w]
   omega
 omega
theorem qH.free (h:HI H held s0){d:fP}{x thread e:Int}(hd:d.kd=1)(o:fY H H')(hf:oH H thread x H' e):qH H d x H':=by
 refine qH.op h o λi a g=>?_;have j:=h.kJ a;rcases hf with⟨_,h2,_⟩|⟨_,_,_,h4⟩|⟨_,b,_,_,h4⟩
 ·rw[h2];exact a
 ·rw[h4];exact a
 ·rw[h4];refine GD.2 ⟨a,λm=>g.2 ⟨.inr (.inl hd),O,O⟩⟩
theorem qH.step (h:HI H held s0){d:fP}{x:Int}(hg:H.bQ[t]?=some g){p:Ph}(hp:g.ph=some p):qH H d x (Qu H t p):=by
 have J:=(cW.1 hg).1;have s:=h.Jw hg hp;have B:fC H t=some p:=by unfold fC;rw[hg];exact hp
 have live:∀e∈H.live,p≠.find e.1->e∈(Qu H t p).live:=λe i w=>by
  by_cases hf:lf p
  ·obtain⟨_,_,_,K,m⟩:=qQ h hg hp hf;by_cases u:∃y,p=.find y
   ·obtain⟨y,rfl⟩:=u;cases hm:bV H.live y with
    | none=>rw[((m y rfl).1 hm).2.2];exact i
    | some b=>
     rw[((m y rfl).2 b hm).2];exact GD.2 ⟨i,λa=>w (by rw[a])⟩
   ·rw[(K λy a=>u ⟨y,a⟩).2];exact i
  ·obtain⟨cl,G,E⟩:=AB h hg hp hf;obtain⟨_,r⟩:=qF h hg hp E;rcases r with⟨_,_,_,e2,_⟩|⟨_,_,_,e4⟩|⟨_,_,e3,e4⟩
   ·rw[e2];exact i
   ·rw[e4];exact i
   ·rw[e4];exact(Gw e3).2 (.inl i)
 have z:∀y,(Wt H t p).2.1≠some (.find y):=λy a=>by
  by_cases hf:lf p
  ·obtain⟨_,_,r,_⟩:=qQ h hg hp hf;rcases r with⟨p',C,e1,_,e3,_⟩|e1
   ·rw[e1]at a;exact e3 y (Option.some.inj a)
   ·rw[e1]at a;cases a
  ·obtain⟨cl,G,E⟩:=AB h hg hp hf;obtain⟨_,r⟩:=qF h hg hp E;rcases r with⟨p',C,e1,_,_,e4,_⟩|⟨e1,_⟩|⟨e1,_⟩
   ·rw[e1]at a;cases a;exact e4.elim
   ·rw[e1]at a;cases a
   ·rw[e1]at a;cases a
 refine⟨s.hi,Uq H t p,λe i F=>⟨live e i λu=>F.1 t (by rw[B,u]),h.kl s.ks e i,λj=>?_⟩⟩;by_cases hj:j=t
 ·subst hj;obtain⟨C,A,D⟩:=Hb (p:=p) J;unfold fC;rw[A];show C.ph≠_;rw[D];exact z _
 ·unfold fC;rw[Ud p hj];exact F.1 j
end Go.Ar
namespace Go.Ar
open Go Go.Vc Go.Proofs
variable {U w w':Hp}{F P Q X:Rg}{L:dK}{H H':Hw}{held:List Pc}{s0:Sp}{t n:Nat}{g:Th}
structure gY (σ0 U:Hp) (L:dK) (H:Hw) (held:List Pc) (s0:Sp) (P Q:Rg) (addrs:Sl) (ad:List Int):Prop where
 e:bK σ0 U
 h:HH U P L H
 hi:HI H held s0
 cf:kA H
 pg:H.cf.aF<=128
 pP:∀b,P b->σ0.size<=b/\b<U.size
 pQ:∀b,Q b->σ0.size<=b/\b<U.size/\¬P b
 row:bR addrs 1 (Wo ad) U Q
 al:ad.length<=60
 g0:iN (λb=>σ0.size<=b)/\¬σ0.size<=1
variable {σ0:Hp}{addrs:Sl}{ad:List Int}
theorem gY.step (p:gY σ0 U L H held s0 P Q addrs ad){ts':List eH}(e:Ext P U w)(h':HH w (Grow P U) {L with ts:=ts'} H'){held':List Pc}{s0':Sp}(hi':HI H' held' s0')(k:Qv H' H) :
 gY σ0 w {L with ts:=ts'} H' held' s0' (Cut (Grow P U) w) Q addrs ad:=by
 have s:=e.1;refine⟨Ext.dS p.e e λb a=>.inr (p.pP b a).1,h'.cut,hi',p.cf.bS k,by rw[k.2.1];exact p.pg,λb a=>⟨?_,a.2⟩,λb a=>?_,aI.bS p.row e λb _ d m=>(p.pQ b d).2.2 m,p.al,p.g0⟩
 ·have:=p.e.1;rcases a.1 with h1|h1
  ·exact(p.pP b h1).1
  ·omega
 ·obtain⟨i,r,j⟩:=p.pQ b a;exact⟨i,O,λg=>by
   rcases g.1 with h1|h1
   ·exact j h1
   ·omega⟩
theorem gY.out (p:gY σ0 U L H held s0 P Q addrs ad){T:Rg}(e:Ext T U w)(hT:∀b,b<U.size->T b->¬P b/\¬Q b/\σ0.size<=b):gY σ0 w L H held s0 P Q addrs ad:=by
 have r:=e.1;have g:Ext (λb=>T b/\b<U.size) U w:=⟨e.1,λb a m=>e.2 b a λd=>m ⟨d,a⟩⟩;refine⟨Ext.dS p.e g λb a=>.inr (hT b a.2 a.1).2.2,p.h.bS g (λb a j d=>(hT b a d.1).1 j) (λb a=>?_) (λa=>?_),p.hi,p.cf,p.pg,λb a=>⟨(p.pP b a).1,by have:=(p.pP b a).2;omega⟩,λb a=>⟨(p.pQ b a).1,by have:=(p.pQ b a).2.1;omega,(p.pQ b a).2.2⟩,aI.bS p.row g λb a i d=>(hT b a d.1).2.1 i,p.al,p.g0⟩
 ·exact p.g0.1 b (hT b a.2 a.1).2.2
 ·exact p.g0.2 (hT _ a.2 a.1).2.2
theorem Fs (hr:bR addrs 1 (Wo ad) U Q)(hl:ad.length<=1000000)(x:Int){e t:Nat}{K:Sl->Hp->Prop}(hK:∀s' w,Ext Q U w->bR s' 1 (Wo (ad++[x])) w (λb=>Q b\/U.size<=b/\b<w.size)->K s' w) :
 Nw (.cells #[.int .i64 x] t (0,0)) U λn v=>App addrs 1 8 e [.int .i64 0] ⟨some n,1,1⟩ v K:=by
 have m:addrs.len=ad.length:=by have:=hr.1;simp[Wo]at this;omega
 refine bR.push (F:=λb=>Q b\/U.size<=b) (vs:=[.int .i64 x]) (aI.mono hr λb _ a=>.inl a) (λb a=>.inr a) rfl rfl (by simp[dN]) O O λs' w p g i=>hK s' w ⟨g.1,λb a j=>g.2 b a λd=>d.elim j λd=>O⟩ ?_;have:Wo (ad++[x])=Wo ad++[.int .i64 x]:=by simp[Wo]
 rw[this];refine aI.mono (aI.cut i) λb a d=>?_;rcases d.1 with h1|h1
 ·exact .inl h1
 ·exact .inr ⟨h1,a⟩
end Go.Ar
namespace Go.Ar
open Go.Vc (bV dB cR)
def i63 (x:Int):Bool:=decide (x<=9223372036854775807)
def pI (H:Hw)(t:Nat):Ph->Bool
 | .take k=>decide (k<H.tb.length)&&(match Q0 (H.cls k) ((H.jK t).li k)with
  | (some y,_)=>i63 y
  | (none,_)=>true)
 | .cI k _=>decide (k<H.tb.length)&&(ZZ (H.eB t) (k:Int) != 0 || !(Yp (H.eB t) (k:Int)).isEmpty)
 | .cJ _ _=>true
 | .grow _ _=>true
 | .fill=>match (H.jK t).bP with
  | (k,x::xs)::_=>decide (k<H.tb.length)&&(i63 x&&decide (((H.jK t).li k).os.length+xs.length<=256))
  | _=>false
 | .eD m=>decide (ZY (H.eB t) H.sp (m:Int) 1<=1000000)
 | .find x=>i63 x&&((bV H.live x).isSome&&decide (0<=x))
 | .put k _=>decide (k<H.tb.length) && !(H.jK t).bP.isEmpty
 | .back=>match (H.jK t).bP with
  | (_,xs)::_=>(xs.all λx=>i63 x&&decide (0<=XN H.bX x))&&decide (xs.length<=1000000)
  | _=>false
 | .dC _ a=>decide (0<=a)&&(decide (a.toNat<H.bX.length)&&H.bX.all λA=>A.runs.all λr=>decide (r.1<=1000000))
 | .drain=>true
theorem yx {x:Int}(h:i63 x=true):iE x:=by
 unfold i63 at h;unfold iE;exact re h
theorem Sa {H:Hw}{t:Nat}{p:Ph}(h:pI H t p=true):ui H t p:=by
 cases p with
 | take k=>
  simp only[pI,zF,zU]at h;refine⟨h.1,λy l j=>?_⟩;have e:=h.2;rw[j]at e;exact yx e
 | cI k w=>
  simp only[pI,zF,zU,nr]at h;refine⟨h.1,λi d=>?_⟩;rw[i,d]at h;simp at h
 | cJ k w=>trivial
 | grow k w=>trivial
 | fill=>
  simp only[pI]at h;split at h
  ·rename_i k x xs r hh;simp only[zF,zU]at h;exact⟨k,x,xs,r,hh,h.1,yx h.2.1,h.2.2⟩
  ·cases h
 | eD m=>
  simp only[pI,zU]at h;exact h
 | find x=>
  simp only[pI,zF,zU]at h;exact⟨yx h.1,λu=>by rw[u]at h;simp at h,λb _=>h.2.2⟩
 | put k x=>
  simp only[pI,zF,zU]at h;exact⟨h.1,λd=>by rw[d]at h;simp at h⟩
 | back=>
  simp only[pI]at h;split at h
  ·rename_i k xs r hh;simp only[zF,zU,j4]at h;exact⟨k,xs,r,hh,λx g=>⟨yx (h.1 x g).1,(h.1 x g).2⟩,h.2⟩
  ·cases h
 | dC s a=>
  simp only[pI,zF,zU,j4]at h;exact⟨h.1,h.2.1,h.2.2⟩
 | drain=>trivial
def oe:Nat->Hw->Nat->Ph->Option (Hw×Int×Int)
 | 0,_,_,_=>none
 | n+1,H,t,p=>if pI H t p&&decide ((H.jK t).bP.length<=900)then(match (Wt H t p).2.1 with
  | none=>some (Qu H t p,(Wt H t p).2.2.1,(Wt H t p).2.2.2)
  | some p'=>oe n (Qu H t p) t p')else none
theorem Ea:∀{n:Nat} {H:Hw} {t:Nat} {p:Ph} {r:Hw×Int×Int},oe n H t p=some r->∃m,iB m H t p r.1 r.2.1 r.2.2
 | 0,_,_,_,_,h=>by simp[oe]at h
 | n+1,H,t,p,r,h=>by
  rw[oe]at h;split at h
  ·rename_i hc;simp only[zF,zU]at hc;have hok:uz H t p:=⟨Sa hc.1,λg a=>by rw[←H6 a];exact hc.2⟩;split at h
   ·rename_i hn;cases h;exact⟨1,.done hok hn⟩
   ·rename_i p' hs;obtain⟨m,b⟩:=Ea h;exact⟨m+1,.next hok hs b⟩
  ·cases h
def yD (H:Hw)(thread kind size align addr:Int):Option (Hw×Int×Int):=match Kg H thread kind size align addr with
 | .inl e=>if e=0 then none else some (H,0,e)
 | .inr (t,p)=>oe 40 (eM H t (some p)) t p
theorem JG {H:Hw}{thread kind size align addr:Int}{r:Hw×Int×Int}(h:yD H thread kind size align addr=some r):Ug H thread kind size align addr r.1 r.2.1 r.2.2:=by
 unfold yD at h;split at h
 ·rename_i e he;split at h
  ·cases h
  ·rename_i hne;cases h;exact .inl ⟨he,hne,rfl,rfl⟩
 ·rename_i t p he;obtain⟨m,a⟩:=Ea h;exact .inr ⟨t,p,m,he,a⟩
def DW:List bZ:=(qb 8).map Z3
def w0:Hw:=VM DW ⟨64,1,1,1024,2⟩
theorem wB:VM ((qb 8).map Z3) ⟨(64:Int).toNat,(1:Int).toNat,(1:Int).toNat,(1024:Int).toNat,(2:Int).toNat⟩=w0:=rfl
end Go.Ar
namespace Go.Ar
open Go Go.Vc Go.Proofs
variable {U u u':Hp}{F:Rg}{L:dK}{H H':Hw}{N:Nat}
attribute [local irreducible] w0 DW
theorem MU (g:Gl U)(gd:Gd U){R:Option Addr->Hp->Prop}(hR:∀σ' L N,bK U σ'->U.size<=N->N<=σ'.size->HH σ' (λb=>N<=b) L w0->R (some ⟨L.p,0,none⟩) σ'):Xq.c U R:=by
 refine Xq.o ?_;unfold Xq.v;refine Wv.o ?_;unfold Wv.v;refine nw (cs:=[.int .i64 8,.int .i64 64,.int .i64 1,.int .i64 1,.int .i64 1024,.int .i64 2]) λv y e j=>j.rI rfl ?_;refine E8 8 aB aB λs r e1 x=>?_;have a:=e1.bT j id;have d:=e.trans e1;refine a.eY rfl (a.eY rfl (a.eY rfl (a.eY rfl (a.eY rfl ?_))));refine B0 x (g.bO d) (gd.bO d) 64 1 1 1024 2 (λm=>?_) (λ_ u=>?_) λ_ _ w L e2 i=>?_
 ·have:=Hj 8 aB aB;rw[show((8:Nat):Int)=8 from rfl]at this;rw[this]at m;cases m
 ·exact absurd u aB
 ·rw[wB]at i;exact cB rfl (hR w L r.size (d.trans e2) d.1 e2.1 i)
end Go.Ar
namespace Go.Proofs
open Go.Vc
set_option maxRecDepth 100000
def Xp.h:TX:=.nx (.o 3) (.nx (.seq (.o 3) (.cond (.seq (.o 2) (.leaf)) (.leaf))) (.nx (.seq (.cS (.seq [.op,.op,.op,.cX false 2 [.op,.op],.op,.cX false 2 [.op,.op],.op,.cX false 2 [.op,.op],.op,.cX false 5 [.op,.op,.op,.op,.op]])) (.cond (.seq (.o 2) (.leaf)) (.leaf))) (.nx (.o 3) (.nx (.o 5) (.nx (.cS (.held true [] (.take 0 (.take 1 (.take 2 (.take 3 (.take 4 (.take 5 (.take 6 (.take 10 (.all [(7,.take 8 (.take 9 (.all [(11,.take 12 (.take 13 (.take 14 (.take 15 (.take 16 (.done))))))])))]))))))))))) (.nx (.seq (.o 2) (.cond (.seq (.o 3) (.leaf)) (.leaf))) (.nx (.o 8) (.nx (.o 16) (.nx (.o 12) (.r1 (.o 2) bN (.block (.cS (.held true [] (.take 0 (.take 1 (.take 2 (.take 3 (.take 4 (.take 5 (.all [(6,.all [(7,.done)])])))))))))) (.seq (.o 3) (.seq (.cS (.held true [8] (.take 0 (.take 1 (.take 2 (.take 3 (.take 4 (.take 5 (.take 6 (.take 7 (.all [(8,.done)]))))))))))) (.seq (.o 5) (.leaf))))))))))))))
def Xp.v (a:R2)(b c d:Int)(e:Hp)(f:Int->Int->Hp->Prop):Prop:=aV #[.pointer a] 33 e λg h=>fW g h λi=>WE.c i h λj k=>If (!j) (f 0 5 k) (bW (λl m=>bW (λn o=>bW (λp q=>bW (λr s=>If r (f 0 1 s) (aV #[.I 0,.I 0,.I 0,.I 0,.I 0] 95 s λt u=>aR t 0 (.I 0) u λv=>aR t 1 (.I c) v λw=>aR t 2 (.I 0) w λx=>aR t 3 (.I 0) x λy=>aR t 4 (.I 0) y λz=>eN z λaa=>gC aa .p g λ(ab:R2)=>bU ab λac=>aU aa ac 0 λad=>aS aa t 0 λae=>aS aa t 1 λaf=>aS aa t 2 λag=>aS aa t 3 λah=>aS aa t 4 λai=>Xi.c ae af ag ah ai z λaj ak=>And (aa ak) <| bL ((if 16>d then 16 else d)+aj) λal=>bL (al+16) λam=>YG.c ad b am (if 16>d then 16 else d) ak λan ao ap=>And (aa ap) <| If (ao != 0) (f 0 ao ap) (fW g ap λaq=>bD aq 3 ap λau=>bL (au+1) λav=>bU aq λaw=>aR aw 3 (.I av) ap λax=>fW g ax λay=>bD ay 3 ax λa0=>bL (an+(if 16>d then 16 else d)) λa1=>aR t 4 (.I a0) ax λa2=>dX ((t.add 0).add 2) (.I an) a2 λa3=>dX ((t.add 0).add 0) (.I a1) a3 λa4=>fW g a4 λa5=>bF a5 0 a4 λa7=>Xv.c a7 an a4 λa8 a9 ba=>dX ((t.add 0).add 3) (.I a8) ba λbb=>aQ t 0 bb λbc=>aQ t 1 bb λbd=>aQ t 2 bb λbe=>aQ t 3 bb λbf=>aQ t 4 bb λbg=>
 XC.c bc bd be bf bg bb λbh bi=>Ax Tryz.prog (e1 bN) bh bi (λ(bj:Int) bk bl=>eN bl λbm=>gC bm .p g λ(bn:Option Addr)=>bU bn λbo=>aU bm bo 0 λbp=>ZC.c bj bl λbq br=>And (bm br) <| W9.c bp bj bq br λbs bt=>And (bm bt) <| bk bt) λbu=>fW g bu λbv=>aQ t 0 bu λbw=>aQ t 1 bu λbx=>aQ t 2 bu λbz=>aQ t 3 bu λb0=>aQ t 4 bu λb1=>XR.c bv bw bx bz b0 b1 0 bu λb2=>eN b2 λb3=>gC b3 .p g λ(b4:Option Addr)=>bU b4 λb5=>gC b3 .m (b5.add 1) λ(b6:Option Nat)=>gC b3 bN ((t.add 0).add 0) λ(b7:Int)=>aS b3 t 0 λb8=>aS b3 t 1 λb9=>aS b3 t 2 λca=>aS b3 t 3 λcb=>aS b3 t 4 λcc=>kv .i64 (.ag 5) b6 b7 (b8,b9,ca,cb,cc) b2 λcd=>bM ((t.add 0).add 0) cd λce=>uk bi.size cd λcf=>f ce 0 cf))) λcg=>If p (cg true q) (bL (d-1) λch=>cg ((bits .and .i64 d ch) != 0) q)) λci=>If n (ci true o) (ci (decide (d>256)) o)) λcj=>If l (cj true m) (cj (decide (d<1)) m)) λck=>If (c<1) (ck true k) (ck (decide (c>1024)) k))
theorem Xp.o {a b c d e f}(g:Xp.v a b c d e f):Xp.c a b c d e f:=Ej Tryz.func14 (x:=Xp.h) (R0 g)
def YI.h:Hn:=.q .o2 (.q (.q .o4 (.q .o2 (.c (.q .o3 .l) .l))) (.q .gH .l))
def YI.v (a:R2)(b:Int)(c:Hp)(d:Int->Int->Hp->Prop):Prop:=X3.c a b c λe f=>If (e != 0) (d 0 e f) (bF a 0 f λh=>YL.c h b f λi j k=>d i j k)
theorem YI.o {a b c d}(e:YI.v a b c d):YI.c a b c d:=Wa Tryz.func16 (x:=YI.h) (R0 e)
def Xh.h:Hn:=.q .o1 (.q (.q .o4 (.q .o2 .aJ)) (.q .o8 .l))
def Xh.v (a:R2)(b c:Int)(d:Hp)(e:aN):Prop:=X3.c a b d λf g=>If (f != 0) (e f g) (bF a 0 g λi=>W9.c i b c g λj k=>e j k)
theorem Xh.o {a b c d e}(f:Xh.v a b c d e):Xh.c a b c d e:=Wa Tryz.func17 (x:=Xh.h) (R0 f)
def XY.h:Hn:=.q .o1 (.q (.q .o3 .aK) (.q .o1 (.q (.q .o8 (.k (.loop [(3,.one .s),(16,.I)] (.q .o1 (.q (.c .l .l) (.q (.k (.q .o3 (.o 11))) .o2)))))) .aL)))
def XY.v (a:R2)(b:Hp)(c:Sl->Hp->Prop):Prop:=WE.c a b λd e=>If (!d) (c ⟨none,0,0⟩ e) (bI a 1 e λg=>Zc.c g e λh i=>QD.c h i λj k=>X9 [.s,bN] (λl=>l ⟨none,0,0⟩ 0 k) λm (n:Sl) (o:Int) p=>If (o<((j.len:Nat):Int)) (Ix j.a j.len o 1 λq=>bM q p λr=>bU a λs=>bB s 1 p λt=>Lk .i64 (.ag 5) t r p λu=>aV #[.I ((u.getD (0,0,0,0,0)).1),.I ((u.getD (0,0,0,0,0)).2.1),.I ((u.getD (0,0,0,0,0)).2.2.1),.I ((u.getD (0,0,0,0,0)).2.2.2.1)] 52 p λv w=>App n 4 32 52 [.I 0,.I 0,.I 0,.I 0] ⟨some v,1,1⟩ w λx y=>bL (o+1) λz=>m x z y) (c n p))
theorem XY.o {a b c}(d:XY.v a b c):XY.c a b c:=Wa Tryz.func20 (x:=XY.h) (R0 d)
def Xw.h:Hn:=.q .o2 (.q (.q .o3 .aJ) (.q (.o 12) (.q (.q .o2 .aJ) (.q (.q .o3 .aJ) (.q .o5 .l)))))
def Xw.v (a:R2)(b:Int)(c:Hp)(d:Sl->Int->Hp->Prop):Prop:=WE.c a c λe f=>If (!e) (d ⟨none,0,0⟩ 5 f) (bI a 1 f λh=>Lk .i64 (.ag 5) h b f λi=>aV #[.I 0,.I 0,.I 0,.I 0,.I 0] 95 f λj k=>aR j 0 (.I ((i.getD (0,0,0,0,0)).1)) k λl=>aR j 1 (.I ((i.getD (0,0,0,0,0)).2.1)) l λm=>aR j 2 (.I ((i.getD (0,0,0,0,0)).2.2.1)) m λn=>aR j 3 (.I ((i.getD (0,0,0,0,0)).2.2.2.1)) n λo=>aR j 4 (.I ((i.getD (0,0,0,0,0)).2.2.2.2)) o λp=>If (!i.isSome) (d ⟨none,0,0⟩ 8 p) (aQ j 0 p λq=>aQ j 1 p λr=>aQ j 2 p λs=>aQ j 3 p λt=>aQ j 4 p λu=>W5.c a q r s t u p λv w=>If v (d ⟨none,0,0⟩ 5 w) (aQ j 0 w λx=>aQ j 1 w λy=>aQ j 2 w λz=>aQ j 3 w λaa=>aQ j 4 w λab=>W6.c a x y z aa ab w λac ad=>d ac 0 ad)))
theorem Xw.o {a b c d}(e:Xw.v a b c d):Xw.c a b c d:=Wa Tryz.func21 (x:=Xw.h) (R0 e)
def Yg.h:Hn:=.q .o1 (.q (.q .o3 .aK) (.q .o1 (.q (.q .o5 (.k (.loop [(3,.one .s)] (.q (.cS (.seq [.it .i64 (.ag 5),.op])) (.q (.c .l .l) (.k (.q (.cS (.seq [.it .i64 (.ag 5),.op,.op,.op])) (.q .o4 (.c .o6 .l))))))))) (.q .o2 (.q .o3 .l)))))
def Yg.v (a:R2)(b:Hp)(c:Sl->Hp->Prop):Prop:=WE.c a b λd e=>If (!d) (c ⟨none,0,0⟩ e) (bI a 1 e λg=>nL .i64 (.ag 5) g e λh i=>X9 [.s] (λj=>j ⟨none,0,0⟩ i) λk (l:Sl) m=>nO .i64 (.ag 5) h m (KR.c l m λn=>WT.c l n λo p=>c o p) (λq r s=>nQ .i64 (.ag 5) h s λt u=>aV #[.I 0,.I 0,.I 0,.I 0,.I 0] 95 s λv w=>aR v 0 (.I u.1) w λx=>aR v 1 (.I u.2.1) x λy=>aR v 2 (.I u.2.2.1) y λz=>aR v 3 (.I u.2.2.2.1) z λaa=>aR v 4 (.I u.2.2.2.2) aa λab=>aQ v 0 ab λac=>aQ v 1 ab λad=>aQ v 2 ab λae=>aQ v 3 ab λaf=>aQ v 4 ab λag=>W5.c a ac ad ae af ag ab λah ai=>If (!ah) (aQ v 0 ai λaj=>aQ v 1 ai λak=>aQ v 2 ai λal=>aQ v 3 ai λam=>aQ v 4 ai λan=>W6.c a aj ak al am an ai λao ap=>App l 1 8 3 [.I 0] ao ap λaq ar=>k aq ar) (k l ai)))
theorem Yg.o {a b c}(d:Yg.v a b c):Yg.c a b c:=Wa Tryz.func22 (x:=Yg.h) (R0 d)
def YF.h:Hn:=.q .o2 (.q (.q .o3 (.c (.q .o3 .l) .l)) (.q .o9 (.q (.q .o2 (.c (.q .o3 .l) .l)) (.q .o4 .l))))
def YF.v (a:R2)(b:Int)(c:Hp)(d:Int->Int->Int->Int->Int->Hp->Prop):Prop:=aV #[.I 0,.I 0,.I 0,.I 0] 52 c λe f=>WE.c a f λg h=>If (!g) (aR e 0 (.I 0) h λi=>aR e 1 (.I 0) i λj=>aR e 2 (.I 0) j λk=>aR e 3 (.I 0) k λl=>aQ e 0 l λm=>aQ e 1 l λn=>aQ e 2 l λo=>aQ e 3 l λp=>d m n o p 5 l) (Y3.c a b ⟨57,#[],#[]⟩ h λq r s t u v w=>aV #[.I 0,.I 0,.I 0,.I 0,.I 0] 95 w λx y=>aR x 0 (.I q) y λz=>aR x 1 (.I r) z λaa=>aR x 2 (.I s) aa λab=>aR x 3 (.I t) ab λac=>aR x 4 (.I u) ac λad=>If (!v) (aR e 0 (.I 0) ad λae=>aR e 1 (.I 0) ae λaf=>aR e 2 (.I 0) af λag=>aR e 3 (.I 0) ag λah=>aQ e 0 ah λai=>aQ e 1 ah λaj=>aQ e 2 ah λak=>aQ e 3 ah λal=>d ai aj ak al 8 ah) (bM ((x.add 0).add 0) ad λam=>bM ((x.add 0).add 1) ad λan=>bM ((x.add 0).add 2) ad λao=>bM ((x.add 0).add 3) ad λap=>aR e 0 (.I am) ad λaq=>aR e 1 (.I an) aq λar=>aR e 2 (.I ao) ar λau=>aR e 3 (.I ap) au λav=>aQ e 0 av λaw=>aQ e 1 av λax=>aQ e 2 av λay=>aQ e 3 av λaz=>d aw ax ay az 0 av))
theorem YF.o {a b c d}(e:YF.v a b c d):YF.c a b c d:=Wa Tryz.func23 (x:=YF.h) (R0 e)
def YD.h:Hn:=.q .o1 (.q (.q .o3 .aK) (.q .o5 .l))
def YD.v (a:R2)(b:Hp)(c:Option Addr->Hp->Prop):Prop:=WE.c a b λd e=>If (!d) (c none e) (bF a 0 e λg=>c g e)
theorem YD.o {a b c}(d:YD.v a b c):YD.c a b c:=Wa Tryz.func24 (x:=YD.h) (R0 d)
def WH.h:Hn:=.q .o1 (.q .o5 .l)
def WH.v (a:R2)(b c:Int)(d:Hp)(e:aN):Prop:=X0.c a b c true d λf g=>e f g
theorem WH.o {a b c d e}(f:WH.v a b c d e):WH.c a b c d e:=Wa Tryz.func29 (x:=WH.h) (R0 f)
def Qw.h:Hn:=.q .o2 (.q (.q .o3 .aJ) (.q .o7 .l))
def Qw.v (a:R2)(b:Hp)(c:Option Addr->Int->Hp->Prop):Prop:=Qo.c a b λd e=>If (!d) (c none 1 e) (Nw (.map #[] 0) e λf g=>Nw (.map #[] 0) g λh i=>aV #[.pointer a,.map (some f.block),.map (some h.block),.I 0] 74 i λj k=>c (some j) 0 k)
theorem Qw.o {a b c}(d:Qw.v a b c):Qw.c a b c:=Wa Tryz.func33 (x:=Qw.h) (R0 d)
def WE.h:Hn:=.q .o1 (.q (.cS (.seq [.op,.op,.op,.cX true 5 (RI.ops 5),.op])) .l)
def WE.v (a:R2)(b:Hp)(c:aO):Prop:=bW (λd e=>c d e) λf=>If (!a.isNone) (bF a 0 b λh=>f (!h.isNone) b) (f false b)
theorem WE.o {a b c}(d:WE.v a b c):WE.c a b c:=Wa Tryz.func42 (x:=WE.h) (R0 d)
def Xi.h:Hn:=.q .o2 (.q .o8 .l)
def Xi.v (a b c d e:Int)(f:Hp)(g:aN):Prop:=aV #[.I a,.I b,.I c,.I d,.I e] 95 f λh i=>bM ((h.add 0).add 1) i λj=>bL (j+8) λk=>bL (k-1) λl=>Nz 8<|bL (l.tdiv 8) λm=>bL (m*8) λn=>g n i
theorem Xi.o {a b c d e f g}(h:Xi.v a b c d e f g):Xi.c a b c d e f g:=Wa Tryz.func44 (x:=Xi.h) (R0 h)
def XC.h:Hn:=.q .o2 .aL
def XC.v (a b c d e:Int)(f:Hp)(g:Fv->Hp->Prop):Prop:=aV #[.I a,.I b,.I c,.I d,.I e] 95 f λh i=>g ⟨82,#[],#[.pointer (some h)]⟩ i
theorem XC.o {a b c d e f g}(h:XC.v a b c d e f g):XC.c a b c d e f g:=Wa Tryz.func45 (x:=XC.h) (R0 h)
def ZC.h:Hn:=.q .o1 (.q .o4 .l)
def ZC.v (a:Int)(b:Hp)(c:aN):Prop:=bL (0-a) λd=>bL (d-1) λe=>c e b
theorem ZC.o {a b c}(d:ZC.v a b c):ZC.c a b c:=Wa Tryz.func46 (x:=ZC.h) (R0 d)
def XR.h:Hn:=.q .o1 (.q .o1 (.k (.loop [(6,.I)] (.q (.q .o4 (.c .l .l)) (.q (.k (.cS (.tail 10 (RI.ops 10) [.op]))) .o3)))))
def XR.v (a:R2)(b c d e f g:Int)(h:Hp)(i:aP):Prop:=aV #[.I b,.I c,.I d,.I e,.I f] 95 h λj k=>X9 [bN] (λl=>l 0 k) λm (n:Int) o=>aQ j 0 o λp=>aQ j 1 o λq=>aQ j 2 o λr=>aQ j 3 o λs=>aQ j 4 o λt=>Xi.c p q r s t o λu v=>If (n<u) (bF a 0 v λx=>bM ((j.add 0).add 0) v λy=>bL (y+n) λz=>W9.c x z g v λaa ab=>bL (n+8) λac=>m ac ab) (i v)
theorem XR.o {a b c d e f g h i}(j:XR.v a b c d e f g h i):XR.c a b c d e f g h i:=Wa Tryz.func47 (x:=XR.h) (R0 j)
def X3.h:Hn:=.q .o1 (.q (.q .o3 .aK) (.q .o9 (.q (.k (.q (.cS (.seq [.op,.op,.op,.cX false 3 (RI.ops 3),.op])) (.c .aM (.q .o4 .aK)))) .aM)))
def X3.v (a:R2)(b:Int)(c:Hp)(d:aN):Prop:=WE.c a c λe f=>If (!e) (d 5 f) (Y3.c a b ⟨44,#[],#[]⟩ f λg h i j k l m=>aV #[.I 0,.I 0,.I 0,.I 0,.I 0] 95 m λn o=>aR n 0 (.I g) o λp=>aR n 1 (.I h) p λq=>aR n 2 (.I i) q λr=>aR n 3 (.I j) r λs=>aR n 4 (.I k) s λt=>bW (λu v=>If u (d 7 v) (aQ n 0 v λw=>aQ n 1 v λx=>aQ n 2 v λy=>aQ n 3 v λz=>aQ n 4 v λaa=>W5.c a w x y z aa v λab ac=>If ab (d 5 ac) (d 0 ac))) λad=>If (!l) (ad true t) (Nz 8 <| ad ((b.tmod 8) != 0) t))
theorem X3.o {a b c d}(e:X3.v a b c d):X3.c a b c d:=Wa Tryz.func48 (x:=X3.h) (R0 e)
def W5.h:Hn:=.q .o2 (.q (.cS (.held true [7] (.tk [0,1,2,3,4,5,6] (.all [(7,.tk [8,9,10,11,12] (.done))])))) (.q (.cS (.seq [.op,.op,.op,.cX false 5 (RI.ops 5),.op])) .l))
def W5.v (a:R2)(b c d e f:Int)(g:Hp)(h:aO):Prop:=aV #[.I b,.I c,.I d,.I e,.I f] 95 g λi j=>eN j λk=>bU a λl=>aU k l 0 λm=>gC k bN ((i.add 0).add 2) λ(n:Int)=>Xv.c m n j λo p q=>bW (λr s=>h r s) λt=>If (p != 0) (t true q) (bM ((i.add 0).add 3) q λu=>t (o != u) q)
theorem W5.o {a b c d e f g h}(i:W5.v a b c d e f g h):W5.c a b c d e f g h:=Wa Tryz.func52 (x:=W5.h) (R0 i)
def W6.h:TX:=.nx (.o 3) (.nx (.o 1) (.r1 (.o 2) bN (.block (.seq (.o 11) (.seq (.cS (.seq [.op,.op,.op,.cX false 4 [.op,.op,.op,.op]])) (.cond (.o 5) (.leaf))))) (.seq (.o 2) (.leaf))))
def W6.v (a:R2)(b c d e f:Int)(g:Hp)(h:Sl->Hp->Prop):Prop:=aV #[.pointer a] 33 g λi j=>aV #[.I b,.I c,.I d,.I e,.I f] 95 j λk l=>aV #[.slice none 0 0] 34 l λm n=>aQ k 0 n λo=>aQ k 1 n λp=>aQ k 2 n λq=>aQ k 3 n λr=>aQ k 4 n λs=>XC.c o p q r s n λt u=>Ax Tryz.prog (e1 bN) t u (λ(v:Int) w x=>fW i x λy=>bF y 0 x λaa=>YL.c aa v x λab ac ad=>bW (λae af=>If ae (jm m af λag=>aV #[.I v] 3 af λah ai=>App ag 1 8 3 [.I 0] ⟨some ah,1,1⟩ ai λaj ak=>dX m (.slice aj.a aj.len aj.cap) ak λal=>w al) (w af)) λam=>If (ac != 0) (am true ad) (ZC.c v ad λan ao=>am (ab != an) ao)) λap=>jm m ap λaq=>uk u.size ap λar=>h aq ar
theorem W6.o {a b c d e f g h}(i:W6.v a b c d e f g h):W6.c a b c d e f g h:=Ej Tryz.func53 (x:=W6.h) (R0 i)
def Y3.h:Hn:=.q .o2 (.q .o1 (.q .o2 (.q (.q .o5 (.k (.loop [(9,.one .b),(10,.one .b)] (.q (.cS (.seq [.it .i64 (.ag 5),.op])) (.q (.c .l .l) (.k (.q (.cS (.seq [.it .i64 (.ag 5),.op,.op,.op])) (.q (.q (.cS (.ib true [] [(38,.one .b)] (.tk [0,1,2,3,4,5] (.split 28 (.tk [6,7,8,9,10,11,12,13,14,15] (.done)) (.tk [6,7,8,9,10,11] (.all [(12,.tk [13,14,15] (.done))])))))) (.c .l .l)) (.q .o5 (.q (.cS (.seq [.op,.op,.op,.cX false 5 [.op,.op,.cX true 2 [.op,.op]],.op,.cX false 10 [.op,.op,.op,.op,.cX true 5 (RI.ops 5)]])) (.c .o5 .l))))))))))) (.q .o4 .l))))
def Y3.v (a:R2)(b:Int)(c:Fv)(d:Hp)(e:Int->Int->Int->Int->Int->Bool->Hp->Prop):Prop:=aV #[.I 0,.I 0,.I 0,.I 0,.I 0] 95 d λf g=>aV #[.I 0,.I 0,.I 0,.I 0,.I 0] 95 g λh i=>bI a 1 i λk=>nL .i64 (.ag 5) k i λl m=>X9 [.b,.b] (λn=>n false false m) λo (p:Bool) (q:Bool) r=>nO .i64 (.ag 5) l r (aQ h 0 r λs=>aQ h 1 r λt=>aQ h 2 r λu=>aQ h 3 r λv=>aQ h 4 r λw=>aR f 0 (.I s) r λx=>aR f 1 (.I t) x λy=>aR f 2 (.I u) y λz=>aR f 3 (.I v) z λaa=>aR f 4 (.I w) aa λab=>aQ f 0 ab λac=>aQ f 1 ab λad=>aQ f 2 ab λae=>aQ f 3 ab λaf=>aQ f 4 ab λag=>e ac ad ae af ag p ab) (λah ai aj=>nQ .i64 (.ag 5) l aj λak al=>aV #[.I 0,.I 0,.I 0,.I 0,.I 0] 95 aj λam an=>aR am 0 (.I al.1) an λao=>aR am 1 (.I al.2.1) ao λap=>aR am 2 (.I al.2.2.1) ap λaq=>aR am 3 (.I al.2.2.2.1) aq λar=>aR am 4 (.I al.2.2.2.2) ar λau=>Jn [.b] (λ(av:Bool) aw=>If av (o p q aw) (aQ am 0 aw λax=>aQ am 1 aw λay=>aQ am 2 aw λaz=>aQ am 3 aw λa0=>aQ am 4 aw λa1=>W5.c a ax ay az a0 a1 aw λa2 a3=>bW (λa4 a5=>bW (λa6 a7=>If a6 (aQ am 0 a7 λa8=>aQ am 1 a7 λa9=>aQ am 2 a7 λba=>aQ am 3 a7 λbb=>aQ am 4 a7 λbc=>aR h 0 (.I a8) a7 λbd=>
 aR h 1 (.I a9) bd λbe=>aR h 2 (.I ba) be λbf=>aR h 3 (.I bb) bf λbg=>aR h 4 (.I bc) bg λbh=>o true (!a2) bh) (o p q a7)) λbi=>If a4 (bi true a5) (bW (λbj bk=>bi bj bk) λbl=>If ((!a2)==q) (aQ am 4 a5 λbm=>aQ h 4 a5 λbn=>bl (decide (bm>bn)) a5) (bl false a5))) λbo=>If (!p) (bo true a3) (bW (λbp bq=>bo bp bq) λbr=>If (!a2) (br (!q) a3) (br false a3)))) λbs=>eN au λbt=>gC bt bN ((am.add 0).add 0) λ(bu:Int)=>If (b<bu) (bs true au) (gC bt bN ((am.add 0).add 0) λ(bv:Int)=>aS bt am 0 λbw=>aS bt am 1 λbx=>aS bt am 2 λbz=>aS bt am 3 λb0=>aS bt am 4 λb1=>VW Tryz.prog c [.agg #[.I bw,.I bx,.I bz,.I b0,.I b1]] [.I] au λb2 b3=>And (bt b3) <| bL (bv+b2) λb4=>bs (decide (b≥b4)) b3))
theorem Y3.o {a b c d e}(f:Y3.v a b c d e):Y3.c a b c d e:=Wa Tryz.func56 (x:=Y3.h) (R0 f)
def Yx.h:Hn:=.q .o2 (.q .o4 .l)
def Yx.v (a b c d e:Int)(f:Hp)(g:aN):Prop:=aV #[.I a,.I b,.I c,.I d,.I e] 95 f λh i=>bM ((h.add 0).add 1) i λj=>g j i
theorem Yx.o {a b c d e f g}(h:Yx.v a b c d e f g):Yx.c a b c d e f g:=Wa Tryz.func57 (x:=Yx.h) (R0 h)
def X0.h:Hn:=.q .o1 (.q (.q .o3 .aK) (.q (.q .o4 (.q .o2 .aJ)) (.q (.o 12) (.q (.k (.q (.cS (.seq [.op,.op,.op,.cX true 6 (RI.ops 6),.op])) (.c .aM (.q .o3 (.c .aM (.q .o4 (.c .aM (.q (.cS (.seq [.op,.op,.cX true 5 (RI.ops 5),.op])) .aK)))))))) (.q .o3 (.q .o6 (.q .o6 (.q (.cS (.tail 8 (RI.ops 8) [.op])) .aM))))))))
def X0.v (a:R2)(b c:Int)(d:Bool)(e:Hp)(f:aN):Prop:=WE.c a e λg h=>If (!g) (f 5 h) (Ym.c a b h λi j=>If (i != 0) (f i j) (bI a 1 j λl=>Lk .i64 (.ag 5) l c j λm=>aV #[.I 0,.I 0,.I 0,.I 0,.I 0] 95 j λn o=>aR n 0 (.I ((m.getD (0,0,0,0,0)).1)) o λp=>aR n 1 (.I ((m.getD (0,0,0,0,0)).2.1)) p λq=>aR n 2 (.I ((m.getD (0,0,0,0,0)).2.2.1)) q λr=>aR n 3 (.I ((m.getD (0,0,0,0,0)).2.2.2.1)) r λs=>aR n 4 (.I ((m.getD (0,0,0,0,0)).2.2.2.2)) s λt=>bW (λu v=>If u (f 9 v) (If (!m.isSome) (f 8 v) (aQ n 0 v λw=>aQ n 1 v λx=>aQ n 2 v λy=>aQ n 3 v λz=>aQ n 4 v λaa=>W5.c a w x y z aa v λab ac=>If ab (f 5 ac) (bW (λad ae=>If ad (f 10 ae) (aQ n 0 ae λaf=>aQ n 1 ae λag=>aQ n 2 ae λah=>aQ n 3 ae λai=>aQ n 4 ae λaj=>XR.c a af ag ah ai aj (-1234567) ae λak=>bI a 1 ak λam=>lz .i64 (.ag 5) am c ak λan=>bI a 2 an λap=>kv .i64 .b ap c true an λaq=>bF a 0 aq λau=>bM ((n.add 0).add 2) aq λav=>Zg.c au b av aq λaw ax=>f 0 ax)) λay=>If d (aQ n 0 ac λaz=>aQ n 1 ac λa0=>aQ n 2 ac λa1=>aQ n 3 ac λa2=>aQ n 4 ac λa3=>W6.c a az a0 a1 a2 a3 ac λa4 a5=>ay (decide (((a4.len:Nat):Int)>0)) a5) (ay false ac))))) λa6=>If (!m.isSome) (bI a 2 t λa8=>
 Lk .i64 .b a8 c t λa9=>a6 (a9.getD false) t) (a6 false t)))
theorem X0.o {a b c d e f}(g:X0.v a b c d e f):X0.c a b c d e f:=Wa Tryz.func63 (x:=X0.h) (R0 g)
def Qo.h:Hn:=.q .o1 (.q (.cS (.seq [.op,.op,.op,.cX true 4 (RI.ops 4),.op])) .l)
def Qo.v (a:R2)(b:Hp)(c:aO):Prop:=bW (λd e=>c d e) λf=>If (!a.isNone) (XZ.c a b λg h i j k l=>f (decide (g>0)) l) (f false b)
theorem Qo.o {a b c}(d:Qo.v a b c):Qo.c a b c:=Wa Tryz.func65 (x:=Qo.h) (R0 d)
def cH.rF (l:Nat)(cap0:Addr)(U:Hp)(R:aP):Prop:=y7 Tryz.prog 82 #[.func (.yield l) #[] #[],.pointer (some cap0)] U R
def cH.wR:Hn:=.seq (.seq (.o 4) (.block (.loop [(3,.one bN)] (.seq (.seq (.o 5) (.cond (.leaf) (.leaf))) (.seq (.block (.seq (.leaf) (.cond (.leaf) (.leaf)))) (.o 3)))))) (.seq (.cS (.held true [] (.tk [0,1,2,3] (.all [(4,.take 5 (.take 6 (.done)))])))) (.block (.loop [(4,.one bN)] (.seq (.seq (.o 10) (.cond (.leaf) (.leaf))) (.seq (.block (.seq (.leaf) (.cond (.leaf) (.leaf)))) (.o 3))))))
def cH.wP (l:Nat)(cap0:Addr)(U:Hp)(R:aP):Prop:=
 gA .i64 ((cap0.add 0).add 2) U λvw=>
 X9 [bN] (λI=>I vw U) λJ (vw1:Int) v=>
 gA .i64 ((cap0.add 0).add 0) v λt11=>
 If (decide (vw1<t11)) (U7 Tryz.prog l [.int .i64 vw1] v λmore v1=>
  If (!more) (R v1)
   (Ar .i64 (vw1+8) λvw2=>
   J vw2 v1))
  (eN v λS=>
  gC S bN ((cap0.add 0).add 0) λ(t21:Int)=>
  gC S bN (cap0.add 0) λ(t22:Int)=>
  gC S bN (cap0.add 1) λ(t221:Int)=>
  gC S bN (cap0.add 2) λ(t222:Int)=>
  gC S bN (cap0.add 3) λ(t223:Int)=>
  gC S bN (cap0.add 4) λ(t224:Int)=>
  Xi.c t22 t221 t222 t223 t224 v λt23 v2=>
  And (S v2) <|
  Ar .i64 (t21+t23) λvw3=>
  X9 [bN] (λI1=>I1 vw3 v2) λJ1 (vw4:Int) v3=>
  Ar .i64 (vw4+8) λt26=>
  gA .i64 ((cap0.add 0).add 2) v3 λt29=>
  gA .i64 ((cap0.add 0).add 3) v3 λt32=>
  Ar .i64 (t29+t32) λt33=>
  If (decide (t26<=t33)) (U7 Tryz.prog l [.int .i64 vw4] v3 λmore1 v4=>
   If (!more1) (R v4)
    (Ar .i64 (vw4+8) λvw5=>
    J1 vw5 v4))
   (R v3))
theorem cH.tJ {l:Nat}{cap0:Addr}{U:Hp}{R:aP}(hv:cH.wP l cap0 U R):cH.rF l cap0 U R:=
 Sz Tryz.func82 (x:=cH.wR) (args:=[.func (.yield l) #[] #[],.pointer (some cap0)]) (R:=R) (R0 hv)
def Ym.h:Hn:=.q .o1 (.q (.q (.cS (.seq [.op,.op,.op,.cX false 8 (RI.ops 8)])) .aK) (.q (.q .o7 .aK) .aM))
def Ym.v (a:R2)(b:Int)(c:Hp)(d:aN):Prop:=bW (λe f=>If e (d 1 f) (bF a 0 f λh=>Y6.c h b f λi j=>If (!(i.toList==(ByteArray.mk #[]).toList)) (d 5 j) (d 0 j))) λk=>If (b<0) (k true c) (bF a 0 c λm=>XZ.c m c λn o p q r s=>k (decide (b≥p)) s)
theorem Ym.o {a b c d}(e:Ym.v a b c d):Ym.c a b c d:=Wa Tryz.func90 (x:=Ym.h) (R0 e)
end Go.Proofs
namespace Go.Ar
open Go Go.Vc Go.Proofs
open Go.Vc (bV dB cR)
variable {U σ0 v w w':Hp}{F P Q X T:Rg}{L:dK}{H H':Hw}{held:List Pc}{s0 sp:Sp}{t n:Nat}{g:Th}{gb km fm m:Nat}
theorem iL {S:aP}{b i:Nat}{cs:List Value}{c:CK}{y:c.T}(hS:∀m,S m->bY m b cs)(hc:cs[i]?=some (c.v y)){K:c.T->Prop}(hK:K y):gC S c (Addr.add ⟨b,0,none⟩ i) K:=
 ⟨y,λm a=>by rw[add_lit,(hS m a).cell,zH];exact hc,hK⟩
theorem tE {S:aP}{b:Nat}{cs:List Value}{c:CK}{y:c.T}(hS:∀m,S m->bY m b cs)(hc:cs[0]?=some (c.v y)){K:c.T->Prop}(hK:K y):gC S c ⟨b,0,none⟩ K:=
 ⟨y,λm a=>by rw[(hS m a).cell];exact hc,hK⟩
theorem pd {S:aP}{b i j:Nat}{cs:List Value}{c:CK}{y:c.T}(hS:∀m,S m->bY m b cs)(hc:cs[i+j]?=some (c.v y)){K:c.T->Prop}(hK:K y):gC S c (Addr.add (Addr.add ⟨b,0,none⟩ i) j) K:=
 ⟨y,λm a=>by rw[add_lit,add_lit,(hS m a).cell,zH];exact hc,hK⟩
abbrev B5:=Int×Int×Int×Int×Int
def eW (b:B5):List Value:=[.int .i64 b.1,.int .i64 b.2.1,.int .i64 b.2.2.1,.int .i64 b.2.2.2.1,.int .i64 b.2.2.2.2]
def ZE (n:Int):Int:=(n+7)/8*8
structure hO (b:B5):Prop where
 s:1<=b.2.1/\b.2.1<=1024
 base:0<=b.2.2.1/\b.2.2.1%8=0
 z:16<=b.1-b.2.2.1/\b.1-b.2.2.1<=256/\b.1%8=0
 t:b.1+ZE b.2.1+16<=b.2.2.1+b.2.2.2.1/\b.2.2.2.1%8=0
 m:b.2.2.1+b.2.2.2.1<=270000
theorem Qh {n:Int}(h:0<=n):n<=ZE n/\ZE n<=n+7/\ZE n%8=0:=by unfold ZE;omega
structure Gu where
 kn:List (Int×B5)
 fr:List (Int×Bool)
 no:Int
def nV:Gu:=⟨[],[],0⟩
def VA (b:B5):Nat:=(b.1-b.2.2.1).toNat/8
def pK (b:B5):Nat:=(b.2.2.1+b.2.2.2.1-b.1-ZE b.2.1).toNat/8
def Za (b:B5):List Int:=((List.range (VA b)).map λ(i:Nat)=>b.2.2.1+8*(i:Int))++(List.range (pK b)).map λ(i:Nat)=>b.1+ZE b.2.1+8*(i:Int)
theorem FT (b:B5):(Za b).length=VA b+pK b:=by unfold Za;simp
theorem Si {b:B5}{i:Nat}(h:i<VA b):(Za b)[i]?=some (b.2.2.1+8*(i:Int)):=by
 unfold Za;rw[ze (by simpa using h)];simp[h]
theorem LM {b:B5}{i:Nat}(h:i<pK b):(Za b)[VA b+i]?=some (b.1+ZE b.2.1+8*(i:Int)):=by
 unfold Za;rw[zr aA];simp[h]
theorem U3 {b:B5}(bi:hO b){z:Int}(hz:z∈Za b):b.2.2.1<=z/\z%8=0/\z+8<=b.2.2.1+b.2.2.2.1/\(z+8<=b.1\/b.1+ZE b.2.1<=z):=by
 obtain⟨s,⟨g,d⟩,⟨p,j,u⟩,⟨t,r⟩,m⟩:=bi;have e:=Qh (n:=b.2.1) O;unfold Za at hz;rcases zK.1 hz with h|h
 ·obtain⟨i,a,rfl⟩:=zE.1 h;have:=zg.1 a;unfold VA at this;exact⟨O,O,O,.inl O⟩
 ·obtain⟨i,a,rfl⟩:=zE.1 h;have:=zg.1 a;unfold pK at this;exact⟨O,O,O,.inr O⟩
def jz (z:Int):Int:=-z-1
def r6 (hp km fm:Nat)(x:Gu):List Value:=[.pointer (some ⟨hp,0,none⟩),.map (some km),.map (some fm),.int .i64 x.no]
structure GP (σ0 U:Hp) (L:dK) (H:Hw) (held:List Pc) (s0:Sp) (P:Rg) (gb km fm:Nat) (x:Gu):Prop where
 e:bK σ0 U
 h:HH U P L H
 hi:HI H held s0
 cf:kA H
 pg:H.cf.aF<=128
 pP:∀b,P b->σ0.size<=b/\b<U.size
 rX:σ0.size<=gb/\¬P gb
 sf:σ0.size<=km/\¬P km
 tT:σ0.size<=fm/\¬P fm
 n1:gb≠km
 n2:gb≠fm
 n3:km≠fm
 b:bY U gb (r6 L.p km fm x)
 m:dH U km .i64 (.ag 5) x.kn
 f:dH U fm .i64 .b x.fr
 g0:iN (λb=>σ0.size<=b)/\¬σ0.size<=1
variable {x y:Gu}
theorem GP.fr (p:GP σ0 U L H held s0 P gb km fm x)(e:bK U w):GP σ0 w L H held s0 P gb km fm x:=
 ⟨p.e.trans e,p.h.bO e,p.hi,p.cf,p.pg,λb a=>⟨(p.pP b a).1,by have:=(p.pP b a).2;have:=e.1;omega⟩,p.rX,p.sf,p.tT,p.n1,p.n2,p.n3,e.bT p.b id,e.fO p.m id,e.fO p.f id,p.g0⟩
theorem GP.out (p:GP σ0 U L H held s0 P gb km fm x)(e:Ext T U w)(hT:∀b,b<U.size->T b->¬P b/\b≠gb/\b≠km/\b≠fm/\σ0.size<=b):GP σ0 w L H held s0 P gb km fm x:=by
 have s:=e.1;have a:=p.b.lt;have j:=p.m.lt;have g:=p.f.lt;have i:Ext (λb=>T b/\b<U.size) U w:=⟨e.1,λb a g=>e.2 b a λd=>g ⟨d,a⟩⟩;refine⟨Ext.dS p.e i λb a=>.inr (hT b a.2 a.1).2.2.2.2,p.h.bS i (λb a r d=>(hT b a d.1).1 r) (λb a=>?_) (λa=>?_),p.hi,p.cf,p.pg,λb a=>⟨(p.pP b a).1,by have:=(p.pP b a).2;omega⟩,p.rX,p.sf,p.tT,p.n1,p.n2,p.n3,e.bT p.b λd=>(hT gb a d).2.1 rfl,e.fO p.m λd=>(hT km j d).2.2.1 rfl,e.fO p.f λd=>(hT fm g d).2.2.2.1 rfl,p.g0⟩
 ·exact p.g0.1 b (hT b a.2 a.1).2.2.2.2
 ·exact p.g0.2 (hT _ a.2 a.1).2.2.2.2
theorem GP.step (p:GP σ0 U L H held s0 P gb km fm x){ts':List eH}(e:Ext P U w)(h':HH w (Grow P U) {L with ts:=ts'} H'){held':List Pc}{s0':Sp}(hi':HI H' held' s0')(k:Qv H' H) :
 GP σ0 w {L with ts:=ts'} H' held' s0' (Cut (Grow P U) w) gb km fm x:=by
 have u:=e.1;have a:=p.b.lt;have s:=p.m.lt;have j:=p.f.lt;have g:∀b,b<U.size->¬P b->¬Cut (Grow P U) w b:=λb d i r=>by
  rcases r.1 with h3|h3
  ·exact i h3
  ·omega
 refine⟨Ext.dS p.e e λb a=>.inr (p.pP b a).1,h'.cut,hi',p.cf.bS k,by rw[k.2.1];exact p.pg,λb a=>⟨?_,a.2⟩,⟨p.rX.1,g gb a p.rX.2⟩,⟨p.sf.1,g km s p.sf.2⟩,⟨p.tT.1,g fm j p.tT.2⟩,p.n1,p.n2,p.n3,e.bT p.b p.rX.2,e.fO p.m p.sf.2,e.fO p.f p.tT.2,p.g0⟩;have:=p.e.1;rcases a.1 with d|d
 ·exact(p.pP b d).1
 ·omega
theorem GP.fA (p:GP σ0 U L H held s0 P gb km fm x)(e:Ext (λb=>b=gb\/b=km\/b=fm) U w)(hb:bY w gb (r6 L.p km fm y))(hm:dH w km .i64 (.ag 5) y.kn)(hf:dH w fm .i64 .b y.fr):GP σ0 w L H held s0 P gb km fm y:=by
 have i:=e.1;have a:∀b,(b=gb\/b=km\/b=fm)->σ0.size<=b/\¬P b:=λb hb=>by
  rcases hb with rfl|rfl|rfl
  ·exact p.rX
  ·exact p.sf
  ·exact p.tT
 exact⟨Ext.dS p.e e λb hb=>.inr (a b hb).1,p.h.bS e (λb _ g d=>(a b d).2 g) (λb hb=>p.g0.1 b (a b hb).1) (λhb=>p.g0.2 (a _ hb).1),p.hi,p.cf,p.pg,λb hb=>⟨(p.pP b hb).1,by have:=(p.pP b hb).2;omega⟩,p.rX,p.sf,p.tT,p.n1,p.n2,p.n3,hb,hm,hf,p.g0⟩
theorem Vn (p:GP σ0 U L H held s0 P gb km fm x){R:aO}(hR:R true U):WE.c (aW gb) U R:=by
 refine WE.o ?_;unfold WE.v;exact bW.intro (cD rfl (aG (p.b.rP rfl hR)))
theorem Hc (b:B5)(h0:0<=b.2.1)(h1:b.2.1<=1000000){R:aN}(hR:∀σ',bK U σ'->R (ZE b.2.1) σ'):Xi.c b.1 b.2.1 b.2.2.1 b.2.2.2.1 b.2.2.2.2 U R:=by
 refine Xi.o ?_;unfold Xi.v;refine nw (cs:=eW b) λv d e a=>a.eY rfl (ar O O (ar O O (nz aB (ar (by rw[Yr O];omega) (by rw[Yr O];omega) ?_))));rw[Yr O];refine ar O O ?_;have:(b.2.1+8-1)/8*8=ZE b.2.1:=by unfold ZE;omega
 rw[this];exact hR v e
theorem Fc (z:Int)(h0:0<=z)(h1:z<=1000000){R:aN}(hR:R (jz z) U):ZC.c z U R:=by
 refine ZC.o ?_;unfold ZC.v;refine ar O O (ar O O ?_);have:0-z-1=jz z:=by unfold jz;omega
 rw[this];exact hR
theorem CD (b:B5){R:Fv->Hp->Prop}(hR:∀σ',σ'.size=U.size+1->bK U σ'->bY σ' U.size (eW b)->R ⟨82,#[],#[.pointer (some ⟨U.size,0,none⟩)]⟩ σ'):XC.c b.1 b.2.1 b.2.2.1 b.2.2.2.1 b.2.2.2.2 U R:=by
 refine XC.o ?_;unfold XC.v;exact nw (cs:=eW b) λv d e a=>hR v d e a
theorem GT {P:Program}{l:Nat}{args:List Value}{h:Hp}{R R':Bool->Hp->Prop}(hy:U7 P l args h R)(hm:∀b w,R b w->R' b w):U7 P l args h R':=λw g=>by
 obtain⟨d,a,u,j,p,i⟩:=hy w g;exact⟨d,a,u,j,p,i.mono λe x ⟨s,b,m,r⟩=>⟨s,b,m,hm _ _ r⟩⟩
theorem DO {b:B5}(bi:hO b):wA Tryz.prog ⟨82,#[],#[.pointer (some ⟨n,0,none⟩)]⟩ ((Za b).map (e1 bN)) (λs=>bY s n (eW b)):=by
 intro l J hst hKp hy h h0;obtain⟨s,⟨K,L⟩,⟨M,H,P⟩,⟨t,N⟩,R⟩:=bi;have Q:=Qh (n:=b.2.1) O;have F:(VA b:Int)*8=b.1-b.2.2.1:=by unfold VA;omega
 have C:(pK b:Int)*8=b.2.2.1+b.2.2.2.1-b.1-ZE b.2.1:=by unfold pK;omega
 show cH.rF l ⟨n,0,none⟩ h λG=>J ((Za b).map (e1 bN)).length G;rw[zl,FT];refine cH.tJ ?_;unfold cH.wP;refine(hKp 0 h h0).eY rfl (Z0 (a:=bN) (λ(z:Int) s=>∃i:Nat,z=b.2.2.1+8*(i:Int)/\i<=VA b/\J i s) (λz _=>(b.1-z).toNat) ⟨0,O,O,h0⟩ ?_);rintro(z:Int) s ⟨i,rfl,hi,hJ⟩;have B:=hKp i s hJ;refine B.eY rfl (cQ (λw=>?_) λA=>?_)
 ·have d:i<VA b:=by omega
  have x:((Za b).map (e1 bN))[i]?=some [Value.int .i64 (b.2.2.1+8*(i:Int))]:=by rw[za,Si d];rfl
  refine GT (hy i _ x s hJ) λD E ⟨g,j⟩=>?_;subst g;exact cB rfl (ar O O ⟨⟨i+1,O,O,j⟩,O⟩)
 ·have d:i=VA b:=by omega
  subst d;have p:∀m,bK s m->bY m n (eW b):=λm e=>e.bT B id;refine⟨λm=>bK s m,Ext.refl _ _,pd (c:=bN) (y:=b.1) p rfl (iL (c:=bN) (y:=b.1) p rfl (iL (c:=bN) (y:=b.2.1) p rfl (iL (c:=bN) (y:=b.2.2.1) p rfl (iL (c:=bN) (y:=b.2.2.2.1) p rfl (iL (c:=bN) (y:=b.2.2.2.2) p rfl ?_)))))⟩;refine Hc b O O λs1 u=>⟨u,ar O O ?_⟩;refine Z0 (a:=bN) (λ(z:Int) s=>∃i:Nat,z=b.1+ZE b.2.1+8*(i:Int)/\i<=pK b/\J (VA b+i) s) (λz _=>(b.2.2.1+b.2.2.2.1-z).toNat) ⟨0,O,O,hst _ _ _ hJ u⟩ ?_;rintro(z:Int) s2 ⟨i,rfl,hi,hJ2⟩;have r:=hKp _ s2 hJ2;refine ar O O (r.eY rfl (r.eY rfl (ar O O (cQ (λw=>?_) λA=>?_))))
  ·have d:i<pK b:=by omega
   have x:((Za b).map (e1 bN))[VA b+i]?=some [Value.int .i64 (b.1+ZE b.2.1+8*(i:Int))]:=by rw[za,LM d];rfl
   refine GT (hy _ _ x s2 hJ2) λD E ⟨g,j⟩=>?_;subst g;exact cB rfl (ar O O ⟨⟨i+1,O,O,j⟩,O⟩)
  ·have d:i=pK b:=by omega
   subst d;exact hJ2
def UA (H:Hw)(b:B5):Bool:=!(Ki H b.2.2.1==some b.2.2.2.1)
theorem UZ (p:GP σ0 U L H held s0 P gb km fm x)(b:B5){R:aO}(hR:∀σ',bK U σ'->R (UA H b) σ'):W5.c (aW gb) b.1 b.2.1 b.2.2.1 b.2.2.2.1 b.2.2.2.2 U R:=by
 refine W5.o ?_;unfold W5.v;refine nw (cs:=eW b) λv s e j=>?_;have g:=p.fr e;refine⟨λm=>bK v m,Ext.refl _ _,aG (iL (c:=.p) (y:=some ⟨L.p,0,none⟩) (λm e=>e.bT g.b id) rfl (pd (c:=bN) (y:=b.2.2.1) (λm e=>e.bT j id) rfl (GJ g.h b.2.2.1 λr e1=>?_)))⟩;have d:=e1.bT j id;have a:=hR r (e.trans e1);refine bW.intro ?_;cases hu:Ki H b.2.2.1 with
 | none=>
  unfold UA at a;rw[hu]at a;exact cD rfl a
 | some u=>
  unfold UA at a;rw[hu]at a;refine cB rfl (d.eY rfl ?_);have:(!(some u==some b.2.2.2.1))=((some u).getD 0 != b.2.2.2.1):=by simp[bne]
  rw[this]at a;exact a
def QY (H:Hw)(thread:Int):Int:=if thread<0\/thread≥(H.cf.threads:Int)then 1 else if(V4 H thread).isSome then 5 else 0
theorem ON (p:GP σ0 U L H held s0 P gb km fm x)(thread:Int){R:aN}(hR:∀σ',bK U σ'->R (QY H thread) σ'):Ym.c (aW gb) thread U R:=by
 refine Ym.o ?_;unfold Ym.v;refine KJ (λr u=>bK U u/\r=decide (thread<0\/thread≥(H.cf.threads:Int))) (λr u ⟨d,j⟩=>?_) λJ g=>?_
 ·by_cases hc:thread<0\/thread≥(H.cf.threads:Int)
  ·have a:=hR u d;unfold QY at a;rw[zC hc]at a;exact cD (by rw[j];exact zJ hc) a
  ·have i:=p.fr d;refine cB (by rw[j];exact zM hc) (aG (i.b.rP rfl (JF i.h thread λs y e2 w=>?_)));have a:=hR y (d.trans e2);unfold QY at a;rw[zB hc]at a;rw[w];cases hp:V4 H thread with
   | none=>rw[hp]at a;exact cB rfl a
   | some q=>rw[hp]at a;exact cD rfl a
 ·refine cQ (λh=>g _ _ ⟨Ext.refl _ _,by rw[zJ];exact .inl h⟩) λh=>aG (p.b.rP rfl (D7 p.h λu e=>g _ _ ⟨e,?_⟩));rw[l5,decide_eq_true_iff,decide_eq_true_iff];exact⟨.inr,λm=>m.resolve_left h⟩
theorem MR (h:HH U F L H)(hp:1<=H.cf.aF){R:aO}(hR:∀σ',bK U σ'->R true σ'):Qo.c (aW L.p) U R:=by
 refine Qo.o ?_;unfold Qo.v;refine bW.intro (cD rfl (D7 h λw e=>?_));have:decide ((H.cf.aF:Int)>0)=true:=zJ O;rw[this];exact hR w e
theorem EG (e0:bK σ0 U)(h:HH U P L H)(hi:HI H held s0)(hc:kA H)(hpg:H.cf.aF<=128)(hP:∀b,P b->σ0.size<=b/\b<U.size)(hg:iN (λb=>σ0.size<=b)/\¬σ0.size<=1){R:Option Addr->Int->Hp->Prop}
 (hR:∀w gb km fm,bK U w->U.size<=gb/\U.size<=km/\U.size<=fm->GP σ0 w L H held s0 P gb km fm nV->R (some ⟨gb,0,none⟩) 0 w):Qw.c (aW L.p) U R:=by
 refine Qw.o ?_;unfold Qw.v;refine MR h hc.1 λv e=>cB rfl (tv λi A e1 x=>tv λu s e2 z=>nw (cs:=r6 L.p v.size i.size nV) λv3 y g r=>?_);have D:=e.1;have C:=e0.1;have a:=((e.trans e1).trans e2).trans g;have d:∀b,U.size<=b->¬P b:=λb B m=>by have:=(hP b m).2;omega
 exact hR v3 u.size v.size i.size a ⟨O,O,O⟩ ⟨e0.trans a,h.bO a,hi,hc,hpg,λb j=>⟨(hP b j).1,by have:=(hP b j).2;have:=a.1;omega⟩,⟨O,d _ O⟩,⟨O,d _ O⟩,⟨O,d _ O⟩,O,O,O,r,(e2.trans g).fO (x _ _) id,g.fO (z _ _) id,hg⟩
end Go.Ar
namespace Go.Ar
open Go Go.Vc Go.Proofs
open Go.Vc (bV dB cR)
variable {U σ0 v w w':Hp}{F P Q X T:Rg}{L:dK}{H H':Hw}{held:List Pc}{s0 sp:Sp}{t n:Nat}{g:Th}{gb km fm m:Nat}{x y:Gu}{b:B5}
def j7 (sp:Sp)(l:List Int)(f:Int->Int):Sp:=l.foldl (λs z=>ZX s z (f z)) sp
theorem ME (sp:Sp)(z:Int)(l:List Int)(f:Int->Int):j7 sp (z::l) f=j7 (ZX sp z (f z)) l f:=rfl
theorem EU (sp:Sp)(l:List Int)(z:Int)(f:Int->Int):j7 sp (l++[z]) f=ZX (j7 sp l f) z (f z):=by unfold j7;rw[wX];rfl
theorem Uo {sp:Sp}{x:Nat}:eR sp ((8*x:Nat):Int)=0↔gf sp.st (x/32)≠0:=by
 unfold eR;rw[zB O,show((8*x:Nat):Int).toNat/256=x/32 by omega];unfold gf;split
 ·rename_i h;rw[h];simp
 ·rename_i h;exact⟨λ_=>h,λ_=>rfl⟩
theorem Gy (sp:Sp)(x:Nat):Q3 sp ((8*x:Nat):Int)=if gf sp.st (x/32)≠0 then sp.wd x else 0:=by
 unfold Q3;by_cases h:gf sp.st (x/32)≠0
 ·rw[zC (Uo.2 h),zC h];congr 1;omega
 ·rw[zB (λa=>h (Uo.1 a)),zB h]
theorem xU (f:Int->Int):∀(l:List Int) (sp:Sp),(∀z∈l,0<=z/\z%8=0)->(j7 sp l f).st.length=sp.st.length/\(∀p,gf (j7 sp l f).st p=0↔gf sp.st p=0) ∧
 ∀w:Nat,(j7 sp l f).wd w=if((8*w:Nat):Int)∈l/\gf sp.st (w/32)≠0 then f ((8*w:Nat):Int)else sp.wd w
 | [],sp,_=>⟨rfl,λ_=>Iff.rfl,λw=>by rw[zB aA];rfl⟩
 | z::l,sp,hl=>by
  obtain⟨i1,i2,i3⟩:=xU f l (ZX sp z (f z)) λz a=>hl z (nA _ a);obtain⟨i,b,j⟩:=DM sp z (f z);have m:=hl z oT;obtain⟨zn,rfl⟩:∃c:Nat,z=((8*c:Nat):Int):=⟨z.toNat/8,O⟩;rw[ME];refine⟨i1.trans i,λp=>(i2 p).trans (b p),λw=>?_⟩;rw[i3,j];have a:=b (w/32);by_cases hm:gf sp.st (w/32)≠0
  ·by_cases hw:((8*w:Nat):Int)∈l
   ·rw[zC ⟨hw,λh=>hm (a.1 h)⟩,zC ⟨nA _ hw,hm⟩]
   ·rw[zB λh=>hw h.1];by_cases he:w=zn
    ·subst he;rw[zC ⟨Uo.2 hm,O⟩,zC ⟨oT,hm⟩]
    ·rw[zB λh=>he (by have:=h.2;omega),zB λh=>(zW.1 h.1).elim (λh=>he O) hw]
  ·have key:¬(eR sp ((8*zn:Nat):Int)=0/\w=((8*zn:Nat):Int).toNat/8):=λh=>by
    have e:=Uo.1 h.1;have d:w=zn:=by omega
    subst d;exact hm e
   rw[zB λh=>hm λg=>h.2 (a.2 g),zB key,zB λh=>hm h.2]
theorem HI.j7 (f:Int->Int):∀(l:List Int) {H:Hw} {s0:Sp},HI H held s0->∃s0',HI {H with sp:=Go.Ar.j7 H.sp l f} held s0'
 | [],H,s0,h=>⟨s0,h⟩
 | z::l,H,s0,h=>HI.j7 f l (h.write z (f z))
theorem KU {f:Int->Int}{l:List Int}{sp:Sp}(hl:∀z∈l,0<=z/\z%8=0)(w:Nat):Q3 (j7 sp l f) ((8*w:Nat):Int)=if((8*w:Nat):Int)∈l/\gf sp.st (w/32)≠0 then f ((8*w:Nat):Int)else Q3 sp ((8*w:Nat):Int):=by
 obtain⟨_,a,b⟩:=xU f l sp hl;rw[Gy,Gy];by_cases hm:gf sp.st (w/32)≠0
 ·rw[zC λh=>hm ((a _).1 h),b];by_cases hw:((8*w:Nat):Int)∈l
  ·rw[zC ⟨hw,hm⟩,zC ⟨hw,hm⟩]
  ·rw[zB λh=>hw h.1,zB λh=>hw h.1,zC hm]
 ·rw[zB λh=>hm λd=>h ((a _).2 d),zB λh=>hm h.2,zB hm]
def GZ (b:B5):Nat:=(ZE b.2.1/8).toNat
def QA (b:B5):List Int:=(List.range (GZ b)).map λ(i:Nat)=>b.1+8*(i:Int)
theorem AA (bi:hO b){z:Int}(hz:z∈QA b):b.1<=z/\z%8=0/\z+8<=b.1+ZE b.2.1:=by
 obtain⟨s,⟨g,d⟩,⟨p,j,u⟩,⟨t,r⟩,m⟩:=bi;have e:=Qh (n:=b.2.1) O;obtain⟨i,a,rfl⟩:=zE.1 hz;have:=zg.1 a;unfold GZ at this;omega
theorem GP.write (p:GP σ0 U L H held s0 P gb km fm x)(gc:Gc σ0)(z u:Int)(hz:z<=9223372036854775807){R:aN}
 (hR:∀w s0' P',Ext P U w->GP σ0 w L {H with sp:=ZX H.sp z u} held s0' P' gb km fm x->(∀c,P' c->P c\/U.size<=c)->R (eR H.sp z) w):W9.c (aW L.p) z u U R:=by
 refine PM p.h (gc.bO p.e) z u hz λw e b=>?_;exact hR w _ _ e (p.step (ts':=L.ts) e b (p.hi.write z u) ⟨rfl,rfl,rfl,rfl⟩) λc a=>a.1
theorem EE {D:Nat}{s:Hp}{K:aP}(h:s[D]?=some (.deferred (some [])))(hK:∀w,Ext (· = D) s w->K w):uk D s K:=
 ⟨h,hK _ ⟨by simp,λb d a=>by rw[Array.getElem?_setIfInBounds,zB λh=>a h.symm]⟩⟩
set_option maxRecDepth 8000 in
theorem Da (p:GP σ0 U L H held s0 P gb km fm x)(gc:Gc σ0)(bi:hO b)(val:Int){R:aP}
 (hR:∀w s0' P',Ext P U w->GP σ0 w L {H with sp:=j7 H.sp (QA b) λ_=>val} held s0' P' gb km fm x->(∀c,P' c->P c\/U.size<=c)->R w):XR.c (aW gb) b.1 b.2.1 b.2.2.1 b.2.2.2.1 b.2.2.2.2 val U R:=by
 obtain⟨⟨s1,s2⟩,⟨Q,V⟩,⟨W,K,Y⟩,⟨t,X⟩,hm⟩:=bi;have Z:=Qh (n:=b.2.1) O;have M:(GZ b:Int)*8=ZE b.2.1:=by unfold GZ;omega
 refine XR.o ?_;unfold XR.v;refine nw (cs:=eW b) λv S e B=>?_;refine Z0 (a:=bN) (λ(z:Int) u=>∃(i:Nat) (s0':Sp) (P':Rg),z=8*(i:Int)/\i<=GZ b/\Ext P v u/\bY u U.size (eW b)/\GP σ0 u L {H with sp:=j7 H.sp ((List.range i).map λ(j:Nat)=>b.1+8*(j:Int)) λ_=>val} held s0' P' gb km fm x/\∀c,P' c->P c\/v.size<=c) (λz _=>(ZE b.2.1-z).toNat)
  ⟨0,s0,P,O,O,Ext.refl _ _,B,p.fr e,λc m=>.inl m⟩ ?_
 rintro(z:Int) u ⟨i,s0',P',rfl,hi,eu,hbu,pu,hP⟩;refine hbu.rI rfl (hbu.rI rfl (hbu.rI rfl (hbu.rI rfl (hbu.rI rfl (Hc b O O λG e1=>?_)))));have g:=e1.bT hbu id;have r:=pu.fr e1;refine cQ (λC=>?_) λF=>?_
 ·refine aG (r.b.rP rfl (g.eY rfl (ar O O (r.write gc _ val O λN d P'' e2 D y=>?_))));have J:=e1.1;have A:=eu.1;refine ar O O ⟨⟨i+1,d,P'',O,O,Ext.dS (eu.ji e1) e2 hP,e2.bT g λE=>?_,?_,λc m=>?_⟩,O⟩
  ·rcases hP _ E with h|h
   ·have:=(p.pP _ h).2;omega
   ·omega
  ·rw[qm,zz,List.map_singleton,EU];exact D
  ·rcases y c m with h|h
   ·exact hP c h
   ·exact .inr O
 ·have s:i=GZ b:=by omega
  subst s;refine hR G _ _ ((bK.to e).trans (eu.ji e1)) r λc m=>?_;have:=e.1;exact(hP c m).imp id λh=>by omega
def j0 (sp:Sp)(z:Int):Bool:=eR sp z != 0||Q3 sp z != jz z
def Kh (sp:Sp)(b:B5):List Int:=(Za b).filter (j0 sp)
set_option maxRecDepth 16000 in
theorem HQ (p:GP σ0 U L H held s0 P gb km fm x)(bi:hO b){R:Sl->Hp->Prop}
 (hR:∀s w Q,bK U w->bR s 1 (Wo (Kh H.sp b)) w Q->(∀c,Q c->U.size<=c/\c<w.size)->R s w):W6.c (aW gb) b.1 b.2.1 b.2.2.1 b.2.2.2.1 b.2.2.2.2 U R:=by
 refine W6.o ?_;unfold W6.v;refine nw (cs:=[.pointer (some ⟨gb,0,none⟩)]) λv1 hz1 e1 b1=>nw (cs:=eW b) λM hz2 e2 b2=>nw (cs:=[.slice none 0 0]) λv3 hz3 e3 b3=>?_;have j:=e3.bT b2 id;have Y:=(e2.trans e3).bT b1 id;refine j.rI rfl (j.rI rfl (j.rI rfl (j.rI rfl (j.rI rfl (CD b λv4 hz4 Z b4=>?_)))));have S:=((e1.trans e2).trans e3).trans Z;have hzs:(Za b).length<=100000:=by
  obtain⟨⟨s1,s2⟩,⟨b1,b2⟩,⟨z1,z2,z3⟩,⟨t,t2⟩,hm⟩:=bi;have hw:=Qh (n:=b.2.1) O;rw[FT];unfold VA pK;omega
 refine⟨rfl,by kernel_rfl,Za b,_,λk s=>bK U s/\bY s U.size [.pointer (some ⟨gb,0,none⟩)]/\bY s v3.size (eW b)/\∃(sl:Sl) (Q:Rg),bY s M.size [.slice sl.a sl.len sl.cap]/\bR sl 1 (Wo (((Za b).take k).filter (j0 H.sp))) s Q/\∀c,Q c->v4.size+2<=c/\c<s.size,DO bi,?_,λk s h=>h.2.2.1,?_,?_,?_⟩
 ·rintro k s s' ⟨B,E,G,sl,Q,C,D,A⟩ e;have hz:=e.1;refine⟨Ext.dS B e λc d=>.inr O,e.bT E O,e.bT G O,sl,Q,e.bT C O,aI.bS D e λc _ hq d=>?_,λc d=>?_⟩
  ·have:=A c hq;omega
  ·have:=A c d;omega
 ·exact⟨S,(Z).bT Y id,b4,⟨none,0,0⟩,λ_=>False,Z.bT b3 id,⟨rfl,.inl ⟨rfl,rfl⟩⟩,λc d=>d.elim⟩
 ·rintro k z hk s ⟨B,E,G,sl,Q,C,D,A⟩ hsz;have zi:=U3 bi (zG hk);have N:=bi.base;have hm:=bi.m;have hkl:=(cW.1 hk).1;have ps:=p.fr B;have K:(Za b).take (k+1)=(Za b).take k++[z]:=by rw[k8,hk];rfl
  refine E.r4 rfl (aG (ps.b.rP rfl (EB ps.h z O λv5 g=>?_)));have hz5:=g.1;refine KJ (λr u=>u=v5/\r=j0 H.sp z) (λr u ⟨hu,hr⟩=>?_) λJ hJ=>?_
  ·subst hu;have F:=aI.bO D g;have i:∀c,Q c->c≠v4.size/\c≠v4.size+1/\c≠U.size/\c≠v3.size/\c≠M.size:=λc d=>by have:=A c d;omega
   refine cO (λN=>?_) λN=>?_
   ·refine(g.bT C id).uj rfl (Fs F ?_ z λs' v8 V h8=>?_)
    ·have B:=qX (j0 H.sp) ((Za b).take k);rw[zZ]at B;omega
    have hz8:=V.1;have W:=V.bT (g.bT C id) λd=>(i _ d).2.2.2.2 rfl;refine W.s0 aA λv9 o9 h9=>?_;have e9:=o9.ext;have hz9:=o9.1;have y:Ext (λc=>Q c\/c=M.size) u v9:=(V.sub λc d=>.inl d).trans (e9.sub λc d=>.inr d);refine⟨⟨Ext.dS (B.trans g) y λc d=>?_,y.bT (g.bT E id) ?_,y.bT (g.bT G id) ?_,s',λc=>Q c\/u.size<=c/\c<v8.size,h9,?_,λc d=>?_⟩,?_,?_⟩
    ·rcases d with d|d
     ·have:=A c d;exact .inr O
     ·exact .inr O
    ·rintro(d|d)
     ·exact(i _ d).2.2.1 rfl
     ·omega
    ·rintro(d|d)
     ·exact(i _ d).2.2.2.1 rfl
     ·omega
    ·have:((Za b).take (k+1)).filter (j0 H.sp)=((Za b).take k).filter (j0 H.sp)++[z]:=by
      rw[K,uV,uO (by rw[←hr];exact N)];rfl
     rw[this];refine aI.bS h8 e9 λc _ d (hx:c=M.size)=>?_;rcases d with d|d
     ·exact(i _ d).2.2.2.2 hx
     ·omega
    ·rcases d with d|d
     ·have:=A c d;omega
     ·omega
    ·rw[y.2 _ O (by rintro(d|d);exact(i _ d).1 rfl;omega)];exact g.2 _ O id
    ·rw[y.2 _ O (by rintro(d|d);exact(i _ d).2.1 rfl;omega)];exact g.2 _ O id
   ·refine⟨⟨B.trans g,g.bT E id,g.bT G id,sl,Q,g.bT C id,?_,λc d=>?_⟩,g.2 _ O id,g.2 _ O id⟩
    ·have:((Za b).take (k+1)).filter (j0 H.sp)=((Za b).take k).filter (j0 H.sp):=by
      rw[K,uV,ua (by rw[←hr,N];decide),List.filter_nil,kI]
     rw[this];exact F
    ·have:=A c d;omega
  ·refine cO (λh=>hJ _ _ ⟨rfl,by unfold j0;rw[h];rfl⟩) λh=>Fc z O O (hJ _ _ ⟨rfl,by unfold j0;rw[h];rfl⟩)
 ·rintro s ⟨B,E,G,sl,Q,C,D,A⟩ hD;rw[mg]at D;refine C.uj rfl (EE hD λw X=>?_);have hz:=X.1;refine hR sl w Q (Ext.dS B X λc d=>.inr O) (aI.bS D X λc _ hq d=>?_) λc d=>?_
  ·have:=A c hq;omega
  ·have:=A c d;omega
end Go.Ar
namespace Go.Ar
open Go Go.Vc Go.Proofs
open Go.Vc (bV dB cR)
variable {U w w':Hp}{F P Q X:Rg}{L:dK}{H H':Hw}{held:List Pc}{s0:Sp}{t n:Nat}{g:Th}{σ0:Hp}{addrs:Sl}{ad:List Int}{l:Sl}{ds:List fP}
theorem gY.push (p:gY σ0 U L H held s0 P Q addrs ad){s':Sl}{x:Int}(e:Ext Q U w)(hr:bR s' 1 (Wo (ad++[x])) w (λb=>Q b\/U.size<=b/\b<w.size))(hl:(ad++[x]).length<=60):gY σ0 w L H held s0 P (λb=>Q b\/U.size<=b/\b<w.size) s' (ad++[x]):=by
 have j:=e.1;have g:=p.e.1;refine⟨Ext.dS p.e e λb a=>.inr (p.pQ b a).1,p.h.bS e (λb a d i=>(p.pQ b i).2.2 d) (λb a=>p.g0.1 b (p.pQ b a).1) (λa=>p.g0.2 (p.pQ _ a).1),p.hi,p.cf,p.pg,λb a=>⟨(p.pP b a).1,by have:=(p.pP b a).2;omega⟩,λb a=>?_,hr,hl,p.g0⟩;rcases a with a|a
 ·exact⟨(p.pQ b a).1,by have:=(p.pQ b a).2.1;omega,(p.pQ b a).2.2⟩
 ·exact⟨O,a.2,λd=>by have:=(p.pP b d).2;omega⟩
theorem Fk {tb:List bZ}{size align:Int}{k:Nat}(h:gT tb size align=some k):∃c,tb[k]?=some c/\size<=(c.size:Int)/\(c.size:Int)%align=0:=by
 unfold gT at h;obtain⟨b,a,_⟩:=ng.1 h;simp only[zF,zU,zT]at a;exact⟨tb[k],cT b,a.1,a.2⟩
theorem Ma {tb:List bZ}{size align:Int}(h:size<=16384/\UB size align=true):size<=(GI tb size align).1/\(GI tb size align).2=0:=by
 unfold GI;rw[zC h];refine⟨?_,rfl⟩;cases hc:gT tb size align with
 | some k=>
  obtain⟨c,b,a,_⟩:=Fk hc;simp only;rw[zP,b];exact a
 | none=>simp only;unfold xR;omega
theorem Ce {live:List (Int×Bk)}{x:Int}(b:Bk):bV (dB live x b) x=some b:=by rw[V7,zC rfl]
end Go.Ar
namespace Go.Ar
open Go Go.Vc Go.Proofs
open Go.Vc (bV dB cR)
open Go.Bu (eV KZ UP)
variable {size align:Int}{U σ0 v w w':Hp}{F P Q X T:Rg}{L:dK}{H H' H1:Hw}{held:List Pc}{s0 sp:Sp}{t n:Nat}{g:Th}{gb km fm m:Nat}{x y:Gu}{b:B5}
theorem _root_.Go.Vc.bY.s2 {U:Hp}{b o i j:Nat}{cs:List Value}(hb:bY U b cs){v:Value}(ho:o+i+j<cs.length){K:aP}(hK:∀h',Qq U h' b->bY h' b (cs.set (o+i+j) v)->K h'):dX (Addr.add (Addr.add ⟨b,o,none⟩ i) j) v U K:=by
 rw[add_lit];exact hb.s1 ho hK
def Mg (P:Rg)(gb km fm:Nat):Rg:=λb=>P b\/b=gb\/b=km\/b=fm
def m7 (size align:Int):Bool:=decide (1<=size/\size<=1024/\1<=align/\align<=256)&&eV align
def zA (align:Int):Int:=if 16>align then 16 else align
theorem vv {align:Int}(h:align<=256):16<=zA align/\zA align<=256:=by unfold zA;split<;>omega
structure yn (H:Hw) (x:Gu) (size align:Int) (b:B5) (H1:Hw):Prop where
 me:qj H (zA align+ZE size+16) (zA align) H1 b.2.2.1 0
 a:b.1=b.2.2.1+zA align
 s:b.2.1=size
 u:Ki H1 b.2.2.1=some b.2.2.2.1
 n:b.2.2.2.2=x.no+1
 ok:m7 size align=true
 bi:hO b
def lZ (sp:Sp)(b:B5):Sp:=j7 (j7 sp (Za b) jz) (QA b) λ_=>0
def Gu.fQ (x:Gu)(b:B5):Gu:=⟨dB x.kn b.1 b,x.fr,x.no+1⟩
theorem A5 {a:Int}(h1:1<=a)(h2:a<=256)(hp:eV a=true):a%8=0\/a<8:=by
 by_cases h:a<8
 ·exact .inr h
 ·left;obtain⟨a,rfl⟩:=zc (show 0<=a by omega);rw[KZ]at hp;have key:∀a:Nat,a<=256->8<=a->(a &&& (a-1)=0)->a%8=0:=by decide +kernel
  have:=key a O O (by have:=UP (a:=a) O O;rw[hp]at this;simpa using this);omega
theorem JQ (hi:HI H1 held s0)(hok:m7 size align=true){base:Int}(me:qj H (zA align+ZE size+16) (zA align) H1 base 0):∃u,Ki H1 base=some u/\hO (base+zA align,size,base,u,x.no+1):=by
 unfold m7 at hok;rw[zF,zU]at hok;obtain⟨⟨r,m,j,g⟩,kp⟩:=hok;have y:=vv g;have s:=Qh (n:=size) O;rcases me with⟨h,_⟩|⟨_,hm,hok,cl,hl,hcl⟩
 ·exact absurd rfl h
 have e:Ki H1 base=some (GI H.tb (zA align+ZE size+16) (zA align)).1:=by unfold Ki;rw[hl,Ce];rfl
 have p:=(Ma (tb:=H.tb) ⟨hok.2.1,hok.2.2⟩).1;obtain⟨w,b,d⟩:=pt.1 e;have a:=hi.kJ (KO b);simp only at a;rw[d]at a;have i:zA align%8=0:=by
  unfold zA;split
  ·decide
  ·rcases A5 j g kp with h|h
   ·exact h
   ·omega
 exact⟨_,e,⟨⟨r,m⟩,⟨a.2.1,a.2.2.1⟩,⟨by simp only;omega,by simp only;omega,by simp only;omega⟩,⟨by simp only;omega,a.2.2.2.1⟩,by simp only;omega⟩⟩
set_option maxRecDepth 16000 in
theorem DS (p:GP σ0 U L H held s0 P gb km fm x)(gc:Gc σ0)(x0:0<=x.no/\x.no<=100000)(thread size align:Int){R:Int->Int->Hp->Prop}
 (h0:∀w,m7 size align=false->bK U w->R 0 1 w)
 (h1:∀e w ts H' held' s0' P',m7 size align=true->e≠0->Ug H thread 0 (zA align+ZE size+16) (zA align) 0 H' 0 e->fY H H'->H'.live=H.live->Ext P U w->GP σ0 w {L with ts:=ts} H' held' s0' P' gb km fm x->(∀c,P' c->P c\/U.size<=c)->R 0 e w)
 (h2:∀b w ts H1 held' s0' P',yn H x size align b H1->Ug H thread 0 (zA align+ZE size+16) (zA align) 0 H1 b.2.2.1 0->fY H H1->Ext (Mg P gb km fm) U w->GP σ0 w {L with ts:=ts} {H1 with sp:=lZ H1.sp b} held' s0' P' gb km fm (x.fQ b)->(∀c,P' c->P c\/U.size<=c)->R b.1 0 w) :
 Xp.c (aW gb) thread size align U R:=by
 refine Xp.o ?_;unfold Xp.v;rw[show(if(16:Int)>align then(16:Int)else align)=zA align from rfl]
 refine nw (cs:=[.pointer (some ⟨gb,0,none⟩)]) λv hz e hn4=>hn4.r4 rfl (Vn (p.fr e) (cB rfl ?_));refine KJ (λr u=>u=v/\r = !decide (1<=size/\size<=1024)) (λr u ⟨hu,hr⟩=>?_) λJ hJ=>cQ (λh=>hJ _ _ ⟨rfl,by rw[zM O];rfl⟩) λh=>hJ _ _ ⟨rfl,?_⟩
 ·rw[hu];refine KJ (λr u=>u=v/\r = !decide (1<=size/\size<=1024/\1<=align)) (λr1 u1 ⟨hu1,hr1⟩=>?_) λJ1 hJ1=>?_
  ·rw[hu1];refine KJ (λr u=>u=v/\r = !decide (1<=size/\size<=1024/\1<=align/\align<=256)) (λr2 u2 ⟨hu2,hr2⟩=>?_) λJ2 hJ2=>?_
   ·rw[hu2];refine KJ (λr u=>u=v/\r = !m7 size align) (λr3 u3 ⟨hu3,hr3⟩=>?_) λJ3 hJ3=>?_
    ·rw[hu3];clear hr hr1 hr2 hu hu1 hu2 hu3;by_cases hgk:m7 size align=true
     ·refine cB (by rw[hr3,hgk];rfl) ?_;have hk:=hgk;unfold m7 at hk;rw[zF,zU]at hk;obtain⟨⟨k1,k2,k3,k4⟩,kp⟩:=hk;have hzz:=vv k4;have hww:=Qh (n:=size) O;refine nw (cs:=[.int .i64 0,.int .i64 0,.int .i64 0,.int .i64 0,.int .i64 0]) λv6 hz6 e6 b6=>?_;refine b6.s1 aA λv7 o7 b7=>b7.s1 aA λv8 o8 b8=>b8.s1 aA λv9 o9 b9=>b9.s1 aA λv10 gH b10=>b10.s1 aA λv11 o11 b11=>?_;have bb:bY v11 v.size (eW (0,size,0,0,0)):=b11;have eo:Ext (· = v.size) v6 v11:=(((o7.ext.trans o8.ext).trans o9.ext).trans gH.ext).trans o11.ext;have e11:bK v v11:=Ext.fresh e6 eo λi (hi:i=v.size)=>by omega
      have p11:=(p.fr e).fr e11;have W:=e11.bT hn4 id;have zv:U.size<v.size:=by omega
      have zb:=bb.lt;refine⟨λm=>bY m U.size [.pointer (some ⟨gb,0,none⟩)]/\bY m gb (r6 L.p km fm x)/\bY m v.size (eW (0,size,0,0,0)),⟨W,p11.b,bb⟩,?_⟩;refine tE (c:=.p) (y:=some ⟨gb,0,none⟩) (λm F=>F.1) rfl (aG (iL (c:=.p) (y:=some ⟨L.p,0,none⟩) (λm F=>F.2.1) rfl ?_));refine iL (c:=bN) (y:=0) (λm F=>F.2.2) rfl (iL (c:=bN) (y:=size) (λm F=>F.2.2) rfl (iL (c:=bN) (y:=0) (λm F=>F.2.2) rfl (iL (c:=bN) (y:=0) (λm F=>F.2.2) rfl (iL (c:=bN) (y:=0) (λm F=>F.2.2) rfl ?_))));refine Hc (0,size,0,0,0) aC aC λv12 A=>⟨⟨A.bT W id,A.bT p11.b id,A.bT bb id⟩,?_⟩;refine ar aC aC (ar aC aC ?_);have p12:=p11.fr A;have e012:=(e.trans e11).trans A;have z1112:=A.1;obtain⟨H',a,er,hw,o,me⟩:=Rl p.hi thread (zA align+ZE size+16) (zA align);obtain⟨held',s0',hi'⟩:=o.hi;refine OM Fu p12.h p12.cf.2.2 hw λv13 ts K h13=>?_;have B:=p12.step K h13 hi' o.kp;have z12:=e012.1;have z13:=K.1;have nP:∀c,U.size<=c->¬P c:=λc h1 h2=>by have:=(p.pP c h2).2;omega
      have S:=K.bT (A.bT W id) (nP _ (zD _));have bb13:=K.bT (A.bT bb id) (nP _ O);refine⟨⟨S,K.bT p12.b p.rX.2,bb13⟩,?_⟩;generalize hP1:Cut (Grow P v12) v13=P1 at B;have E:∀c,P1 c->P c\/U.size<=c:=λc d=>by
       rw[←hP1]at d;exact d.1.imp id λh=>by omega
      have N:∀c,P1 c->c<v13.size:=λc d=>by rw[←hP1]at d;exact d.2
      have G:∀c,c<v12.size->¬P c->¬P1 c:=λc h1 h2 C=>by
       rw[←hP1]at C;rcases C.1 with h4|h4
       ·exact h2 h4
       ·omega
      have E13:Ext P U v13:=(bK.to e012).trans K;refine cO (λhne=>?_) λheq=>?_
      ·have hne':er≠0:=by simpa using hne
       rcases me with⟨_,ha,hl⟩|⟨h,_⟩
       ·subst ha;exact h1 er v13 ts H' held' s0' P1 hgk hne' hw o hl E13 B E
       ·exact absurd h hne'
      ·have he0:er=0:=by simpa using heq
       subst he0;obtain⟨u,hu,bi⟩:=JQ (x:=x) (size:=size) (align:=align) hi' hgk me;obtain⟨b,g⟩:∃b:B5,b=(a+zA align,size,a,u,x.no+1):=⟨_,rfl⟩;rw[←g]at bi;have hbs:=bi.base;have hbm:=bi.m;have hbz:=bi.z;have hbt:=bi.t;have hb1:b.1=a+zA align:=by rw[g]
       have hb2:b.2.1=size:=by rw[g]
       rw[hb2]at hbt;have M:b.2.2.1=a:=by rw[g]
       have hb4:b.2.2.2.1=u:=by rw[g]
       rw[M]at hbs;have gr:yn H x size align b H':=⟨by rw[M];exact me,by rw[hb1,M],by rw[g],by rw[M,hb4];exact hu,by rw[g],hgk,bi⟩;have hgb13:=B.b.lt;have hvg:v.size≠gb:=λh=>by have:=p.b.lt;omega
       have hsg:U.size≠gb:=λh=>by have:=p.b.lt;omega
       have hvk:v.size≠km:=λh=>by have:=p.m.lt;omega
       have hsk:U.size≠km:=λh=>by have:=p.m.lt;omega
       have hvf:v.size≠fm:=λh=>by have:=p.f.lt;omega
       refine S.r4 rfl (aG (B.b.rI rfl (ar O O (aG (B.b.s1 (by simp[r6]) λX D b14=>?_)))));have p14:GP σ0 X {L with ts:=ts} H' held' s0' P1 gb km fm {x with no:=x.no+1}:=B.fA (D.ext.sub λc d=>.inl d) b14 (D.ext.fO B.m λ(h:km=gb)=>p.n1 h.symm) (D.ext.fO B.f λ(h:fm=gb)=>p.n2 h.symm);have hn14:=D.ext.bT S hsg;have bb14:=D.ext.bT bb13 hvg;refine hn14.r4 rfl (aG (p14.b.rI rfl (ar O O ?_)));refine bb14.s1 (by simp[eW]) λv15 o15 b15=>b15.s2 (by simp[eW]) λv16 o16 b16=>b16.s2 (by simp[eW]) λv17 o17 b17=>?_;have e17:Ext (· = v.size) X v17:=(o15.ext.trans o16.ext).trans o17.ext;have hout:∀c,c<X.size->c=v.size->¬P1 c/\c≠gb/\c≠km/\c≠fm/\σ0.size<=c:=λc _ d=>by
        subst d;have:=p.e.1;exact⟨G _ O (nP _ O),hvg,hvk,hvf,O⟩
       have p17:=p14.out e17 hout;have hn17:=e17.bT hn14 (show ¬U.size=v.size by omega);refine hn17.r4 rfl (aG (p17.b.rP rfl (GJ p17.h a λv18 V=>?_)));rw[hu];refine(V.bT b17 id).s2 (by simp[eW]) λv19 o19 b19=>?_;have j:bY v19 v.size (eW b):=by rw[g];exact b19
       have p18:=p17.fr V;have z17:=o17.1;have z16:=o16.1;have z15:=o15.1;have z14:=D.1;have z18:=V.1;have z19:=o19.1;have p19:=p18.out o19.ext λc hc1 (d:c=v.size)=>by
        subst d;have:=p.e.1;exact⟨G _ O (nP _ O),hvg,hvk,hvf,O⟩
       have hn19:=o19.ext.bT (V.bT hn17 id) (show ¬U.size=v.size by omega);have E19:Ext (Mg P gb km fm) U v19:=by
        refine Ext.dS (((((E13.sub λc d=>.inl d).trans (D.ext.sub λc d=>.inr (.inl d))))):Ext (Mg P gb km fm) U X) (((e17.trans (bK.to V)).trans o19.ext):Ext (· = v.size) X v19) λc (d:c=v.size)=>.inr O
       refine j.rI rfl (j.rI rfl (j.rI rfl (j.rI rfl (j.rI rfl (CD b λv20 hz20 Q b20=>?_)))));have p20:=p19.fr Q;have hn20:=Q.bT hn19 id;have bb20:=Q.bT j id;have z20:=Q.1;have E20:Ext (Mg P gb km fm) U v20:=E19.ji Q;refine⟨rfl,by kernel_rfl,Za b,_,λk s=>Ext (Mg P gb km fm) U s/\v20.size<=s.size/\bY s U.size [.pointer (some ⟨gb,0,none⟩)]/\bY s v.size (eW b)/\bY s v19.size (eW b)/\∃(s0':Sp) (P':Rg),GP σ0 s {L with ts:=ts} {H' with sp:=j7 H'.sp ((Za b).take k) jz} held' s0' P' gb km fm {x with no:=x.no+1}/\∀c,P' c->P1 c\/v20.size+2<=c,DO bi,?_,λk s h=>h.2.2.2.2.1,?_,?_,?_⟩
       ·rintro k s s' ⟨i1,i2,i3,Y,i5,s1',P',i6,Z⟩ es;have zs:=es.1;have nn:∀c,c<v20.size->¬(c=v20.size\/c=v20.size+1):=λc h=>by omega
        refine⟨Ext.dS i1 es λc d=>.inr O,O,es.bT i3 (nn _ O),es.bT Y (nn _ O),es.bT i5 (nn _ O),s1',P',i6.out es λc _ d=>?_,Z⟩;have:=p.e.1;have g1:=p.b.lt;have g2:=p.m.lt;have g3:=p.f.lt;refine⟨λhx=>?_,O,O,O,O⟩;rcases Z c hx with h|h
        ·have:=N c h;omega
        ·omega
       ·exact⟨E20,zD _,hn20,bb20,b20,s0',P1,p20,λc d=>.inl d⟩
       ·rintro k (z:Int) hk s ⟨i1,i2,i3,Y,i5,s1',P',i6,Z⟩ hsz;have zi:=U3 bi (zG hk);have hzk:0<=z/\z<=1000000:=by
         have z1:=zi.1;have z2:=zi.2.2.1;have h0:=bi.base.1;omega
        have htk:(Za b).take (k+1)=(Za b).take k++[z]:=by rw[k8,hk];rfl
        have n7:∀c,c<v20.size+2->(¬P1 c)->¬P' c:=λc h1 h2 C=>(Z c C).elim h2 λh=>by omega
        have q1:¬P1 U.size:=G _ O (nP _ (zD _));have q2:¬P1 v.size:=G _ O (nP _ O);have q3:∀c,v13.size<=c->¬P1 c:=λc h1 h2=>by have:=N c h2;omega
        refine⟨λm=>bY m U.size [.pointer (some ⟨gb,0,none⟩)]/\bY m gb (r6 L.p km fm {x with no:=x.no+1}),⟨i3,i6.b⟩,tE (c:=.p) (y:=some ⟨gb,0,none⟩) (λm h=>h.1) rfl (aG (iL (c:=.p) (y:=some ⟨L.p,0,none⟩) (λm h=>h.2) rfl ?_))⟩;refine Fc z hzk.1 hzk.2 ⟨⟨i3,i6.b⟩,?_⟩;refine i6.write gc z (jz z) O λs2 s2' P2 e2 p2 hP2=>?_;have zs2:=e2.1;have i3':=e2.bT i3 (n7 _ O q1);refine⟨⟨i3',p2.b⟩,⟨Ext.dS i1 e2 λc d=>?_,O,i3',e2.bT Y (n7 _ O q2),e2.bT i5 (n7 _ O (q3 _ O)),s2',P2,?_,λc d=>?_⟩,e2.2 _ O (n7 _ O (q3 _ O)),e2.2 _ O (n7 _ O (q3 _ O))⟩
        ·rcases Z c d with h|h
         ·exact(E c h).imp .inl id
         ·exact .inr O
        ·rw[htk,EU];exact p2
        ·rcases hP2 c d with h|h
         ·exact Z c h
         ·exact .inr O
       ·rintro s ⟨i1,i2,i3,Y,i5,s1',P',i6,Z⟩ hD;rw[mg]at i6;have n7:∀c,c<v20.size+2->(¬P1 c)->¬P' c:=λc h1 h2 C=>(Z c C).elim h2 λh=>by omega
        have q1:¬P1 U.size:=G _ O (nP _ (zD _));have q2:¬P1 v.size:=G _ O (nP _ O);have q3:∀c,v13.size<=c->¬P1 c:=λc h1 h2=>by have:=N c h2;omega
        refine i3.r4 rfl (Y.rI rfl (Y.rI rfl (Y.rI rfl (Y.rI rfl (Y.rI rfl (Da i6 gc bi 0 λs2 s2' P2 e2 p2 hP2=>?_))))));have zs2:=e2.1;have hlt:=(zy.1 hD).1;have i3':=e2.bT i3 (n7 _ O q1);have i4':=e2.bT Y (n7 _ O q2);have hS:∀m,(bY m U.size [.pointer (some ⟨gb,0,none⟩)]/\bY m gb (r6 L.p km fm {x with no:=x.no+1})/\bY m v.size (eW b))->bY m v.size (eW b):=λm h=>h.2.2;refine⟨λm=>bY m U.size [.pointer (some ⟨gb,0,none⟩)]/\bY m gb (r6 L.p km fm {x with no:=x.no+1})/\bY m v.size (eW b),⟨i3',p2.b,i4'⟩,tE (c:=.p) (y:=some ⟨gb,0,none⟩) (λm h=>h.1) rfl (aG (iL (c:=.m) (y:=some km) (λm h=>h.2.1) rfl ?_))⟩;refine pd (c:=bN) (y:=b.1) hS rfl (iL (c:=bN) (y:=b.1) hS rfl (iL (c:=bN) (y:=b.2.1) hS rfl (iL (c:=bN) (y:=b.2.2.1) hS rfl (iL (c:=bN) (y:=b.2.2.2.1) hS rfl (iL (c:=bN) (y:=b.2.2.2.2) hS rfl ⟨km,x.kn,rfl,p2.m,λs3 o3 m3=>?_⟩)))));have p3:GP σ0 s3 {L with ts:=ts} {H' with sp:=lZ H'.sp b} held' s2' P2 gb km fm (x.fQ b):=p2.fA (y:=x.fQ b) (o3.ext.sub λc d=>.inr (.inl d)) (o3.ext.bT p2.b p.n1) m3 (o3.ext.fO p2.f λ(h:fm=km)=>p.n3 h.symm);have zs3:=o3.1;have hkm:=p.m.lt;have hfm:=p.f.lt;have hgb:=p.b.lt;have hD3:s3[v20.size]?=some (.deferred (some [])):=(o3.2 _ O).trans ((e2.2 _ hlt (n7 _ O (q3 _ O))).trans hD);refine(o3.ext.bT i4' hvk).eY rfl (EE hD3 λs4 e4=>?_);have hP2':∀c,P2 c->P c\/U.size<=c:=λc d=>by
         rcases hP2 c d with h|h
         ·rcases Z c h with h|h
          ·exact E c h
          ·exact .inr O
         ·exact .inr O
        refine h2 b s4 ts H' held' s2' P2 gr (by rw[M];exact hw) o ?_ (p3.out e4 λc _ (d:c=v20.size)=>?_) hP2'
        ·have E1:Ext (Mg P gb km fm) U s2:=Ext.dS i1 e2 λc d=>by
          rcases Z c d with h|h
          ·exact(E c h).imp .inl id
          ·exact .inr O
         have E2:Ext (Mg P gb km fm) U s3:=E1.trans (o3.ext.sub λc d=>.inr (.inr (.inl d)));exact Ext.dS E2 e4 λc (d:c=v20.size)=>.inr O
        ·subst d;have:=p.e.1;refine⟨λhx=>?_,O,O,O,O⟩;rcases hP2 _ hx with h|h
         ·exact n7 _ O (q3 _ O) h
         ·omega
     ·exact cD (by rw[hr3];simp[hgk]) (h0 v (by simpa using hgk) e)
    ·by_cases g:1<=size/\size<=1024/\1<=align/\align<=256
     ·refine cB (by rw[hr2,zJ g];rfl) (ar O O (hJ3 _ _ ⟨rfl,?_⟩));rw[Ny g.2.2.1 g.2.2.2];unfold m7;rw[zJ g];rfl
     ·refine cD (by rw[hr2,zM g];rfl) (hJ3 _ _ ⟨rfl,?_⟩);unfold m7;rw[zM g];rfl
   ·by_cases g:1<=size/\size<=1024/\1<=align
    ·refine cB (by rw[hr1,zJ g];rfl) (hJ2 _ _ ⟨rfl,?_⟩);by_cases C:align>256
     ·rw[zJ C,zM O];rfl
     ·rw[zM C,zJ O];rfl
    ·exact cD (by rw[hr1,zM g];rfl) (hJ2 _ _ ⟨rfl,by rw[zM O];rfl⟩)
  ·by_cases g:1<=size/\size<=1024
   ·refine cB (by rw[hr,zJ g];rfl) (hJ1 _ _ ⟨rfl,?_⟩);by_cases C:align<1
    ·rw[zJ C,zM O];rfl
    ·rw[zM C,zJ O];rfl
   ·exact cD (by rw[hr,zM g];rfl) (hJ1 _ _ ⟨rfl,by rw[zM O];rfl⟩)
 ·by_cases C:size>1024
  ·rw[zJ C,zM O];rfl
  ·rw[zM C,zJ O];rfl
end Go.Ar
namespace Go.Ar
open Go Go.Vc Go.Proofs Go.RowKit Go.Sort Go.Shelf Go.Lib
variable {U:Hp}{F Q:Rg}{s:Sl}{xs:List Int}
theorem NT (hrow:bR s 1 (Wo xs) U F)(hlen:xs.length<=1000000){R:aP}(hR:∀ys w,ys.Perm xs->Ext F U w->bR s 1 (Wo ys) w F->R w):KR.c s U R:=by
 rintro w rfl;have A:s.len=xs.length:=by have:=hrow.1;simp[Wo]at this;omega
 rcases hrow.2 with⟨h0,hc0⟩|⟨b,cs,hF,ha,hb,hle,hcl,ht⟩
 ·have L:xs=[]:=wu.1 O;have:=AnyM.slices_Sort_int_none Tryz.kF s.a s.cap w;show Calls _ _ #[.slice s.a s.len s.cap] w _;rw[h0];refine this.mono ?_;rintro e J ⟨rfl,rfl⟩;exact⟨.refl _,[],rfl,hR xs _ (.refl _) (Ext.refl _ _) hrow⟩
 ·have i:=hb.lt;have H:Holds (Value.int .i64) w b 0 xs.toArray:=by
   intro j hj;have u:j<xs.length:=by simpa using hj
   have M:Vc.cell w.heap ⟨b,0+j,none⟩=some (.int .i64 xs.toArray[j]!):=by
    rw[hb.cell,zH];have:(cs.take (Wo xs).length)[j]?=some (.int .i64 xs[j]):=by rw[ht];simp[Wo,u]
    rw[zj,zC (by simpa[Wo]using u)]at this;rw[this,getElem!_pos xs.toArray j hj];simp
   exact⟨M,hb.nj⟩
  have p:=AnyM.slices_Sort_int Tryz.kF b 0 s.cap xs w H i O;show Calls _ _ #[.slice s.a s.len s.cap] w _;rw[ha,A];refine p.mono ?_;rintro e J ⟨rfl,n,os,rfl⟩;obtain⟨ys,m⟩:∃ys,ys=xs.mergeSort λx y=>decide (x<=y):=⟨_,rfl⟩;have D:ys.Perm xs:=by rw[m];exact y5 _ _
  have E:ys.length=xs.length:=D.length_eq;rw[←m];obtain⟨K,B⟩:=hb;have d:(grow (putRow (Value.int .i64) (Sort.ahead w n) b 0 ys.toArray) os).heap=(w.heap.modify b (onCells (putCells (Value.int .i64) 0 ys.toArray)))++os:=rfl;have g:(w.heap.modify b (onCells (putCells (Value.int .i64) 0 ys.toArray))).size=w.heap.size:=by simp
  refine⟨⟨rfl,rfl,rfl,by rw[d,xJ,g];omega⟩,[],rfl,?_⟩;rw[d];have r:Ext F w.heap ((w.heap.modify b (onCells (putCells (Value.int .i64) 0 ys.toArray)))++os):=by
   refine⟨by rw[xJ,g];omega,λq G N=>?_⟩;rw[sZ (by rw[g];exact G),uN,zB λ(e:b=q)=>N (by rw[←e];exact hF)]
  refine hR ys _ D r ⟨by simp[Wo];omega,.inr ⟨b,(putCells (Value.int .i64) 0 ys.toArray cs.toArray).toList,hF,ha,⟨K,?_⟩,hle,?_,?_⟩⟩
  ·rw[sZ (by rw[g];exact i),uN,zC rfl,B];simp[onCells]
  ·simp[putCells,hcl]
  ·have C:(Wo ys).length=ys.length:=by simp[Wo]
   rw[C];apply zp;intro j;rw[zj];by_cases hj:j<ys.length
   ·rw[zC hj];have z:j<cs.length:=by omega
    simp only[putCells,vB,Array.getElem?_mapIdx,List.getElem?_toArray,cT z,zX];rw[zC ⟨O,by simpa using hj⟩];rw[Nat.sub_zero,getElem!_pos ys.toArray j (by simpa using hj)];simp[Wo,hj]
   ·rw[zB hj,zV O]
theorem FD {b:Nat}:∀(vs:List Value) {cs:List Value} {o i:Nat} {h:Hp} {K:aP},bY h b cs->o+i+vs.length<=cs.length->(∀h',Ext (· = b) h h'->K h')->m8 ⟨b,o,none⟩ h vs i K
 | [],cs,o,i,h,K,_,_,hK=>hK h (Ext.refl _ _)
 | v::vs,cs,o,i,h,K,hb,hl,hK=>by
  have hl':o+i+(vs.length+1)<=cs.length:=hl;unfold m8;refine hb.s1 O λe o1 d=>FD vs d (by rw[nF];omega) λa e2=>hK a (o1.ext.trans e2)
theorem N6 (hrow:bR s 1 (Wo xs) U F)(hlen:xs.length<=1000000){R:Sl->Hp->Prop}(hR:∀s' w,Ext F U w->(xs.length<=1->bR s' 1 (Wo xs) w F)->R s' w):WT.c s U R:=by
 refine WT.o ?_;unfold WT.v;have P:s.len=xs.length:=by have:=hrow.1;simp[Wo]at this;omega
 refine cQ (λh=>hR s U (Ext.refl _ _) λ_=>hrow) λZ=>?_;have p:¬xs.length<=1:=by omega
 have g:∀s' w,Ext F U w->R s' w:=λs' w e=>hR s' w e λh=>(p h).elim;rcases hrow.2 with⟨h0,hc0⟩|⟨b,cs,hF,ha,hb,hle,hcl,ht⟩
 ·omega
 have d:∀j,j<s.len->∃v:Int,cs[j]?=some (.int .i64 v):=λj C=>by
  have:(cs.take (Wo xs).length)[j]?=some (.int .i64 (xs[j]' O)):=by rw[ht];simp[Wo,show j<xs.length by omega]
  rw[zj,zC (by simp[Wo];omega)]at this;exact⟨_,this⟩
 have x:∀{w},Ext (· = b) U w->Ext F U w:=λe=>e.sub λc (M:c=b)=>by rw[M];exact hF
 have rd:∀{u:Hp} {cs':List Value} {j o:Nat} {K:Int->Prop},bY u b cs'->(∃v:Int,cs'[o+j]?=some (.int .i64 v))->(∀v,K v)->gA .i64 (Addr.add ⟨b,o,none⟩ j) u K:=λA ⟨v,J⟩ S=>A.rI J (S v);have r:∀n:Nat,((List.replicate n [Value.int .i64 0]).flatten).length=n:=λn=>by simp
 rw[ha];refine Z0 (a:=bN) (λ(z:Int) w=>w=U/\∃k:Nat,z=k/\1<=k/\k<=s.len) (λz _=>s.len-z.toNat) ⟨rfl,1,rfl,O,O⟩ ?_;rintro(z:Int) w ⟨rfl,k,rfl,h1,hk⟩;refine cQ (λQ=>?_) λV=>g s w (Ext.refl _ _);have H:k<s.len:=by omega
 refine ix O O (rd hb (by rw[zH];exact d _ O) λE=>ar O O (ix O O (rd hb (by rw[zH];exact d _ O) λN=>cO (λ_=>?_) λ_=>cP (m:=k+1) O O ⟨⟨rfl,k+1,rfl,O,O⟩,O⟩)));refine iT (s:=s) (sz:=1) (lo:=k) (hi:=s.len) (mx:=s.cap) O hle (zD _) ?_;rw[zB (show ¬s.cap=k by omega),ha];simp only[zX];refine UC (a:=bN) (bb:=bN) (λ(y z:Int) u=>∃(k1 k2:Nat) (cs':List Value),y=k1/\z=k2/\1<=k2/\k2<=s.len-k/\k<=k1/\k1<=k+k2-1/\Ext (· = b) w u/\bY u b cs'/\cs'.length=s.cap/\∀j,j<s.len->∃v:Int,cs'[j]?=some (.int .i64 v)) (λ_ z _=>(s.len-k)-z.toNat)
  ⟨k,1,cs,rfl,rfl,O,O,O,O,Ext.refl _ _,hb,O,d⟩ ?_
 rintro(y:Int) (z:Int) u ⟨k1,k2,cs',rfl,rfl,g1,g2,g3,g4,eu,hbu,hcl',hin⟩;refine cQ (λB=>?_) λD=>?_
 ·have W:k2<s.len-k:=by omega
  have e1:∀j:Nat,Addr.add (Addr.add ⟨b,0,none⟩ (k*1)) j=Addr.add ⟨b,k,none⟩ j:=λj=>by rw[add_lit,add_lit,add_lit];congr 1;omega
  refine ix O O ?_;rw[e1];refine rd hbu (hin _ O) λE=>ar O O (ix O O ?_);rw[e1];refine rd hbu (hin _ O) λN=>cO (λ_=>?_) λ_=>cP (m:=k2+1) O O ⟨⟨k1,k2+1,cs',rfl,rfl,O,O,O,O,eu,hbu,hcl',hin⟩,O⟩;refine ix O O ?_;rw[e1];refine rd hbu (hin _ O) λv3=>ix O O (hbu.s1 O λY o2 L=>cP (m:=k1+1) O O (cP (m:=k2+1) O O ⟨⟨k1+1,k2+1,_,rfl,rfl,O,O,O,O,eu.trans o2.ext,L,by rw[nF];exact hcl',λj C=>?_⟩,O⟩));rw[mU];split
  ·rw[zC O];exact⟨v3,rfl⟩
  ·exact hin j C
 ·refine iT (s:=s) (sz:=1) (lo:=k1) (hi:=s.len) (mx:=s.cap) O hle (zD _) ?_;rw[zB (show ¬s.cap=k1 by omega),ha];simp only[zX];refine⟨by simp[dN],?_⟩;simp only[add_lit];refine FD _ hbu ?_ λG X=>?_
  ·rw[r];omega
  ·refine iT (s:=s) (sz:=1) (lo:=0) (hi:=k1) (mx:=s.cap) O O (zD _) ?_;exact g _ G (x (eu.trans X))
end Go.Ar
namespace Go.Ar
open Go Go.Vc Go.Proofs
open Go.Vc (bV dB cR)
variable {size align:Int}{U σ0 v w w':Hp}{F P Q X T:Rg}{L:dK}{H H' H1:Hw}{held:List Pc}{s0 sp:Sp}{t n:Nat}{g:Th}{gb km fm m:Nat}{x y:Gu}{b:B5}
def Er:Int:=-1234567
def lj (H:Hw)(x:Gu)(thread addr:Int)(whole:Bool):Int:=
 if QY H thread≠0 then QY H thread else match bV x.kn addr with
 | none=>if(bV x.fr addr).getD false then 9 else 8
 | some b=>if UA H b then 5 else if whole&&decide (0<(Kh H.sp b).length)then 10 else 0
def Gu.gone (x:Gu)(addr:Int):Gu:=⟨cR x.kn addr,dB x.fr addr true,x.no⟩
def iD (H:Hw)(b:B5):Hw:={H with sp:=j7 H.sp (QA b) λ_=>Er}
set_option maxRecDepth 16000 in
theorem Uw (p:GP σ0 U L H held s0 P gb km fm x)(gc:Gc σ0)(xi:∀e∈x.kn,e.1=e.2.1/\hO e.2)(thread addr:Int)(whole:Bool){R:aN}
 (h0:∀w,lj H x thread addr whole≠0->bK U w->R (lj H x thread addr whole) w)
 (h1:∀b w ts H1 held' s0' P' e,bV x.kn addr=some b->lj H x thread addr whole=0->Ug (iD H b) thread 1 0 0 b.2.2.1 H1 0 e->fY (iD H b) H1->oH (iD H b) thread b.2.2.1 H1 e->Ext (Mg P gb km fm) U w->GP σ0 w {L with ts:=ts} H1 held' s0' P' gb km fm (x.gone addr)->(∀c,P' c->P c\/U.size<=c)->R 0 w) :
 X0.c (aW gb) thread addr whole U R:=by
 refine X0.o ?_;unfold X0.v;refine Vn p (cB rfl (ON p thread λC e1=>?_));have p1:=p.fr e1;refine cO (λZ=>?_) λheq=>?_
 ·have hn:QY H thread≠0:=by simpa using Z
  have he:lj H x thread addr whole=QY H thread:=by unfold lj;rw[zC hn]
  have:=h0 C (by rw[he];exact hn) e1;rw[he]at this;exact this
 have hrd:QY H thread=0:=by simpa using heq
 have a:lj H x thread addr whole=match bV x.kn addr with
  | none=>if(bV x.fr addr).getD false then 9 else 8
  | some b=>if UA H b then 5 else if whole&&decide (0<(Kh H.sp b).length)then 10 else 0:=by
  unfold lj;rw[zB (by rw[hrd];decide)]
 refine aG (p1.b.rM rfl ⟨x.kn,p1.m,?_⟩);refine nw (cs:=[.int .i64 0,.int .i64 0,.int .i64 0,.int .i64 0,.int .i64 0]) λv2 hz2 e2 b2=>b2.s1 aA λv3 o3 b3=>b3.s1 aA λv4 o4 b4=>b4.s1 aA λv5 o5 b5=>b5.s1 aA λv6 o6 b6=>b6.s1 aA λv7 o7 b7=>?_;have eo:Ext (· = C.size) v2 v7:=(((o3.ext.trans o4.ext).trans o5.ext).trans o6.ext).trans o7.ext;have e17:bK C v7:=Ext.fresh e2 eo λi (hi:i=C.size)=>by omega
 have D:=e1.trans e17;have p7:=p.fr D;have d:bY v7 C.size (eW ((bV x.kn addr).getD (0,0,0,0,0))):=b7;cases hk:bV x.kn addr with
 | none=>
  rw[hk]at a;simp only at a;refine KJ (λr u=>u=v7/\r=(bV x.fr addr).getD false) (λr u ⟨hu,K⟩=>?_) λJ M=>cD rfl (aG (p7.b.rM rfl ⟨x.fr,p7.f,M _ _ ⟨rfl,rfl⟩⟩));rw[hu];refine cO (λh=>?_) λh=>cD rfl ?_
  ·rw[←K,h]at a;have:=h0 v7 (by rw[a];decide) D;rw[a]at this;exact this
  ·rw[←K,h]at a;have:=h0 v7 (by rw[a];decide) D;rw[a]at this;exact this
 | some b=>
  rw[hk]at a d;simp only at a;have d:bY v7 C.size (eW b):=d;have G:hO b:=(xi _ (KO hk)).2;refine KJ (λr u=>u=v7/\r=false) (λr u ⟨hu,K⟩=>?_) λJ M=>cB rfl (M _ _ ⟨rfl,rfl⟩);rw[hu];refine cB K (cB rfl (d.rI rfl (d.rI rfl (d.rI rfl (d.rI rfl (d.rI rfl (UZ p7 b λv9 e9=>?_)))))));have E:=D.trans e9;have p9:=p.fr E;have j:=e9.bT d id;refine cO (λhl=>?_) λhl=>?_
  ·rw[zC hl]at a;have:=h0 v9 (by rw[a];decide) E;rw[a]at this;exact this
  rw[zB (by rw[hl];decide)]at a;refine KJ (λr u=>bK U u/\bY u C.size (eW b)/\r=(whole&&decide (0<(Kh H.sp b).length))) (λr u ⟨F,A,K⟩=>?_) λJ M=>cO (λN=>?_) λN=>M _ _ ⟨E,j,by rw[N];rfl⟩
  ·refine cO (λh=>?_) λh=>?_
   ·rw[←K,zC h]at a;have:=h0 u (by rw[a];decide) F;rw[a]at this;exact this
   ·rw[←K,zB (by rw[h];decide)]at a;have pu:=p.fr F;have zu:=F.1;have z1:=e1.1;refine A.rI rfl (A.rI rfl (A.rI rfl (A.rI rfl (A.rI rfl (Da pu gc G (-1234567) λu1 V P1 ef S X=>?_)))));have nP:¬P C.size:=λhx=>by have:=(p.pP _ hx).2;omega
    have hb1:=ef.bT A nP;have zf:=ef.1;refine aG (S.b.rM rfl ⟨x.kn,S.m,λu2 o2 _ m2=>?_⟩);have o2:=o2 km rfl;have W:GP σ0 u2 L (iD H b) held V P1 gb km fm ⟨cR x.kn addr,x.fr,x.no⟩:=S.fA (y:=⟨cR x.kn addr,x.fr,x.no⟩) (o2.ext.sub λc g=>.inr (.inl g)) (o2.ext.bT S.b p.n1) m2 (o2.ext.fO S.f λ(h:fm=km)=>p.n3 h.symm);refine aG (W.b.rM rfl ⟨fm,x.fr,rfl,W.f,λu3 B m3=>?_⟩);have Y:GP σ0 u3 L (iD H b) held V P1 gb km fm (x.gone addr):=W.fA (y:=x.gone addr) (B.ext.sub λc g=>.inr (.inr g)) (B.ext.bT W.b p.n2) (B.ext.fO W.m p.n3) m3;have hkm:=p.m.lt;have hfm:=p.f.lt;have hb3:=B.ext.bT (o2.ext.bT hb1 (show ¬C.size=km by omega)) (show ¬C.size=fm by omega);obtain⟨H',er,N,o,fe⟩:=R3 Y.hi thread b.2.2.1 (by have:=G.base;have:=G.m;have:=G.t;have:=G.z;have:=G.s;have:=Qh (n:=b.2.1) O;unfold iE;omega);obtain⟨held',s0',hi'⟩:=o.hi;refine aG (Y.b.rP rfl (hb3.eY rfl (Om Fu Y.h Y.cf.2.2 N λu4 ts e4 h4=>?_)));have p5:=Y.step e4 h4 hi' o.kp;have z2:=o2.1;have z3:=B.1;have z4:=e4.1;refine h1 b u4 ts H' held' s0' _ er hk a N o fe ?_ p5 λc g=>?_
    ·have E1:Ext (Mg P gb km fm) U u1:=(bK.to F).trans (ef.sub λc g=>.inl g);have E3:Ext (Mg P gb km fm) U u3:=(E1.trans (o2.ext.sub λc g=>.inr (.inr (.inl g)))).trans (B.ext.sub λc g=>.inr (.inr (.inr g)));exact Ext.dS E3 e4 λc g=>(X c g).imp .inl λh=>by omega
    ·rcases g.1 with g|g
     ·exact(X c g).imp id λh=>by omega
     ·exact .inr O
  ·refine j.rI rfl (j.rI rfl (j.rI rfl (j.rI rfl (j.rI rfl (HQ p9 G λs u Q F hs hQ=>M _ _ ⟨E.trans F,F.bT j id,?_⟩)))));have:s.len=(Kh H.sp b).length:=by have:=hs.1;simp[Wo]at this;omega
   rw[N,this,qp,l5,decide_eq_true_iff,decide_eq_true_iff];omega
def BA (H:Hw)(x:Gu)(addr:Int):Int:=match bV x.kn addr with
 | none=>8
 | some b=>if UA H b then 5 else 0
def yU (H:Hw)(x:Gu)(addr:Int):List Int:=match bV x.kn addr with
 | none=>[]
 | some b=>if UA H b then[]else Kh H.sp b
set_option maxRecDepth 16000 in
theorem Fl (p:GP σ0 U L H held s0 P gb km fm x)(xi:∀e∈x.kn,e.1=e.2.1/\hO e.2)(addr:Int){R:Sl->Int->Hp->Prop}
 (hR:∀s w Q,bK U w->bR s 1 (Wo (yU H x addr)) w Q->(∀c,Q c->U.size<=c/\c<w.size)->R s (BA H x addr) w):Xw.c (aW gb) addr U R:=by
 refine Xw.o ?_;unfold Xw.v;refine Vn p (cB rfl (aG (p.b.rM rfl ⟨x.kn,p.m,?_⟩)));refine nw (cs:=[.int .i64 0,.int .i64 0,.int .i64 0,.int .i64 0,.int .i64 0]) λM W e2 A=>A.s1 aA λv3 o3 B=>B.s1 aA λv4 o4 b4=>b4.s1 aA λv5 o5 F=>F.s1 aA λY o6 C=>C.s1 aA λv7 o7 N=>?_;have J:Ext (· = U.size) M v7:=(((o3.ext.trans o4.ext).trans o5.ext).trans o6.ext).trans o7.ext;have r:bK U v7:=Ext.fresh e2 J λi (Z:i=U.size)=>by omega
 have D:=p.fr r;have a:bY v7 U.size (eW ((bV x.kn addr).getD (0,0,0,0,0))):=N;have nil:∀w,bR ⟨none,0,0⟩ 1 (Wo []) w (λ_=>False):=λw=>⟨rfl,.inl ⟨rfl,rfl⟩⟩;unfold BA yU at hR;cases hk:bV x.kn addr with
 | none=>
  rw[hk]at hR;exact cD rfl (hR _ v7 _ r (nil _) λc h=>h.elim)
 | some b=>
  rw[hk]at a hR;simp only at hR;have a:bY v7 U.size (eW b):=a;have S:hO b:=(xi _ (KO hk)).2;refine cB rfl (a.rI rfl (a.rI rfl (a.rI rfl (a.rI rfl (a.rI rfl (UZ D b λV y=>?_))))));have g:=r.trans y;have K:=p.fr g;have d:=y.bT a id;refine cO (λj=>?_) λj=>?_
  ·rw[j]at hR;exact hR _ V _ g (nil _) λc h=>h.elim
  ·rw[j]at hR;refine d.rI rfl (d.rI rfl (d.rI rfl (d.rI rfl (d.rI rfl (HQ K S λs u Q z X E=>?_)))));have:=g.1;exact hR s u Q (g.trans z) X λc G=>by have:=E c G;omega
theorem Fa {α:Type}{n:Int}{x:α}:∀{l:List (Int×α)},(l.map (·.1)).Nodup->(n,x)∈l->l.Perm ((n,x)::l.filter λy=>!(y.1==n))
 | [],_,h=>by simp at h
 | z::l,hn,h=>by
  simp only[zR,zt]at hn;rcases zW.1 h with h1|h1
  ·subst h1;have:l.filter (λy=>!(y.1==n))=l:=by
    rw[pH];intro y hy;have:y.1≠n:=λe=>hn.1 (zE.2 ⟨y,hy,e⟩);simpa using this
   rw[ua aA,this]
  ·have a:z.1≠n:=λe=>hn.1 (zE.2 ⟨_,h1,e.symm⟩);rw[uO (by simpa using a)];exact((Fa hn.2 h1).cons z).trans (List.Perm.swap _ _ _)
theorem bR.sR {h:Hp}{s y:Sl}{sz bytes e:Nat}{zs xs:List Value}{K:Sl->Hp->Prop}(ho:bR s sz xs h F)(hy:y.len=0)(hb:s.len*bytes<=2^46)(hc:s.len<=2^62)(hK:K s h):App s sz bytes e zs y h K:=by
 refine⟨xs,[],ho.1,by rw[hy];simp,ho.rd,?_,by simp,by rw[hy];exact hb,by rw[hy];exact hc,λd=>?_,λb=>?_⟩
 ·unfold Rd;split
  ·rfl
  ·intro j v hv;simp at hv
 ·rw[hy];cases ha:s.a with
  | some a=>simp only[m8];rw[←ha];exact hK
  | none=>simp only;rw[←ha];exact hK
 ·exfalso;rw[hy]at b;rcases ho.2 with⟨h1,h2⟩|⟨_,_,_,_,_,h3,_⟩<;>omega
theorem AI {s y:Sl}{xs ys:List Int}{e:Nat}{K:Sl->Hp->Prop}(hr:bR s 1 (Wo xs) U F)(hy:bR y 1 (Wo ys) U Q)(hl:xs.length+ys.length<=10000000)(hK:∀s' w,Ext F U w->bR s' 1 (Wo (xs++ys)) w (λc=>F c\/U.size<=c/\c<w.size)->K s' w):App s 1 8 e [.int .i64 0] y U K:=by
 have a:s.len=xs.length:=by have:=hr.1;simp[Wo]at this;omega
 have u:y.len=ys.length:=by have:=hy.1;simp[Wo]at this;omega
 by_cases h0:y.len=0
 ·have b:ys=[]:=wu.1 O;subst b;refine bR.sR hr h0 O O (hK s U (Ext.refl _ _) ?_);rw[kI];exact aI.mono hr λc _ j=>.inl j
 ·refine hr.app (ys:=Wo ys) rfl (by simp[Wo];omega) hy.rd (λv d=>?_) O O O λs' w g m i=>hK s' w m ?_
  ·unfold Wo at d;obtain⟨z,_,rfl⟩:=zE.1 d;rfl
  ·have:Wo (xs++ys)=Wo xs++Wo ys:=by simp[Wo]
   rw[this];refine aI.mono (aI.cut i) λc r p=>?_;rcases p.1 with a|a
   ·exact .inl a
   ·exact .inr ⟨a,r⟩
def oZ (H:Hw)(e:Int×B5):List Int:=if UA H e.2 then[]else Kh H.sp e.2
def pC (H:Hw)(x:Gu):List Int:=x.kn.flatMap (oZ H)
set_option maxRecDepth 16000 in
theorem Jr (p:GP σ0 U L H held s0 P gb km fm x)(xi:∀e∈x.kn,e.1=e.2.1/\hO e.2)(hsw:(pC H x).length<=1000000){R:Sl->Hp->Prop}
 (hR:∀s w,bK U w->((pC H x).length<=1->∃Q,bR s 1 (Wo (pC H x)) w Q/\∀c,Q c->U.size<=c/\c<w.size)->R s w):Yg.c (aW gb) U R:=by
 refine Yg.o ?_;unfold Yg.v;refine Vn p (cB rfl (aG (p.b.rM rfl ?_)));refine sP (a:=.s) p.m (λd (out:Sl) u=>bK U u/\U.size<u.size/\(∀e∈d,e∈x.kn)/\(d.map (·.1)).Nodup/\∃(l:List Int) (Q:Rg),bR out 1 (Wo l) u Q/\(∀c,Q c->U.size+1<=c/\c<u.size)/\(l++d.flatMap (oZ H)).Perm (pC H x)) (λv hv ev=>⟨ev,O,λe he=>he,p.m.nodup,[],λ_=>False,⟨rfl,.inl ⟨rfl,rfl⟩⟩,λc h=>h.elim,List.Perm.refl _⟩) ?_ ?_
 ·rintro(out:Sl) u ⟨eu,hlt,_,_,l,Q,hr,M,Y⟩;rw[List.flatMap_nil,kI]at Y;have V:l.length<=1000000:=by rw[Y.length_eq];exact hsw
  have zu:=eu.1;refine NT hr V λys u2 W e2 hr2=>N6 hr2 (by rw[W.length_eq];exact V) λs' u3 e3 Z=>?_;have E3:bK U u3:=Ext.fresh eu (e2.trans e3) λc r=>by have:=M c r;omega
  refine hR s' u3 E3 λh1=>⟨Q,?_,λc r=>?_⟩
  ·have h2:ys.length<=1:=by rw[W.length_eq,Y.length_eq];exact h1
   have:ys=pC H x:=by
    have hq:=W.trans Y
    match ys,hq with
    | [],hq=>exact(List.nil_perm.1 hq).symm
    | [a],hq=>exact(List.singleton_perm.1 hq)
    | _::_::_,_=>simp at h2
   rw[this]at Z h2;exact Z h2
  ·have:=M c r;have:=e2.1;have:=e3.1;omega
 ·rintro d k (b:B5) (out:Sl) u u' J ⟨eu,hlt,F,hnd,l,Q,hr,M,Y⟩ K o1 hs1 hJ;have bi:hO b:=(xi _ (F _ K)).2;have zu:=eu.1;have ab:=Fa hnd K;have hQn:∀c,Q c->¬c=U.size:=λc r=>by have:=M c r;omega
  have N:bK U u':=Ext.fresh eu o1.ext λc (r:c=U.size)=>by omega
  have ac:=aI.bS hr o1.ext λc _ r=>hQn c r;have hz':=o1.1;refine nw (cs:=[.int .i64 0,.int .i64 0,.int .i64 0,.int .i64 0,.int .i64 0]) λv2 hz2 e2 b2=>b2.s1 aA λv3 o3 b3=>b3.s1 aA λv4 o4 b4=>b4.s1 aA λv5 o5 b5=>b5.s1 aA λv6 o6 b6=>b6.s1 aA λv7 o7 b7=>?_;have eo:Ext (· = u'.size) v2 v7:=(((o3.ext.trans o4.ext).trans o5.ext).trans o6.ext).trans o7.ext;have e7:bK u' v7:=Ext.fresh e2 eo λi (hi:i=u'.size)=>by omega
  have A:bY v7 u'.size (eW b):=b7;have p7:=(p.fr N).fr e7;refine A.rI rfl (A.rI rfl (A.rI rfl (A.rI rfl (A.rI rfl (UZ p7 b λv9 e9=>?_)))));have B:=e9.bT A id;have z:=e7.trans e9;have p9:=p7.fr e9;have hkm:=p.m.lt;have E:∀{w:Hp},bK u' w->w[U.size]?=u'[U.size]?/\w[km]?=u'[km]? := λe=>⟨e.2 _ O id,e.2 _ O id⟩;have C:∀e∈d.filter (λy=>!(y.1==k)),e∈x.kn:=λe he=>F e (zI.1 he).1;have G:((d.filter (λy=>!(y.1==k))).map (·.1)).Nodup:=hnd.sublist (List.filter_sublist.map _);refine cO (λhnl=>?_) λhl=>?_
  ·have X:UA H b=false:=by simpa using hnl
   have S:oZ H (k,b)=Kh H.sp b:=by unfold oZ;rw[X];rfl
   refine B.rI rfl (B.rI rfl (B.rI rfl (B.rI rfl (B.rI rfl (HQ p9 bi λs u10 Q2 e10 hs hQ2=>?_)))));have j:=z.trans e10;have aa:=aI.bO ac j;have g:((l++Kh H.sp b)++(d.filter (λy=>!(y.1==k))).flatMap (oZ H)).Perm (pC H x):=by
    refine List.Perm.trans ?_ Y;rw[j3];refine List.Perm.append_left l ?_;have:=ab.flatMap_right (oZ H);rw[nG,S]at this;exact this.symm
   have V:l.length+(Kh H.sp b).length<=1000000:=by
    have:=g.length_eq;rw[zO,zO]at this;omega
   refine AI aa hs O λout1 u11 D hr11=>?_;have z10:=j.1;have n11:∀c,c<=U.size->¬Q c:=λc h1 h2=>by have:=M c h2;omega
   refine hJ out1 u11 ?_ ?_ ⟨Ext.fresh (N.trans j) D λc r=>by have:=M c r;omega,by have:=D.1;omega,C,G,l++Kh H.sp b,_,hr11,λc r=>?_,g⟩
   ·rw[D.2 _ O (n11 _ (zD _))];exact(E j).1
   ·rw[D.2 _ O (n11 _ O)];exact(E j).2
   ·have z11:=D.1;rcases r with r|r
    ·have:=M c r;omega
    ·omega
  ·have X:UA H b=true:=by simpa using hl
   have S:oZ H (k,b)=[]:=by unfold oZ;rw[X];rfl
   have g:(l++(d.filter (λy=>!(y.1==k))).flatMap (oZ H)).Perm (pC H x):=by
    refine List.Perm.trans ?_ Y;refine List.Perm.append_left l ?_;have:=ab.flatMap_right (oZ H);rw[nG,S]at this;exact this.symm
   have z9:=z.1;exact hJ out v9 (E z).1 (E z).2 ⟨N.trans z,O,C,G,l,Q,aI.bO ac z,λc r=>by have:=M c r;omega,g⟩
end Go.Ar
namespace Go.Proofs
open Go.Shelf
def Tryz.ia:Go.Shelf.Ren:=⟨fun|7=>64|10=>91|n=>n,fun|23=>79|26=>3|3=>112|28=>98|0=>0|27=>97|33=>142|4=>4|n=>n,fun|n=>n⟩
theorem Tryz.k9:Go.Proofs.SlLaysZI.n7 Tryz.prog Tryz.ia:={
 mixed:=by kernel_rfl
 f7:=⟨Tryz.f64.name,by decide,Tryz.func64.trans (congrArg some (by kernel_rfl))⟩
 f10:=⟨Tryz.f91.name,by decide,Tryz.func91.trans (congrArg some (by kernel_rfl))⟩
 t0:=Tryz.underlying0
 a0:=Tryz.isAgg0
 z0:=Tryz.sizeOf0
 v0:=Tryz.zeroValue0
 t4:=Tryz.underlying4
 a4:=Tryz.isAgg4
 z4:=Tryz.sizeOf4
 v4:=Tryz.zeroValue4
 t23:=Tryz.underlying79
 a23:=Tryz.isAgg79
 z23:=Tryz.sizeOf79
 v23:=Tryz.zeroValue79
 t26:=Tryz.underlying3
 a26:=Tryz.isAgg3
 z26:=Tryz.sizeOf3
 v26:=Tryz.zeroValue3
 t27:=Tryz.underlying97
 a27:=Tryz.isAgg97
 z27:=Tryz.sizeOf97
 v27:=Tryz.zeroValue97
 t28:=Tryz.underlying98
 a28:=Tryz.isAgg98
 z28:=Tryz.sizeOf98
 v28:=Tryz.zeroValue98
 t33:=Tryz.underlying142
 a33:=Tryz.isAgg142
 z33:=Tryz.sizeOf142
 v33:=Tryz.zeroValue142}
end Go.Proofs
namespace Go.Ar
open Go Go.Vc Go.Proofs Go.RowKit Go.Maps Go.Sort Go.Shelf
open Go.Vc (bV dB cR)
open Go.Bu (lF Uz KQ Ul Ko wT)
variable {U w w':Hp}{F P Q X S:Rg}{L:dK}{H H':Hw}{held:List Pc}{s0 sp:Sp}{t n:Nat}{g:Th}{σ0:Hp}
def Hm:Nat:=Tryz.ia.f 10
def AE:Nat:=Tryz.ia.t 23
theorem JI (m:Option Nat){R:Fv->Hp->Prop}(hR:R ⟨Hm,#[],#[.pointer (some ⟨U.size,0,none⟩)]⟩ (U.push (.cells #[.map m] AE (0,0)))) :
 Zt.c m U R:=by
 rintro w rfl;refine(callsIn_wide.1 (AnyZI.keys_in Tryz.k9 Fence.wide 5 trivial rfl m w)).mono ?_;rintro e a ⟨rfl,rfl⟩;exact⟨⟨rfl,rfl,rfl,qc (by show _<(w.heap.push _).size;simp)⟩,[.func (.func Hm) #[] #[.pointer (some ⟨w.heap.size,0,none⟩)]],rfl,⟨Hm,#[],#[.pointer (some ⟨w.heap.size,0,none⟩)]⟩,rfl,hR⟩
theorem OX {w:World}{c m:Nat}{B:List (Int×Bk)}(hc:cell w.heap ⟨c,0,none⟩=some (.map (some m)))(hm:dH w.heap m .i64 (.ag 4) B)(hb:∀x∈B,Go.Bu.jT x.1)(hs:B.length<=1000000)(n:Nat)(hn:1<=n) :
 SeqGives Fence.wide n Tryz.prog Hm #[.pointer (some ⟨c,0,none⟩)] encZ (λss=>ss.Perm (B.map (·.1))) B.length w:=by
 obtain⟨D,p,j,a⟩:=Ko (P:=Tryz.prog) Tryz.k9.t26 hm hb hs;have b:c<w.heap.size:=by
  unfold cell at hc;split at hc
  ·rename_i h;exact(zy.1 h).1
  ·cases hc
 have:=AnyZI.keys_gives (ρ:=Tryz.ia) {Tryz.k9 with} Fence.wide n trivial rfl hn c m B.length D w b hc p;intro l J W hW hJ hY h0;rw[a]at this;refine(this l J W hW hJ hY h0).mono ?_;rintro e W' ⟨i,ss,g,d⟩;exact⟨i,ss,g.trans j,d⟩
theorem Ra {c m:Nat}{B:List (Int×Bk)}(hc:cell U ⟨c,0,none⟩=some (.map (some m)))(hm:dH U m .i64 (.ag 4) B)(hb:∀x∈B,Go.Bu.jT x.1)(hs:B.length<=1000000){R:Sl->Hp->Prop}
 (hR:∀(s:Sl) (σ':Hp) (ss:List Int),bK U σ'->ss.Perm (B.map (·.1))->ss.Pairwise (· <= ·)->lF U.size σ' s (ss.map (Value.int .i64))->R s σ') :
 QD.c ⟨Hm,#[],#[.pointer (some ⟨c,0,none⟩)]⟩ U R:=by
 rintro w rfl;have d:=OX hc hm hb hs 2 O;have p:B.length<=maxLen:=by unfold maxLen;omega
 have z:=AnyZI.sorted_in Tryz.mR Fence.wide 5 trivial trivial trivial trivial rfl O (wT _) (Tryz.kF.f5.enters rfl) Hm #[.pointer (some ⟨c,0,none⟩)] trivial (Tryz.k9.f10.enters rfl) _ _ p O _ d;refine(callsIn_wide.1 z).mono ?_;rintro e D ⟨v,ss,rfl,u,i,r,g⟩;obtain⟨s,rfl,j⟩:=Uz i;refine⟨Ul g,[.slice s.a s.len s.cap],rfl,s,rfl,?_⟩;refine hR s _ (ss.mergeSort λx y=>decide (x<=y)) (KQ g) ((y5 _ _).trans u) ?_ j;have:=List.pairwise_mergeSort (le:=λx y:Int=>decide (x<=y)) (λa b c C A=>by simp at *;omega) (λa b=>by simp;omega) ss;exact this.imp (λh=>by simpa using h)
def l4 (b:Bk):List Value:=[.int .i64 b.1,.int .i64 b.2.1,.int .i64 b.2.2.1,.int .i64 b.2.2.2]
def gO (bs:List Bk):List Value:=bs.flatMap l4
theorem UY (bs:List Bk):(gO bs).length=bs.length*4:=by
 unfold gO
 induction bs with
 | nil=>rfl
 | cons b bs ih=>rw[nG,zO,ih];simp[l4];omega
theorem Av:∀{bs:List Bk} {i:Nat} {b:Bk},bs[i]?=some b->∀{j:Nat} {v:Value},(l4 b)[j]?=some v->(gO bs)[4*i+j]?=some v
 | [],i,b,h,_,_,_=>by simp at h
 | a::bs,0,b,h,j,v,hv=>by
  simp only[xG,Option.some.injEq]at h;subst h;have hj:=(cW.1 hv).1;show(l4 a++gO bs)[4*0+j]?=_;rw[show 4*0+j=j by omega,ze hj];exact hv
 | a::bs,i+1,b,h,j,v,hv=>by
  have d:=Av (bs:=bs) (i:=i) (b:=b) (by simpa using h) hv;show(l4 a++gO bs)[4*(i+1)+j]?=_;rw[zr (by simp[l4];omega)];have:4*(i+1)+j-(l4 a).length=4*i+j:=by simp[l4];omega
  rw[this];exact d
structure wy (live:List (Int×Bk)) (bs:List Bk):Prop where
 len:bs.length=live.length
 mem:∀b,b∈bs↔(b.1,b)∈live
 py:bs.Pairwise λa b=>a.1<b.1
theorem HI.oh (h:HI H held s0):H.live.length<=1000000:=by
 have g:(H.live.map λe=>e.1.toNat).Nodup:=by
  have m:=k6.1 h.lk;refine k6.2 λi j s u d e=>?_;have a:i<H.live.length:=by simpa using s
  have b:j<H.live.length:=by simpa using u
  refine m i j (by simpa using a) (by simpa using b) d ?_;simp only[se]at e ⊢;have y:=(h.kJ (zo a)).2.1;have w:=(h.kJ (zo b)).2.1;omega
 have:=BP 270000 _ g λx r=>by
  obtain⟨e,p,rfl⟩:=zE.1 r;have:=h.kJ p;omega
 have z:(H.live.map λe=>e.1.toNat).length=H.live.length:=by simp
 omega
theorem cV.oR {B:Nat}{s:Sl}{xs:List Value}(h:lF B U s xs):cV s 1 xs U (λb=>B<=b):=by
 refine⟨by have:=h.1;omega,?_⟩;rcases h.2 with⟨h0,_⟩|⟨b,cs,hb,ha,hk,hc⟩
 ·exact .inl h0
 ·exact .inr ⟨b,0,cs,hb,ha,hk.q,λj a=>by rw[zH];exact hc j a⟩
set_option maxRecDepth 8000 in
theorem MA (h:HH U F L H)(hi:HI H held s0){R:Sl->Hp->Prop}(hR:∀s σ' bs,bK U σ'->wy H.live bs->bR s 4 (gO bs) σ' (λb=>U.size<=b)->R s σ'):Zm.c (aW L.p) U R:=by
 refine Zm.o ?_;unfold Zm.v;have B:∀x∈H.live,Go.Bu.jT x.1:=λx g=>by have:=hi.kJ g;unfold Go.Bu.jT;omega
 have W:=hi.oh;refine VJ h (cB rfl (aG (h.hd.rM rfl (JI _ ?_))));have e1:bK U (U.push (.cells #[.map (some L.lm)] AE (0,0))):=Ext.push _ _ _;have G:=h.bO e1;refine Ra (by unfold cell;simp) G.kC B W λs y ss e2 J D hs=>?_;have P:=e1.trans e2;have A:=cV.oR hs;have V:ss.Nodup:=J.nodup_iff.2 hi.lk;have u:ss.length=H.live.length:=by rw[J.length_eq];simp
 have hsl:s.len=ss.length:=by have:=A.1;simp at this;omega
 have E:∀x∈ss,∃b,bV H.live x=some b/\b.1=x:=λx g=>by
  obtain⟨e,Y,rfl⟩:=zE.1 (J.mem_iff.1 g);exact⟨e.2,ZU hi.lk Y,(hi.lv e Y).1⟩
 let f:Int->Bk:=λx=>(bV H.live x).getD (0,0,0,0)
 have r:∀x∈ss,(f x).1=x/\bV H.live x=some (f x):=λx g=>by
  obtain⟨b,d,K⟩:=E x g;have:f x=b:=by show(bV H.live x).getD _=b;rw[d];rfl
  rw[this];exact⟨K,d⟩
 have hz1:U.size<y.size:=by
  have G:=e2.1;have h2:(U.push (.cells #[.map (some L.lm)] AE (0,0))).size=U.size+1:=by simp
  omega
 refine UC (a:=.s) (bb:=bN) (λ(out:Sl) (z:Int) w=>∃i:Nat,z=i/\i<=ss.length/\bK y w/\bR out 4 (gO ((ss.take i).map f)) w (λb=>y.size<=b)) (λ_ z _=>ss.length-z.toNat) ⟨0,rfl,O,Ext.refl _ _,⟨by simp[gO],.inl ⟨rfl,rfl⟩⟩⟩ ?_;rintro(out:Sl) (z:Int) w ⟨i,rfl,hil,ew,hr⟩;have Z:=G.bO (e2.trans ew);refine cQ (λC=>?_) λhge=>?_
 ·have g:ss[i]?=some (ss[i]' O):=cT _;have hol:out.len=i:=by have:=hr.1;rw[UY]at this;simp at this;omega
  refine(aH.bO (aH.cut A) ew).mf g (aG (Z.hd.rM rfl ⟨H.live,Z.kC,?_⟩));refine hr.push (F:=λb=>y.size<=b) (vs:=l4 (f (ss[i]' O))) (λb d=>by have:=ew.1;omega) rfl rfl (by simp[l4,dN]) O O λs' w' X M S=>?_;have e3:bK y w':=Ext.fresh ew M λb d=>d;refine cP (m:=i+1) O O ⟨⟨i+1,rfl,O,e3,?_⟩,O⟩;have:gO ((ss.take (i+1)).map f)=gO ((ss.take i).map f)++l4 (f (ss[i]' O)):=by
   unfold gO;rw[k8,g,zz,AD];simp only[yq,zR,pE,nG,List.flatMap_nil,kI]
  rw[this];exact S
 ·have Q:i=ss.length:=by omega
  subst Q;rw[mg]at hr;refine hR out w (ss.map f) (P.trans ew) ⟨by simp[u],λb=>?_,?_⟩ (aI.mono hr λb _ d=>by
   show U.size<=b;have d:y.size<=b:=d;omega)
  ·constructor
   ·intro d;obtain⟨x,g,rfl⟩:=zE.1 d;obtain⟨q1,q2⟩:=r x g;rw[q1];exact KO q2
   ·intro d;have g:b.1∈ss:=J.mem_iff.2 (zE.2 ⟨_,d,rfl⟩);refine zE.2 ⟨b.1,g,?_⟩;have:=(r _ g).2;rw[ZU hi.lk d]at this;exact(Option.some.inj this).symm
  ·rw[p8];have C:ss.Pairwise (· < ·):=(D.and V).imp λ⟨G,h2⟩=>by
    have:_≠_:=h2;omega
   refine k6.2 λi j hi hj N=>?_;rw[(r _ (zo hi)).1,(r _ (zo hj)).1];exact k6.1 C i j hi hj N
theorem Fh {s:Sl}{bs:List Bk}(hs:cV s 4 (gO bs) U F){i:Nat}{b:Bk}(hb:bs[i]?=some b){K:Addr->Prop}(hK:∀bb o,(∀(j:Nat) v,(l4 b)[j]?=some v->cell U ⟨bb,o+j,none⟩=some v)->K ⟨bb,o,none⟩):Ix s.a s.len (i:Int) 4 K:=by
 have p:=(cW.1 hb).1;have x:s.len=bs.length:=by have:=hs.1;rw[UY]at this;omega
 obtain⟨bb,o,e,r⟩:=hs.cell (Av hb (j:=0) rfl);rw[e];refine ix O O ?_;rw[add_lit,dE];refine hK bb _ λj v m=>?_;obtain⟨w,u,d,g⟩:=hs.cell (Av hb m);rw[e]at d;cases d;rw[←g];congr 2;omega
end Go.Ar
namespace Go.Proofs
open Go.Shelf
def Tryz.hU:Go.Shelf.Ren:=⟨fun|7=>51|10=>85|n=>n,fun|23=>71|26=>3|3=>95|28=>98|0=>0|27=>97|33=>142|4=>4|n=>n,fun|n=>n⟩
theorem Tryz.kO:Go.Proofs.SlLaysZI.n7 Tryz.prog Tryz.hU:={
 mixed:=by kernel_rfl
 f7:=⟨Tryz.f51.name,by decide,Tryz.func51.trans (congrArg some (by kernel_rfl))⟩
 f10:=⟨Tryz.f85.name,by decide,Tryz.func85.trans (congrArg some (by kernel_rfl))⟩
 t0:=Tryz.underlying0
 a0:=Tryz.isAgg0
 z0:=Tryz.sizeOf0
 v0:=Tryz.zeroValue0
 t4:=Tryz.underlying4
 a4:=Tryz.isAgg4
 z4:=Tryz.sizeOf4
 v4:=Tryz.zeroValue4
 t23:=Tryz.underlying71
 a23:=Tryz.isAgg71
 z23:=Tryz.sizeOf71
 v23:=Tryz.zeroValue71
 t26:=Tryz.underlying3
 a26:=Tryz.isAgg3
 z26:=Tryz.sizeOf3
 v26:=Tryz.zeroValue3
 t27:=Tryz.underlying97
 a27:=Tryz.isAgg97
 z27:=Tryz.sizeOf97
 v27:=Tryz.zeroValue97
 t28:=Tryz.underlying98
 a28:=Tryz.isAgg98
 z28:=Tryz.sizeOf98
 v28:=Tryz.zeroValue98
 t33:=Tryz.underlying142
 a33:=Tryz.isAgg142
 z33:=Tryz.sizeOf142
 v33:=Tryz.zeroValue142}
end Go.Proofs
namespace Go.Proofs
open Go.Vc
set_option maxRecDepth 100000
def XF.h:Hn:=.q .o1 (.q (.q .o5 .aK) (.q (.q .o1 (.k (.loop [(5,.I)] (.q (.q .o4 (.c .l .l)) (.q (.k (.q (.oq 9) .aK)) .o3))))) .aM))
def XF.v (a b:Sl)(c:Hp)(d:aO):Prop:=If (((a.len:Nat):Int) != ((b.len:Nat):Int)) (d false c) (X9 [bN] (λe=>e 0 c) λf (g:Int) h=>If (g<((a.len:Nat):Int)) (Ix a.a a.len g 1 λi=>bM i h λj=>Ix b.a b.len g 1 λk=>bM k h λl=>If (j != l) (d false h) (bL (g+1) λm=>f m h)) (d true h))
theorem XF.o {a b c d}(e:XF.v a b c d):XF.c a b c d:=Wa Tryz.func30 (x:=XF.h) (R0 e)
end Go.Proofs
namespace Go.Ar
open Go Go.Vc Go.Proofs Go.RowKit Go.Maps Go.Sort Go.Shelf
open Go.Vc (bV dB cR)
open Go.Bu (lF Uz KQ Ul Ko wT)
variable {size align:Int}{U σ0 v w w':Hp}{F P Q X T:Rg}{L:dK}{H H' H1:Hw}{held:List Pc}{s0 sp:Sp}{t n:Nat}{g:Th}{gb km fm m:Nat}{x y:Gu}{b:B5}
theorem Cg {k:IntKind}{c:CK}{l:List (Int×c.T)}{r:Nat}{a a':CK}{x0:a.T}{y0:a'.T}{A:a.T->a'.T->Hp->Prop}{body:Int->c.T->a.T->a'.T->Hp->(a.T->a'.T->Hp->Prop)->Prop}(hm:dH U r k c l)(I:List (Int×c.T)->a.T->a'.T->Hp->Prop)
 (h0:∀v,v.size=U.size+1->bK U v->I l x0 y0 v)
 (hend:∀z y v,I [] z y v->A z y v)
 (hstep:∀todo n x z y v v' (J:a.T->a'.T->Hp->Prop),I todo z y v->(n,x)∈todo->Qq v v' U.size->U.size<v.size->(∀z' y' w,w[U.size]?=v'[U.size]?->w[r]?=v'[r]?->I (todo.filter λy=>!(y.1==n)) z' y' w->J z' y' w)->body n x z y v' J) :
 nL k c (some r) U λit v3=>X9 [a,a'] (λI=>I x0 y0 v3) λJ1 z y v4=>nO k c it v4 (A z y v4) λ_ _ v5=>nQ k c it v5 λkey1 val1=>body key1 val1 z y v5 J1:=by
 refine⟨l,hm,λv Q N H=>?_⟩;have M:bK U v:=⟨O,λb m _=>N b m⟩;refine UC (a:=a) (bb:=a') (λz y w=>∃todo e,It w U.size k c (some r) l todo e/\I todo z y w/\U.size<w.size) (λ_ _ w=>wo w U.size r) ⟨l,none,H,h0 v Q M,O⟩ ?_;rintro z y w ⟨todo,e,i,E,B⟩;refine⟨rfl,some r,l,todo,e,i,λG=>?_,λn x D L K g=>?_⟩
 ·subst G;exact hend z y w E
 ·refine⟨rfl,some r,l,_,n,x,g,hstep todo n x z y w L _ E D K B λz' y' u s p j=>?_⟩;have d:=g.bS s p;refine⟨⟨_,_,d,j,?_⟩,?_⟩
  ·obtain⟨R,F,C,P,_⟩:=d;exact(zy.1 P).1
  ·rw[d.num,i.num];exact Ck.2 ⟨(n,x),D,by simp⟩
def lD (ofV:B5->Int)(addr:Int)(b:B5):Prop:=b.1<=addr/\addr<b.1+ofV b
instance (ofV:B5->Int) (addr:Int) (b:B5):Decidable (lD ofV addr b):=by unfold lD;infer_instance
set_option maxRecDepth 16000 in
theorem FI (p:GP σ0 U L H held s0 P gb km fm x)(xi:∀e∈x.kn,e.1=e.2.1/\hO e.2)(addr:Int){ofv:Fv}{ofV:B5->Int}(hov:∀b,hO b->0<=ofV b/\ofV b<=100000)
 (hof:∀(b:B5) (u:Hp) (K:aN),hO b->(∀u',bK u u'->K (ofV b) u')->VW Tryz.prog ofv [.agg #[.int .i64 b.1,.int .i64 b.2.1,.int .i64 b.2.2.1,.int .i64 b.2.2.2.1,.int .i64 b.2.2.2.2]] [.one bN] u K)
 {R:Int->Int->Int->Int->Int->Bool->Hp->Prop}
 (h0:∀(b:B5) w,bK U w->(∀e∈x.kn,¬lD ofV addr e.2)->R b.1 b.2.1 b.2.2.1 b.2.2.2.1 b.2.2.2.2 false w)
 (h1:∀e w,bK U w->e∈x.kn->lD ofV addr e.2->R e.2.1 e.2.2.1 e.2.2.2.1 e.2.2.2.2.1 e.2.2.2.2.2 true w) :
 Y3.c (aW gb) addr ofv U R:=by
 refine Y3.o ?_;unfold Y3.v;refine nw (cs:=eW (0,0,0,0,0)) λv hz e b6=>nw (cs:=eW (0,0,0,0,0)) λv1 hz1 e1 b8=>?_;have e01:=e.trans e1;have p1:=p.fr e01;refine aG (p1.b.rM rfl ?_);refine Cg (a:=.b) (a':=.b) p1.m (λg (d F:Bool) u=>bK U u/\v1.size<u.size/\bY u U.size (eW (0,0,0,0,0))/\(∀e∈g,e∈x.kn)/\∃iH:B5,bY u v.size (eW iH)/\(d=false->∀e∈x.kn,e∈g\/¬lD ofV addr e.2)/\(d=true->∃e∈x.kn,e.2=iH/\lD ofV addr e.2))
  (λu hu X=>⟨e01.trans X,O,X.bT (e1.bT b6 id) id,λe D=>D,(0,0,0,0,0),X.bT b8 id,λ_ e D=>.inl D,λh=>by cases h⟩) ?_ ?_
 ·rintro(d:Bool) (F:Bool) u ⟨X,hlt,hb6,_,iH,C,hf0,hf1⟩;refine C.rI rfl (C.rI rfl (C.rI rfl (C.rI rfl (C.rI rfl ?_))));refine hb6.s1 (by simp[eW]) λv3 o3 b3=>b3.s1 (by simp[eW]) λv4 o4 b4=>b4.s1 (by simp[eW]) λv5 o5 b5=>b5.s1 (by simp[eW]) λv6 o6 b6=>b6.s1 (by simp[eW]) λv7 o7 b7=>?_;have eo:Ext (· = U.size) u v7:=(((o3.ext.trans o4.ext).trans o5.ext).trans o6.ext).trans o7.ext;have e7:bK U v7:=Ext.fresh X eo λi (hi:i=U.size)=>by omega
  have A:bY v7 U.size (eW iH):=b7;refine A.rI rfl (A.rI rfl (A.rI rfl (A.rI rfl (A.rI rfl ?_))));cases d with
  | false=>exact h0 iH v7 e7 λe D=>(hf0 rfl e D).resolve_left aA
  | true=>
   obtain⟨e,D,rfl,M⟩:=hf1 rfl;exact h1 e v7 e7 D M
 ·rintro g k (b:B5) (d:Bool) (F:Bool) u u' J ⟨X,hlt,hb6,E,iH,C,hf0,hf1⟩ N o1 hs1 hJ;have bi:hO b:=(xi _ (E _ N)).2;have ov:=hov b bi;have zu:=X.1;have hz':=o1.1;have hbm:=bi.m;have hbz:=bi.z;have hbb:=bi.base;have hbt:=bi.t;have hbs:=bi.s;have hww:=Qh (n:=b.2.1) O;have eu':bK U u':=Ext.fresh X o1.ext λc (hc:c=v1.size)=>by omega
  have Y:=o1.ext.bT hb6 (show ¬U.size=v1.size by omega);have aa:=o1.ext.bT C (show ¬v.size=v1.size by omega);have hkm:=p.m.lt;refine nw (cs:=eW (0,0,0,0,0)) λv2 hz2 e2 b2=>b2.s1 (by simp[eW]) λv3 o3 b3=>b3.s1 (by simp[eW]) λv4 o4 b4=>b4.s1 (by simp[eW]) λv5 o5 b5=>b5.s1 (by simp[eW]) λv6 o6 b6=>b6.s1 (by simp[eW]) λv7 o7 b7=>?_;have eo:Ext (· = u'.size) v2 v7:=(((o3.ext.trans o4.ext).trans o5.ext).trans o6.ext).trans o7.ext;have e7:bK u' v7:=Ext.fresh e2 eo λi (hi:i=u'.size)=>by omega
  have A:bY v7 u'.size (eW b):=b7;have W:∀{w:Hp},bK u' w->w[v1.size]?=u'[v1.size]?/\w[km]?=u'[km]? := λe=>⟨e.2 _ O id,e.2 _ O id⟩;have S:∀e∈g.filter (λy=>!(y.1==k)),e∈x.kn:=λe D=>E e (zI.1 D).1;have hkb:∀e∈x.kn,e∈g->e∈g.filter (λy=>!(y.1==k))\/e=(k,b):=λe D ht=>by
   by_cases hk:e.1=k
   ·right;have h1:=ZU p.m.nodup (show(e.1,e.2)∈x.kn from D);have h2:=ZU p.m.nodup (E _ N);rw[hk,h2]at h1;exact Prod.ext hk (Option.some.inj h1).symm
   ·exact .inl (zI.2 ⟨ht,by simpa using hk⟩)
  have same:∀w,bK u' w->(d=false->¬lD ofV addr b)->J d F w:=λw ew hnb=>by
   have zw:=ew.1;refine hJ d F w (W ew).1 (W ew).2 ⟨eu'.trans ew,O,ew.bT Y id,S,iH,ew.bT aa id,λB e D=>?_,hf1⟩;rcases hf0 B e D with h|h
   ·rcases hkb e D h with h|rfl
    ·exact .inl h
    ·exact .inr (hnb B)
   ·exact .inr h
  refine yL (λr u2=>bK u' u2/\bY u2 u'.size (eW b)/\r = !decide (lD ofV addr b)) (λr u2 ⟨eu2,G,hr⟩=>?_) λJ1 hJ1=>?_
  ·by_cases M:lD ofV addr b
   ·refine cB (by rw[hr,zJ M];rfl) ?_;have pu:=(p.fr eu').fr eu2;refine G.rI rfl (G.rI rfl (G.rI rfl (G.rI rfl (G.rI rfl (UZ pu b λV e17=>?_)))));have E17:=eu2.trans e17;have j:=e17.bT G id;have h617:=E17.bT Y id;have Z:=E17.bT aa id;refine KJ (λr u3=>u3=V/\(d=false->r=true)) (λr u3 ⟨hu3,hr3⟩=>?_) λJ2 hJ2=>?_
    ·rw[hu3];refine KJ (λr1 u4=>u4=V/\(d=false->r1=true)) (λr1 u4 ⟨hu4,hr4⟩=>?_) λJ3 hJ3=>?_
     ·rw[hu4];refine cO (λh1=>?_) λh1=>same V E17 λB=>by rw[hr4 B]at h1;cases h1
      refine j.rI rfl (j.rI rfl (j.rI rfl (j.rI rfl (j.rI rfl ?_))));refine Z.s1 (by simp[eW]) λw3 q3 c3=>c3.s1 (by simp[eW]) λw4 q4 c4=>c4.s1 (by simp[eW]) λw5 q5 c5=>c5.s1 (by simp[eW]) λw6 q6 c6=>c6.s1 (by simp[eW]) λw7 q7 c7=>?_;have qo:Ext (· = v.size) V w7:=(((q3.ext.trans q4.ext).trans q5.ext).trans q6.ext).trans q7.ext;have c7':bY w7 v.size (eW b):=c7;have z17:=E17.1;have zq:=qo.1;refine hJ true _ w7 ?_ ?_ ⟨Ext.fresh (eu'.trans E17) qo λc (hc:c=v.size)=>O,O,qo.bT h617 (show ¬U.size=v.size by omega),S,b,c7',λh=>(by cases h),λ_=>⟨(k,b),E _ N,rfl,M⟩⟩
      ·rw[qo.2 _ O (show ¬v1.size=v.size by omega)];exact(W E17).1
      ·rw[qo.2 _ O (show ¬km=v.size by omega)];exact(W E17).2
     ·refine cO (λh=>hJ3 _ _ ⟨rfl,λ_=>rfl⟩) λh=>?_;have Q:¬d=false:=λB=>by rw[hr3 B]at h;cases h
      exact bW.intro (cO (λ_=>j.rI rfl (Z.rI rfl (hJ3 _ _ ⟨rfl,λB=>(Q B).elim⟩))) λ_=>hJ3 _ _ ⟨rfl,λB=>(Q B).elim⟩)
    ·refine cO (λh=>hJ2 _ _ ⟨rfl,λ_=>rfl⟩) λh=>?_;have Q:¬d=false:=λB=>by rw[B]at h;cases h
     exact bW.intro (cO (λ_=>hJ2 _ _ ⟨rfl,λB=>(Q B).elim⟩) λ_=>hJ2 _ _ ⟨rfl,λB=>(Q B).elim⟩)
   ·exact cD (by rw[hr,zM M];rfl) (same u2 eu2 λ_=>M)
  ·have hS:∀m,bK v7 m->bY m u'.size (eW b):=λm e=>e.bT A id;refine⟨λm=>bK v7 m,Ext.refl _ _,pd (c:=bN) (y:=b.1) hS rfl (cQ (λh=>hJ1 _ _ ⟨e7,A,?_⟩) λh=>?_)⟩
   ·rw[zM];rfl;rintro⟨h1,_⟩;exact absurd h O
   ·refine pd (c:=bN) (y:=b.1) hS rfl (iL (c:=bN) (y:=b.1) hS rfl (iL (c:=bN) (y:=b.2.1) hS rfl (iL (c:=bN) (y:=b.2.2.1) hS rfl (iL (c:=bN) (y:=b.2.2.2.1) hS rfl (iL (c:=bN) (y:=b.2.2.2.2) hS rfl (hof b v7 _ bi λu3 e3=>⟨e3,ar O O (hJ1 _ _ ⟨e7.trans e3,e3.bT A id,?_⟩)⟩))))));rw[l5,l9,decide_eq_true_iff,decide_eq_false_iff_not];unfold lD;omega
theorem Iy (b:B5)(u:Hp)(K:aN)(bi:hO b)(hK:∀u',bK u u'->K (ZE b.2.1) u'):VW Tryz.prog ⟨44,#[],#[]⟩ [.agg #[.int .i64 b.1,.int .i64 b.2.1,.int .i64 b.2.2.1,.int .i64 b.2.2.2.1,.int .i64 b.2.2.2.2]] [.one bN] u K:=by
 have:=bi.s;refine pV (all := #[.agg #[.int .i64 b.1,.int .i64 b.2.1,.int .i64 b.2.2.1,.int .i64 b.2.2.2.1,.int .i64 b.2.2.2.2]]) (by kernel_rfl) aA ?_;exact Hc b O O hK
theorem OV (b:B5)(u:Hp)(K:aN)(bi:hO b)(hK:∀u',bK u u'->K b.2.1 u'):VW Tryz.prog ⟨57,#[],#[]⟩ [.agg #[.int .i64 b.1,.int .i64 b.2.1,.int .i64 b.2.2.1,.int .i64 b.2.2.2.1,.int .i64 b.2.2.2.2]] [.one bN] u K:=by
 refine pV (all := #[.agg #[.int .i64 b.1,.int .i64 b.2.1,.int .i64 b.2.2.1,.int .i64 b.2.2.2.1,.int .i64 b.2.2.2.2]]) (by kernel_rfl) aA ?_;refine Yx.o ?_;unfold Yx.v;exact nw (cs:=eW b) λv d e a=>a.eY rfl (hK v e)
def uM (addr:Int)(b:B5):Prop:=lD (λb=>ZE b.2.1) addr b
def Ek (addr:Int)(b:B5):Prop:=lD (λb=>b.2.1) addr b
def sg (H:Hw)(x:Gu)(addr e:Int):Prop:=(e=7/\((∀k∈x.kn,¬uM addr k.2)\/addr%8≠0))\/(∃k∈x.kn,uM addr k.2/\addr%8=0/\e=if UA H k.2 then 5 else 0)
set_option maxRecDepth 16000 in
theorem C9 (p:GP σ0 U L H held s0 P gb km fm x)(xi:∀e∈x.kn,e.1=e.2.1/\hO e.2)(addr:Int){R:aN}(hR:∀e w,bK U w->sg H x addr e->R e w):X3.c (aW gb) addr U R:=by
 refine X3.o ?_;unfold X3.v;have B:∀b,hO b->0<=ZE b.2.1/\ZE b.2.1<=100000:=λb A=>by have:=A.s;have:=Qh (n:=b.2.1) O;omega
 have box:∀{w:Hp} {Q G N E M:Int} {K:Addr->Hp->Prop},(∀d,bK w d->bY d w.size (eW (Q,G,N,E,M))->K ⟨w.size,0,none⟩ d) →
  Nw (.cells #[.int .i64 0,.int .i64 0,.int .i64 0,.int .i64 0,.int .i64 0] 95 (0,0)) w λm V=>dX (m.add 0) (.int .i64 Q) V λv3=>dX (m.add 1) (.int .i64 G) v3 λv4=>dX (m.add 2) (.int .i64 N) v4 λW=>dX (m.add 3) (.int .i64 E) W λZ=>dX (m.add 4) (.int .i64 M) Z λv7=>K m v7:=λ{w Q G N E M K} hK=>
  nw (cs:=eW (0,0,0,0,0)) λV hz2 e2 b2=>b2.s1 (by simp[eW]) λv3 o3 b3=>b3.s1 (by simp[eW]) λv4 o4 b4=>b4.s1 (by simp[eW]) λW o5 b5=>b5.s1 (by simp[eW]) λZ o6 b6=>b6.s1 (by simp[eW]) λv7 o7 g=>
   hK v7 (Ext.fresh e2 ((((o3.ext.trans o4.ext).trans o5.ext).trans o6.ext).trans o7.ext) λi (hi:i=w.size)=>O) g
 refine Vn p (cB rfl (FI p xi addr B Iy (λb w D hn=>?_) λk w D S j=>?_))
 ·refine box λd C g=>bW.intro (cD rfl (cD rfl (hR 7 d (D.trans C) (.inl ⟨rfl,.inl hn⟩))))
 ·refine box λd C g=>?_;have A:hO k.2:=(xi _ S).2;have h0:0<=addr:=by have:=j.1;have:=A.z;have:=A.base;omega
  have a:=D.trans C;refine KJ (λr u=>u=d/\r=decide (addr%8≠0)) (λr u ⟨hu,hr⟩=>?_) λJ hJ=>cB rfl (nz aB (hJ _ _ ⟨rfl,?_⟩))
  ·rw[hu];by_cases h8:addr%8≠0
   ·exact cD (by rw[hr];exact zJ h8) (hR 7 d a (.inl ⟨rfl,.inr h8⟩))
   ·refine cB (by rw[hr];exact zM h8) (g.rI rfl (g.rI rfl (g.rI rfl (g.rI rfl (g.rI rfl (UZ (p.fr a) k.2 λY X=>?_))))));have y:addr%8=0:=by omega
    refine cO (λF=>hR 5 Y (a.trans X) (.inr ⟨k,S,j,y,by rw[F];rfl⟩)) λF=>hR 0 Y (a.trans X) (.inr ⟨k,S,j,y,by rw[F];rfl⟩)
  ·rw[Qz h0];by_cases h8:addr%8=0
   ·rw[h8];decide
   ·rw[zJ h8];simpa using h8
theorem LV (p:GP σ0 U L H held s0 P gb km fm x)(xi:∀e∈x.kn,e.1=e.2.1/\hO e.2)(addr:Int)(ha:addr<=9223372036854775807){R:Int->Int->Hp->Prop}(h0:∀e w,e≠0->bK U w->sg H x addr e->R 0 e w)(h1:∀w,bK U w->sg H x addr 0->R (Q3 H.sp addr) (eR H.sp addr) w):YI.c (aW gb) addr U R:=by
 refine YI.o ?_;unfold YI.v;refine C9 p xi addr λe w g j=>cO (λa=>h0 e w (by simpa using a) g j) λd=>?_;have m:e=0:=by simpa using d
 subst m;have i:=p.fr g;exact aG (i.b.rP rfl (EB i.h addr ha λr e2=>h1 r (g.trans e2) j))
theorem BF (p:GP σ0 U L H held s0 P gb km fm x)(gc:Gc σ0)(xi:∀e∈x.kn,e.1=e.2.1/\hO e.2)(addr u:Int)(ha:addr<=9223372036854775807){R:aN}(h0:∀e w,e≠0->bK U w->sg H x addr e->R e w)
 (h1:∀w s0' P',sg H x addr 0->Ext P U w->GP σ0 w L {H with sp:=ZX H.sp addr u} held s0' P' gb km fm x->(∀c,P' c->P c\/U.size<=c)->R (eR H.sp addr) w):Xh.c (aW gb) addr u U R:=by
 refine Xh.o ?_;unfold Xh.v;refine C9 p xi addr λe w a m=>cO (λd=>h0 e w (by simpa using d) a m) λg=>?_;have y:e=0:=by simpa using g
 subst y;have j:=p.fr a;have A:=a.1;exact aG (j.b.rP rfl (j.write gc addr u ha λr s2 P2 e2 z i=>h1 r s2 P2 m ((bK.to a).trans e2) z λc s=>(i c s).imp id λh=>O))
set_option maxRecDepth 16000 in
theorem SJ (p:GP σ0 U L H held s0 P gb km fm x)(xi:∀e∈x.kn,e.1=e.2.1/\hO e.2)(addr:Int){R:Int->Int->Int->Int->Int->Hp->Prop}(h0:∀w,bK U w->(∀k∈x.kn,¬Ek addr k.2)->R 0 0 0 0 8 w)(h1:∀k w,bK U w->k∈x.kn->Ek addr k.2->R k.2.1 k.2.2.1 k.2.2.2.1 k.2.2.2.2.1 0 w):YF.c (aW gb) addr U R:=by
 refine YF.o ?_;unfold YF.v;have B:∀b,hO b->0<=b.2.1/\b.2.1<=100000:=λb bi=>by have:=bi.s;omega
 refine nw (cs:=[.int .i64 0,.int .i64 0,.int .i64 0,.int .i64 0]) λv hz e b4=>?_;have j:∀{w:Hp} {a b c d:Int} {K:Int->Int->Int->Int->Hp->Prop},bK U w->bY w U.size [.int .i64 0,.int .i64 0,.int .i64 0,.int .i64 0]->(∀g,bK U g->K a b c d g) →
  dX (Addr.add ⟨U.size,0,none⟩ 0) (.int .i64 a) w λv7=>dX (Addr.add ⟨U.size,0,none⟩ 1) (.int .i64 b) v7 λv8=>dX (Addr.add ⟨U.size,0,none⟩ 2) (.int .i64 c) v8 λv9=>dX (Addr.add ⟨U.size,0,none⟩ 3) (.int .i64 d) v9 λv10=>
  gA .i64 (Addr.add ⟨U.size,0,none⟩ 0) v10 λr0=>gA .i64 (Addr.add ⟨U.size,0,none⟩ 1) v10 λr1=>gA .i64 (Addr.add ⟨U.size,0,none⟩ 2) v10 λr2=>gA .i64 (Addr.add ⟨U.size,0,none⟩ 3) v10 λr3=>K r0 r1 r2 r3 v10:=λr W M=>
  W.s1 aA λv1 o1 b1=>b1.s1 aA λC o2 D=>D.s1 aA λv3 o3 F=>F.s1 aA λA o4 b4=>b4.rI rfl (b4.rI rfl (b4.rI rfl (b4.rI rfl (M A ((((r.only o1 (.inr (zD _))).only o2 (.inr (zD _))).only o3 (.inr (zD _))).only o4 (.inr (zD _)))))))
 have box:∀{w:Hp} {V N S G Q:Int} {K:Addr->Hp->Prop},(∀z,bK w z->bY z w.size (eW (V,N,S,G,Q))->K ⟨w.size,0,none⟩ z) →
  Nw (.cells #[.int .i64 0,.int .i64 0,.int .i64 0,.int .i64 0,.int .i64 0] 95 (0,0)) w λu C=>dX (u.add 0) (.int .i64 V) C λv3=>dX (u.add 1) (.int .i64 N) v3 λA=>dX (u.add 2) (.int .i64 S) A λY=>dX (u.add 3) (.int .i64 G) Y λZ=>dX (u.add 4) (.int .i64 Q) Z λv7=>K u v7:=λ{w V N S G Q K} M=>
  nw (cs:=eW (0,0,0,0,0)) λC hz2 e2 D=>D.s1 (by simp[eW]) λv3 o3 F=>F.s1 (by simp[eW]) λA o4 b4=>b4.s1 (by simp[eW]) λY o5 b5=>b5.s1 (by simp[eW]) λZ o6 b6=>b6.s1 (by simp[eW]) λv7 o7 m=>
   M v7 (Ext.fresh e2 ((((o3.ext.trans o4.ext).trans o5.ext).trans o6.ext).trans o7.ext) λi (hi:i=w.size)=>O) m
 have X:=p.fr e;refine Vn X (cB rfl (FI X xi addr B OV (λb w r hn=>?_) λk w r hk J=>?_))
 ·refine box λz y m=>cD rfl (j (K:=λa b c d g=>R a b c d 8 g) ((e.trans r).trans y) ((r.trans y).bT b4 id) λg E=>h0 g E hn)
 ·refine box λz y m=>cB rfl (m.eY rfl (m.eY rfl (m.eY rfl (m.eY rfl ?_))));exact j (K:=λa b c d g=>R a b c d 0 g) ((e.trans r).trans y) ((r.trans y).bT b4 id) λg E=>h1 k g E hk J
theorem PR (p:GP σ0 U L H held s0 P gb km fm x){R:Option Addr->Hp->Prop}(hR:R (some ⟨L.p,0,none⟩) U):YD.c (aW gb) U R:=by
 refine YD.o ?_;unfold YD.v;exact Vn p (cB rfl (aG (p.b.rP rfl hR)))
end Go.Ar
namespace Go.Ar
open Go Go.Vc Go.Proofs
open Go.Vc (bV dB cR)
variable {size align:Int}{U σ0 v w w':Hp}{F P Q X T:Rg}{L:dK}{H H' H1:Hw}{held:List Pc}{s0 sp:Sp}{t n:Nat}{g:Th}{gb km fm m:Nat}{x y:Gu}{b:B5}
theorem iB.xq {n m:Nat}{H H1 H2:Hw}{t:Nat}{p:Ph}{a1 e1 a2 e2:Int}(h:iB n H t p H1 a1 e1)(h':iB m H t p H2 a2 e2):H1=H2/\a1=a2/\e1=e2:=by
 induction h generalizing m with
 | done h1 h2=>
  cases h' with
  | done=>exact⟨rfl,rfl,rfl⟩
  | next _ h3 _=>rw[h2]at h3;cases h3
 | next h1 h2 _ ih=>
  cases h' with
  | done _ h3=>rw[h2]at h3;cases h3
  | next _ h3 h4=>rw[h2]at h3;cases h3;exact ih h4
theorem Ug.xq {thread kind size align addr a1 e1 a2 e2:Int}{H1 H2:Hw}(h:Ug H thread kind size align addr H1 a1 e1)(h':Ug H thread kind size align addr H2 a2 e2):H1=H2/\a1=a2/\e1=e2:=by
 rcases h with⟨h1,_,rfl,rfl⟩|⟨t,p,n,h1,h2⟩
 ·rcases h' with⟨g1,_,rfl,rfl⟩|⟨_,_,_,g1,_⟩
  ·rw[h1]at g1;cases g1;exact⟨rfl,rfl,rfl⟩
  ·rw[h1]at g1;cases g1
 ·rcases h' with⟨g1,_⟩|⟨_,_,_,g1,g2⟩
  ·rw[h1]at g1;cases g1
  ·rw[h1]at g1;cases g1;exact h2.xq g2
theorem IY:tF w0 64:=by
 have h:=Dd (xs:=qb 8) (p:=64) (a:=1) (t:=1) (b:=1024) (r:=2) (Hj 8 aB aB) aB;rw[wB]at h;exact h
theorem Uy {a:Option Addr}{thread addr:Int}{R:aN}(h:X0.c a thread addr true U R):WH.c a thread addr U R:=WH.o (by unfold WH.v;exact h)
theorem UU (H:Hw)(thread:Int):V4 H thread=if 0<=thread/\thread<(H.bQ.length:Int)then fC H thread.toNat else none:=by
 unfold V4 fC;split
 ·cases H.bQ[thread.toNat]?<;>rfl
 ·rfl
theorem NN (o:fY H H')(thread:Int):QY H' thread=QY H thread:=by
 unfold QY;rw[UU,UU,o.kp.2.1,o.kp.2.2.1,o.ph]
theorem RY {a b:Sl}{xs ys:List Int}{G:Rg}(ha:cV a 1 (Wo xs) U F)(hb:cV b 1 (Wo ys) U G)(hl:xs.length<=1000000000){R:aO}(hR:R (decide (xs=ys)) U):XF.c a b U R:=by
 refine XF.o ?_;unfold XF.v;have B:a.len=xs.length:=by have:=ha.1;simp[Wo]at this;omega
 have A:b.len=ys.length:=by have:=hb.1;simp[Wo]at this;omega
 rw[B,A,qE];refine cO (λw=>?_) λw=>?_
 ·have d:xs.length≠ys.length:=by simpa using w
  rw[zM λe=>d (by rw[e])]at hR;exact hR
 have J:xs.length=ys.length:=by simpa using w
 refine Z0 (a:=bN) (λ(t:Int) v=>∃i:Nat,t=(i:Int)/\i<=xs.length/\v=U/\xs.take i=ys.take i) (λt _=>xs.length-t.toNat) ⟨0,rfl,O,rfl,rfl⟩ ?_;rintro t v ⟨i,rfl,K,rfl,j⟩;refine cQ (λD=>?_) λH=>?_
 ·have u:i<xs.length:=by omega
  have g:xs[i]?=some xs[i]:=cT u;have p:ys[i]?=some (ys[i]' O):=cT _;generalize xs[i]=x at g;generalize ys[i]' O=y at p;rw[←B,←A];refine ha.mf g (hb.mf p (cO (λd=>?_) λr=>?_))
  ·have C:x≠y:=by simpa using d
   rw[zM]at hR
   ·exact hR
   ·intro e;rw[e,p]at g;exact C (Option.some.inj g).symm
  ·have s:x=y:=by simpa using r
   refine cP (m:=i+1) O O ⟨⟨i+1,rfl,O,rfl,?_⟩,O⟩;rw[k8,k8,j,g,p,s]
 ·have E:i=xs.length:=by omega
  have:xs=ys:=by
   have z:=j;rw[mN O,mN O]at z;exact z
  rw[zJ this]at hR;exact hR
def gm:Hw×Int×Int:=(yD w0 0 0 56 16 0).getD (w0,0,99)
theorem A6:gm.2=(4096,0):=by decide +kernel
theorem wk:Ug w0 0 0 56 16 0 gm.1 4096 0:=by
 have a:=A6;unfold gm at *;cases hw:yD w0 0 0 56 16 0 with
 | none=>rw[hw]at a;exact absurd (congrArg Prod.snd a) aB
 | some r=>
  rw[hw]at a;have:=JG hw;have e1:r.2=(4096,0):=a;rw[e1]at this;exact this
def gB:B5:=(4112,24,4096,64,1)
theorem Bh:Ki gm.1 4096=some 64:=by decide +kernel
def gX:Gu:=nV.fQ gB
def qs:Hw:={gm.1 with sp:=lZ gm.1.sp gB}
def oO:Hw:={qs with sp:=ZX qs.sp 4136 5}
def qk:Hw:={oO with sp:=ZX oO.sp 4136 (-4137)}
def tW:Hw:={qk with sp:=ZX qk.sp 4128 7}
theorem LI:eR qs.sp 4136=0:=by decide +kernel
theorem wa:BA oO gX 4112=0/\yU oO gX 4112=[4136]/\lj oO gX 0 4112 true=10/\eR oO.sp 4136=0:=by decide +kernel
theorem AV:eR qk.sp 4128=0/\UA qk gB=false:=by decide +kernel
theorem F7:lj tW gX 0 4112 true=0/\QY (iD tW gB) 0=0:=by decide +kernel
theorem BL:gX.kn=[(4112,gB)]:=rfl
theorem oD:∀e∈gX.kn,e.1=e.2.1/\hO e.2:=λe a=>by
 rw[BL,zN]at a;subst a;exact⟨rfl,⟨by decide,by decide⟩,⟨by decide,by decide⟩,⟨by decide,by decide,by decide⟩,⟨by decide,by decide⟩,by decide⟩
theorem Ns:lj H (gX.gone 4112) 0 4112 true=if QY H 0≠0 then QY H 0 else 9:=by
 unfold lj;split
 ·rfl
 ·rfl
attribute [local irreducible] w0 gm qs oO qk tW
theorem Ll:qs = {gm.1 with sp:=lZ gm.1.sp gB}:=by unfold qs;rfl
theorem LW:oO = {qs with sp:=ZX qs.sp 4136 5}:=by unfold oO;rfl
theorem PF:qk = {oO with sp:=ZX oO.sp 4136 (-4137)}:=by unfold qk;rfl
theorem FY:tW = {qk with sp:=ZX qk.sp 4128 7}:=by unfold tW;rfl
set_option maxRecDepth 8000 in
theorem FE (gl:Gl U)(gc:Gc U){R:aO}(hR:∀σ',bK U σ'->R true σ'):Xd.c U R:=by
 refine Xd.o ?_;unfold Xd.v;refine MU gl gc.gd λv L N e hsN hNv h0=>cB rfl ?_;have V:=IY;have hc0:w0.cf.aF=64:=by have:=V.pg;omega
 refine EG e h0.cut V.hi V.cf O (λb D=>⟨by have:N<=b:=D.1;omega,D.2⟩) (yN gl gc.gd) λw gb km fm e1 _ p=>?_;refine bW.intro (cB rfl (cB rfl ?_));refine DS p gc ⟨by decide,by decide⟩ 0 24 8 (λw E=>absurd E aB) (λe w ts H' g y P' _ d i=>?_) λb w2 ts H1 x s1 P1 B i o e2 J hP2=>?_
 ·have:=i.xq wk;exact absurd this.2.2 d
 obtain⟨rfl,r,_⟩:=i.xq wk;have D:b=gB:=by
  have hu:=B.u;rw[r,Bh]at hu;have h1:=B.a;rw[r]at h1;have h2:b.2.2.2.1=64:=(Option.some.inj hu).symm;exact Prod.ext (h1.trans aB) (Prod.ext B.s (Prod.ext r (Prod.ext h2 B.n)))
 subst D;have J:GP U w2 {L with ts:=ts} qs x s1 P1 gb km fm gX:=by rw[Ll];exact J
 refine bW.intro (cB aB (bW.intro (cB aB ?_)));refine J.write gc 4136 5 aB λw3 s3 P3 e3 Y _=>?_;rw[LI];rw[←LW]at Y;refine cB aB ?_;refine Fl Y oD 4112 λsl w4 Q e4 hs hQ=>?_;rw[wa.1];rw[wa.2.1]at hs;have p4:=Y.fr e4;refine bW.intro (cB aB (nw (cs:=[.int .i64 4136]) λw5 hz5 e5 b5=>?_));have p5:=p4.fr e5;have S:=aI.bO hs e5;have W:cV ⟨some ⟨w4.size,0,none⟩,1,1⟩ 1 (Wo [4136]) w5 (· = w4.size):=b5.gQ rfl rfl λj hj=>by rw[zH];rfl
 refine RY (bR.gQ S) W aA ?_;refine bW.intro ?_;refine cB (show(!decide (([4136]:List Int)=[4136]))=false by decide) ?_;refine Uy ?_;refine Uw p5 gc oD 0 4112 true (λw6 d e6=>?_) λb w6 ts H1 g y P' e _ h=>by rw[wa.2.2.1]at h;exact absurd h aB
 rw[wa.2.2.1];have p6:=p5.fr e6;refine bW.intro (cB aB ?_);refine p6.write gc 4136 (-4137) aB λw7 s7 P7 e7 p7 _=>?_;rw[wa.2.2.2];rw[←PF]at p7;refine cB aB ?_;have M:uM 4128 gB:=⟨by decide,by decide⟩;have m:¬uM 4136 gB:=λh=>absurd h.2 aB;have wd:∀{H:Hw} {a e:Int},UA H gB=false->sg H gX a e->(uM a gB/\a%8=0->e=0)/\(¬uM a gB->e=7):=λhl i=>by
  rcases i with⟨rfl,h⟩|⟨k,E,hi,h8,rfl⟩
  ·refine⟨λh'=>?_,λ_=>rfl⟩;rcases h with h|h
   ·exact absurd h'.1 (h (4112,gB) (by rw[BL];exact zN.2 rfl))
   ·exact absurd h'.2 h
  ·rw[BL,zN]at E;subst E;simp only[hl];exact⟨λ_=>rfl,λh=>absurd hi h⟩
 refine BF p7 gc oD 4128 7 aB (λe w d _ i=>absurd ((wd AV.2 i).1 ⟨M,by decide⟩) d) λw8 s8 P8 _ e8 K _=>?_;rw[AV.1];rw[←FY]at K;have z:UA tW gB=false:=by rw[FY];exact AV.2
 refine BF K gc oD 4136 7 aB (λe w9 d e9 i=>?_) λw s P i=>absurd ((wd z i).2 m) aB;have C:=(wd z i).2 m;subst C;have p9:=K.fr e9;refine bW.intro (cD rfl (bW.intro (cD rfl ?_)));refine Uy ?_;refine Uw p9 gc oD 0 4112 true (λw d=>absurd F7.1 d) λb w10 ts H1 g y P' e Z _ i o fe e10 A hP10=>?_;have F:b=gB:=by
  have:bV gX.kn 4112=some gB:=rfl;rw[this]at Z;exact(Option.some.inj Z).symm
 subst F;refine bW.intro (cD rfl ?_);have xi:∀e∈(gX.gone 4112).kn,e.1=e.2.1/\hO e.2:=λe C=>by
  rw[show(gX.gone 4112).kn=[]from rfl]at C;simp at C
 have h9:lj H1 (gX.gone 4112) 0 4112 true=9:=by
  rw[Ns,NN o,F7.2];rfl
 refine Uy ?_;refine Uw A gc xi 0 4112 true (λX d G=>?_) λb w ts H1 g y P' e Z h=>by rw[h9]at h;exact absurd h aB
 rw[h9];exact hR X (A.fr G).e
end Go.Ar
namespace Go.Ar
open Go.Vc (bV dB cR)
variable {size align thread addr:Int}{H H' H1:Hw}{held held1:List Pc}{s0 s1 sp:Sp}{x y:Gu}{b:B5}
theorem Cw {α:Type}{l:List (Int×α)}{n:Int}(h:bV l n=none)(v:α):dB l n v=l++[(n,v)]:=by
 unfold dB;rw[zB];intro hx;obtain⟨y,a,e⟩:=kf.1 hx;unfold bV at h;rw[rO,nS]at h;exact h y a e
theorem Ap {α:Type}{l:List (Int×α)}{n:Int}:bV l n=none↔∀e∈l,e.1≠n:=by
 unfold bV;rw[rO,nS];simp only[zT]
theorem Vw {α β:Type}{f:α->β}:∀{l:List α},(l.map f).Nodup->∀{a b:α},a∈l->b∈l->f a=f b->a=b
 | [],_,_,_,h,_,_=>by simp at h
 | z::l,hn,a,b,ha,hb,e=>by
  simp only[zR,zt]at hn;rcases zW.1 ha with h1|h1
  ·rcases zW.1 hb with h2|h2
   ·rw[h1,h2]
   ·exact absurd (zE.2 ⟨b,h2,by rw[←e,h1]⟩) hn.1
  ·rcases zW.1 hb with h2|h2
   ·exact absurd (zE.2 ⟨a,h1,by rw[e,h2]⟩) hn.1
   ·exact Vw hn.2 h1 h2 e
theorem GW (h:HI H held s0){e:Int×Bk}(he:e∈H.live){w:Nat}(h1:e.1<=((8*w:Nat):Int))(h2:((8*w:Nat):Int)<e.1+e.2.2.1):gf H.sp.st (w/32)≠0:=by
 obtain⟨_,p,a,_,_,d,b,_⟩:=h.lv e he;have:=h.mapped a (x:=8*w) O O
 rwa [show 8*w/256=w/32 by omega]at this
structure eT (H:Hw) (x:Gu):Prop where
 live:H.live.map (λe=>(e.1,e.2.2.1))=x.kn.map (λe=>(e.2.2.2.1,e.2.2.2.2.1))
 can:∀e∈x.kn,∀z∈Za e.2,Q3 H.sp z=jz z
 ph:∀j,fC H j=none
 i:∀e∈x.kn,e.1=e.2.1/\hO e.2
 nd:(x.kn.map (·.1)).Nodup
theorem En (hi:HI H held s0){e e':Int×Bk}(he:e∈H.live)(he':e'∈H.live){z:Int}(h1:e.1<=z)(h2:z<e.1+e.2.2.1)(h3:e'.1<=z)(h4:z<e'.1+e'.2.2.1):e=e':=by
 obtain⟨_,p,g,_,_,d,j,_⟩:=hi.lv e he;obtain⟨_,q,a,_,_,b,i,_⟩:=hi.lv e' he';have:p=q:=hi.apart g a (x:=z.toNat) O O O O;subst this;exact Vw hi.lk he he' (by rw[←d,←b])
theorem eT.of (g:eT H x){e:Int×B5}(he:e∈x.kn):∃l∈H.live,l.1=e.2.2.2.1/\l.2.2.1=e.2.2.2.2.1:=by
 have:(e.2.2.2.1,e.2.2.2.2.1)∈H.live.map (λe=>(e.1,e.2.2.1)):=by rw[g.live];exact zE.2 ⟨e,he,rfl⟩
 obtain⟨l,a,h⟩:=zE.1 this;simp only[Prod.mk.injEq]at h;exact⟨l,a,h.1,h.2⟩
theorem eT.rp (g:eT H x)(hi:HI H held s0):(x.kn.map λe=>e.2.2.2.1).Nodup:=by
 have a:=congrArg (List.map Prod.fst) g.live;rw[lh,lh]at a;have b:(x.kn.map λe=>e.2.2.2.1)=H.live.map (·.1):=a.symm;rw[b];exact hi.lk
theorem eT.apart (g:eT H x)(hi:HI H held s0){e e':Int×B5}(he:e∈x.kn)(he':e'∈x.kn){z:Int}(h1:e.2.2.2.1<=z)(h2:z<e.2.2.2.1+e.2.2.2.2.1)(h3:e'.2.2.2.1<=z)(h4:z<e'.2.2.2.1+e'.2.2.2.2.1):e=e':=by
 obtain⟨l,d,b,p⟩:=g.of he;obtain⟨m,a,i,j⟩:=g.of he';have:=En hi d a (z:=z) O O O O;subst this;exact Vw (g.rp hi) he he' (by rw[←b,←i])
theorem eT.usable (g:eT H x)(hi:HI H held s0){e:Int×B5}(he:e∈x.kn):Ki H e.2.2.2.1=some e.2.2.2.2.1:=by
 obtain⟨l,d,b,a⟩:=g.of he;unfold Ki;rw[←b,ZU hi.lk (show(l.1,l.2)∈H.live from d)];exact congrArg some a
theorem eT.lost (g:eT H x)(hi:HI H held s0){e:Int×B5}(he:e∈x.kn):UA H e.2=false:=by
 unfold UA;rw[g.usable hi he];simp
theorem eT.map (g:eT H x)(hi:HI H held s0){e:Int×B5}(he:e∈x.kn){w:Nat}(h1:e.2.2.2.1<=((8*w:Nat):Int))(h2:((8*w:Nat):Int)<e.2.2.2.1+e.2.2.2.2.1):gf H.sp.st (w/32)≠0:=by
 obtain⟨l,a,d,b⟩:=g.of he;exact GW hi a O O
theorem hO.word (bi:hO b){z:Int}(h:z∈Za b\/z∈QA b):(∃w:Nat,z=((8*w:Nat):Int))/\b.2.2.1<=z/\z<b.2.2.1+b.2.2.2.1:=by
 have e:=bi.base;have d:=bi.z;have a:=bi.t;rcases h with h|h
 ·have:=U3 bi h;exact⟨⟨z.toNat/8,O⟩,O,O⟩
 ·have:=AA bi h;exact⟨⟨z.toNat/8,O⟩,O,O⟩
theorem hO.nw (bi:hO b){z:Int}(h:z∈Za b):z∉QA b:=λa=>by
 have d:=U3 bi h;have e:=AA bi a;omega
theorem eT.acc (g:eT H x)(hi:HI H held s0){e:Int×B5}(he:e∈x.kn){z:Int}(h:z∈Za e.2\/z∈QA e.2):eR H.sp z=0:=by
 obtain⟨⟨w,rfl⟩,a,b⟩:=(g.i e he).2.word h;exact Uo.2 (g.map hi he a b)
theorem eT.broken (g:eT H x)(hi:HI H held s0){e:Int×B5}(he:e∈x.kn):Kh H.sp e.2=[]:=by
 unfold Kh;rw[List.filter_eq_nil_iff];intro z hz;unfold j0;rw[g.acc hi he (.inl hz),g.can e he z hz];simp
theorem eT.cG (g:eT H x)(hi:HI H held s0):pC H x=[]:=by
 unfold pC;rw[List.flatMap_eq_nil_iff];intro e he;unfold oZ;rw[g.lost hi he,g.broken hi he];rfl
theorem eT.kH (bi:hO b){z:Int}(h1:b.1<=z)(h2:z<b.1+ZE b.2.1)(h8:z%8=0):z∈QA b:=by
 have:=bi.z;have a:=Qh (n:=b.2.1) (by have:=bi.s;omega);refine zE.2 ⟨((z-b.1)/8).toNat,zg.2 ?_,O⟩;unfold GZ;omega
theorem B8 (hi:HI H held s0)(ks:KS H.sp sp){l:Int×Bk}(hl:l∈H.live){w:Nat}(h1:l.1<=((8*w:Nat):Int))(h2:((8*w:Nat):Int)<l.1+l.2.2.1):Q3 sp ((8*w:Nat):Int)=Q3 H.sp ((8*w:Nat):Int)/\gf sp.st (w/32)≠0:=by
 have a:=GW hi hl h1 h2;have:=ks.k _ a;rw[Gy,Gy,zC a,zC this.1,this.2 w rfl];exact⟨rfl,this.1⟩
def Kept (H:Hw)(x:Gu)(H':Hw)(x':Gu)(e:Int×B5):Prop:=e∈x'.kn/\∀z∈QA e.2,Q3 H'.sp z=Q3 H.sp z
theorem Oi (bi:hO b):∀z∈Za b,0<=z/\z%8=0:=λz a=>by
 have:=U3 bi a;have:=bi.base;omega
theorem Dy (bi:hO b):∀z∈QA b,0<=z/\z%8=0:=λz a=>by
 have:=AA bi a;have:=bi.base;have:=bi.z;omega
theorem eT.fQ (g:eT H x)(hi:HI H held s0)(gr:yn H x size align b H1)(o:fY H H1)(hi1:HI H1 held1 s1) :
 eT {H1 with sp:=lZ H1.sp b} (x.fQ b)/\(x.fQ b).kn=x.kn++[(b.1,b)]/\(∀e∈x.kn,Kept H x {H1 with sp:=lZ H1.sp b} (x.fQ b) e)/\(∀z∈QA b,Q3 (lZ H1.sp b) z=0)/\eR (lZ H1.sp b) b.1=0:=by
 have bi:=gr.bi;obtain⟨C,cl,r,_⟩:bV H.live b.2.2.1=none/\∃cl,H1.live=dB H.live b.2.2.1 (b.2.2.1,(GI H.tb (zA align+ZE size+16) (zA align)).1,cl,XN H1.bX b.2.2.1)/\True:=by
  rcases gr.me with⟨h,_⟩|⟨_,E,_,cl,F,_⟩
  ·exact absurd rfl h
  ·exact⟨E,cl,F,trivial⟩
 have V:=gr.u;unfold Ki at V;rw[r,Ce]at V;have R:(GI H.tb (zA align+ZE size+16) (zA align)).1=b.2.2.2.1:=Option.some.inj V;rw[R]at r;rw[Cw C]at r;have L:∃l∈H1.live,l.1=b.2.2.1/\l.2.2.1=b.2.2.2.1:=⟨(b.2.2.1,(b.2.2.1,b.2.2.2.1,cl,XN H1.bX b.2.2.1)),by rw[r];simp,rfl,rfl⟩;obtain⟨ln,M,W,ln2⟩:=L;have P:∀l∈H.live,l∈H1.live:=λl K=>by rw[r];exact ko _ K
 have J:∀e∈x.kn,∀z,e.2.2.2.1<=z->z<e.2.2.2.1+e.2.2.2.2.1->b.2.2.1<=z->z<b.2.2.1+b.2.2.2.1->False:=λe d z E F h3 h4=>by
  obtain⟨l,K,a1,a2⟩:=g.of d;have:=En hi1 (P l K) M (z:=z) O O O O;subst this;have:=Ap.1 C l K;exact this W
 have aa:=bi.base;have hb2:=bi.z;have Z:=bi.t;have hww:=Qh (n:=b.2.1) (by have:=bi.s;omega);have Q:bV x.kn b.1=none:=Ap.2 λe d h=>by
  have y:=(g.i e d);have q0:=y.1;have q4:=y.2.s;have hbs:=bi.s;have q1:=y.2.base;have q2:=y.2.z;have q3:=y.2.t;have qw:=Qh (n:=e.2.2.1) (by have:=y.2.s;omega);exact J e d b.1 O O O O
 have A:(x.fQ b).kn=x.kn++[(b.1,b)]:=Cw Q b;have p:∀z,(z∈Za b\/z∈QA b)->∃w:Nat,z=((8*w:Nat):Int)/\gf H1.sp.st (w/32)≠0:=λz m=>by
  obtain⟨⟨w,rfl⟩,E,F⟩:=bi.word m;exact⟨w,rfl,GW hi1 M O O⟩
 have G:=Oi bi;have D:=Dy bi;obtain⟨_,X,_⟩:=xU jz (Za b) H1.sp G;have N:∀w:Nat,((8*w:Nat):Int)∉Za b->((8*w:Nat):Int)∉QA b->Q3 (lZ H1.sp b) ((8*w:Nat):Int)=Q3 H1.sp ((8*w:Nat):Int):=λw E F=>by
  unfold lZ;rw[KU D,zB λh=>F h.1,KU G,zB λh=>E h.1]
 have B:∀e∈x.kn,∀z,(z∈Za e.2\/z∈QA e.2)->Q3 (lZ H1.sp b) z=Q3 H.sp z:=λe d z m=>by
  obtain⟨l,K,a1,a2⟩:=g.of d;obtain⟨⟨w,rfl⟩,E,F⟩:=(g.i e d).2.word m;have:=B8 (H:=H) hi o.ks K (w:=w) O O;rw[N w (λm=>by have:=bi.word (.inl m);exact J e d _ E F this.2.1 this.2.2) (λm=>by have:=bi.word (.inr m);exact J e d _ E F this.2.1 this.2.2)];exact this.1
 refine⟨⟨?_,λe d z m=>?_,λj=>(o.ph j).trans (g.ph j),λe d=>?_,?_⟩,A,λe d=>⟨by rw[A];exact ko _ d,λz m=>B e d z (.inr m)⟩,λz m=>?_,?_⟩
 ·show H1.live.map _=_;rw[r,A,zz,zz,g.live];rfl
 ·show Q3 (lZ H1.sp b) z=jz z;rw[A]at d;rcases zK.1 d with d|d
  ·rw[B e d z (.inl m)];exact g.can e d z m
  ·rw[zN]at d;subst d;obtain⟨w,rfl,S⟩:=p z (.inl m);unfold lZ;rw[KU D,zB λh=>bi.nw m h.1,KU G,zC ⟨m,S⟩]
 ·rw[A]at d;rcases zK.1 d with d|d
  ·exact g.i e d
  ·rw[zN]at d;subst d;exact⟨rfl,bi⟩
 ·rw[A,zz,nJ];refine⟨g.nd,by simp,λa ha c Y=>?_⟩;simp only[zR,pE,zN]at Y;subst Y;obtain⟨e,d,rfl⟩:=zE.1 ha;exact Ap.1 Q e d
 ·obtain⟨w,rfl,S⟩:=p z (.inr m);unfold lZ;rw[KU D,zC ⟨m,λh=>S ((X _).1 h)⟩]
 ·have U:b.1∈QA b:=eT.kH bi (uY _) (by have:=bi.s;omega) bi.z.2.2;obtain⟨w,hw,S⟩:=p b.1 (.inr U);obtain⟨_,k2,_⟩:=xU (λ_=>0) (QA b) (j7 H1.sp (Za b) jz) D;rw[hw];unfold lZ;exact Uo.2 λh=>S ((X _).1 ((k2 _).1 h))
theorem eT.same (g:eT H x)(hi:HI H held s0)(o:fY H H')(hl:H'.live=H.live):eT H' x/\∀e∈x.kn,Kept H x H' x e:=by
 have a:∀e∈x.kn,∀z,(z∈Za e.2\/z∈QA e.2)->Q3 H'.sp z=Q3 H.sp z:=λe b z d=>by
  obtain⟨l,hl,r,s⟩:=g.of b;obtain⟨⟨w,rfl⟩,p,m⟩:=(g.i e b).2.word d;exact(B8 (H:=H) hi o.ks hl (w:=w) O O).1
 exact⟨⟨by rw[hl];exact g.live,λe b z d=>by rw[a e b z (.inl d)];exact g.can e b z d,λj=>(o.ph j).trans (g.ph j),g.i,g.nd⟩,λe b=>⟨b,λz d=>a e b z (.inr d)⟩⟩
theorem eT.write (g:eT H x)(hi:HI H held s0){k:Int×B5}(hk:k∈x.kn){z v:Int}(hz:z∈QA k.2):eT {H with sp:=ZX H.sp z v} x/\(∀e∈x.kn,e≠k->Kept H x {H with sp:=ZX H.sp z v} x e)/\(∀u∈QA k.2,Q3 (ZX H.sp z v) u=if u=z then v else Q3 H.sp u):=by
 obtain⟨⟨d,rfl⟩,C,A⟩:=(g.i k hk).2.word (.inr hz);have r:=g.map hi hk C A;have m:∀w:Nat,Q3 (ZX H.sp ((8*d:Nat):Int) v) ((8*w:Nat):Int)=if w=d/\gf H.sp.st (w/32)≠0 then v else Q3 H.sp ((8*w:Nat):Int):=λw=>by
  have:=KU (f:=λ_=>v) (l:=[((8*d:Nat):Int)]) (sp:=H.sp) (λz hz=>by rw[zN]at hz;subst hz;omega) w;have e:j7 H.sp [((8*d:Nat):Int)] (λ_=>v)=ZX H.sp ((8*d:Nat):Int) v:=rfl;rw[e]at this;rw[this];by_cases hw:w=d
  ·subst hw;by_cases hm:gf H.sp.st (w/32)≠0
   ·rw[zC ⟨zN.2 rfl,hm⟩,zC ⟨rfl,hm⟩]
   ·rw[zB λh=>hm h.2,zB λh=>hm h.2]
  ·rw[zB λh=>hw (by have:=zN.1 h.1;omega),zB λh=>hw h.1]
 have j:∀e∈x.kn,∀u,(u∈Za e.2\/u∈QA e.2)->(e=k->u∈Za e.2)->Q3 (ZX H.sp ((8*d:Nat):Int) v) u=Q3 H.sp u:=λe a u b s=>by
  obtain⟨⟨w,rfl⟩,B,y⟩:=(g.i e a).2.word b;rw[m,zB];rintro⟨rfl,_⟩;have:=g.apart hi a hk B y C A;subst this;exact(g.i e a).2.nw (s rfl) hz
 refine⟨⟨g.live,λe a u b=>?_,g.ph,g.i,g.nd⟩,λe a p=>⟨a,λu b=>j e a u (.inr b) λh=>absurd h p⟩,λu b=>?_⟩
 ·show Q3 (ZX H.sp ((8*d:Nat):Int) v) u=jz u;rw[j e a u (.inl b) λ_=>b];exact g.can e a u b
 ·obtain⟨⟨w,rfl⟩,B,y⟩:=(g.i k hk).2.word (.inr b);rw[m];by_cases hw:w=d
  ·subst hw;rw[zC ⟨rfl,r⟩,zC rfl]
  ·rw[zB λh=>hw h.1,zB λh=>hw O]
theorem eT.free (g:eT H x)(hi:HI H held s0){b:B5}(hk:bV x.kn addr=some b){e:Int}(hw:Ug (iD H b) thread 1 0 0 b.2.2.1 H1 0 e)(o:fY (iD H b) H1)(fe:oH (iD H b) thread b.2.2.1 H1 e)(hrd:QY H thread=0)(hcf:H.cf.threads=H.bQ.length) :
 eT H1 (x.gone addr)/\∀k∈x.kn,k.1≠addr->Kept H x H1 (x.gone addr) k:=by
 have a:(addr,b)∈x.kn:=KO hk;have B:=g.i _ a;have M:addr=b.1:=B.1;have K:hO b:=B.2;obtain⟨l,R,L,S⟩:=g.of a;simp only at L S;have F:(iD H b).live=H.live:=rfl;have J:bV H.live b.2.2.1=some l.2:=by rw[←L];exact ZU hi.lk (show(l.1,l.2)∈H.live from R)
 have r:H1.live=cR H.live b.2.2.1:=by
  rcases fe with⟨_,_,h⟩|⟨_,h,_⟩|⟨_,_,_,_,h⟩
  ·exfalso;unfold QY at hrd;rw[UU]at hrd;split at hrd
   ·cases hrd
   ·rename_i hth;have u:=g.ph thread.toNat;unfold Kg at h;have C:thread.toNat<H.bQ.length:=by omega
    rw[zC (show 0<=thread/\thread<((iD H b).bQ.length:Int)from⟨O,by show thread<(H.bQ.length:Int);omega⟩)]at h;have U:(iD H b).bQ[thread.toNat]?=some H.bQ[thread.toNat]:=cT C;rw[U]at h;simp only at h;unfold fC at u;rw[cT C]at u;rw[zC (show H.bQ[thread.toNat].ph=none from u)]at h;unfold iG at h;rw[zB aB,zC rfl]at h;cases h
  ·rw[F,J]at h;cases h
  ·exact h
 have G:=Dy K;have s:∃s1,HI (iD H b) held s1:=HI.j7 _ _ hi;obtain⟨s1,s⟩:=s;have d:∀k∈x.kn,k.1≠addr->∀z,(z∈Za k.2\/z∈QA k.2)->Q3 H1.sp z=Q3 H.sp z:=λk hk m z A=>by
  obtain⟨P,E,V,W⟩:=g.of hk;obtain⟨⟨w,rfl⟩,N,Q⟩:=(g.i k hk).2.word A;rw[(B8 s o.ks (l:=P) E (w:=w) O O).1];show Q3 (j7 H.sp (QA b) λ_=>Er) _=_;rw[KU G,zB];rintro⟨hw,_⟩;have D:=K.word (.inr hw);have:=g.apart hi hk a N Q D.2.1 D.2.2;subst this;exact m rfl
 have p:∀k,k∈(x.gone addr).kn↔k∈x.kn/\k.1≠addr:=λk=>by
  show k∈cR x.kn addr↔_;unfold cR;rw[zI];simp
 refine⟨⟨?_,λk hk z A=>?_,λj=>(o.ph j).trans (g.ph j),λk hk=>g.i k ((p k).1 hk).1,?_⟩,λk hk m=>⟨(p k).2 ⟨hk,m⟩,λz A=>d k hk m z (.inr A)⟩⟩
 ·rw[r];show(cR H.live b.2.2.1).map _=(cR x.kn addr).map _;unfold cR;have e1:(H.live.filter λy=>!(y.1==b.2.2.1)).map (λe=>(e.1,e.2.2.1))=(H.live.map λe=>(e.1,e.2.2.1)).filter λq=>!(q.1==b.2.2.1):=by rw[vV];rfl
  rw[e1,g.live,vV]
  congr 1
  apply wH;intro k hk;simp only[Function.comp]
  congr 1
  rw[l5,zT,zT];constructor
  ·intro h;have:=Vw (g.rp hi) hk a h;rw[this]
  ·intro h;have:=Vw g.nd hk a h;rw[this]
 ·have:=(p k).1 hk;rw[d k this.1 this.2 z (.inl A)];exact g.can k this.1 z A
 ·show((cR x.kn addr).map _).Nodup;exact g.nd.sublist (List.filter_sublist.map _)
end Go.Ar
namespace Go.Ar
open Go Go.Vc Go.Proofs
open Go.Vc (bV dB cR)
variable {size align:Int}{U σ0 v w w':Hp}{F P Q X T:Rg}{L:dK}{H H' H1:Hw}{held:List Pc}{s0 sp:Sp}{t n:Nat}{g:Th}{gb km fm m xb:Nat}{x y:Gu}{b:B5}
def uE (gb:Nat)(addrs ls:Sl):List Value:=[.pointer (some ⟨gb,0,none⟩),.slice addrs.a addrs.len addrs.cap,.slice ls.a ls.len ls.cap]
def qR (P:Rg)(gb km fm xb:Nat)(Qa Ql:Rg):Rg:=λb=>Mg P gb km fm b\/b=xb\/Qa b\/Ql b
structure kN (σ0 U:Hp) (xb:Nat) (L:dK) (H:Hw) (held:List Pc) (s0:Sp) (P:Rg) (gb km fm:Nat) (x:Gu) (Qa Ql:Rg) (addrs:Sl) (ad:List Int) (ls:Sl) (la:List T3):Prop where
 p:GP σ0 U L H held s0 P gb km fm x
 b:bY U xb (uE gb addrs ls)
 ra:bR addrs 1 (Wo ad) U Qa
 rl:bR ls 3 (j9 la) U Ql
 sO:σ0.size<=xb/\¬Mg P gb km fm xb/\¬Qa xb/\¬Ql xb
 qa:∀b,Qa b->σ0.size<=b/\b<U.size/\¬Mg P gb km fm b
 ql:∀b,Ql b->σ0.size<=b/\b<U.size/\¬Mg P gb km fm b
 qq:∀b,Qa b->¬Ql b
variable {Qa Ql:Rg}{addrs ls:Sl}{ad:List Int}{la:List T3}
theorem kN.fr (o:kN σ0 U xb L H held s0 P gb km fm x Qa Ql addrs ad ls la)(e:bK U w):kN σ0 w xb L H held s0 P gb km fm x Qa Ql addrs ad ls la:=
 ⟨o.p.fr e,e.bT o.b id,aI.bO o.ra e,aI.bO o.rl e,o.sO,λb a=>by have h:=o.qa b a;have:=e.1;exact⟨h.1,O,h.2.2⟩,λb a=>by have h:=o.ql b a;have:=e.1;exact⟨h.1,O,h.2.2⟩,o.qq⟩
theorem sy {P':Rg}(hg:gb<n/\km<n/\fm<n)(hP:∀b,P' b->P b\/n<=b):∀b,Mg P' gb km fm b->Mg P gb km fm b\/n<=b:=by
 rintro b (h|h)
 ·exact(hP b h).imp .inl id
 ·exact .inl (.inr h)
theorem kN.fA (o:kN σ0 U xb L H held s0 P gb km fm x Qa Ql addrs ad ls la){L':dK}{held':List Pc}{s0':Sp}{P':Rg}(e:Ext (Mg P gb km fm) U w)(p':GP σ0 w L' H' held' s0' P' gb km fm y)(hP:∀b,P' b->P b\/U.size<=b) :
 kN σ0 w xb L' H' held' s0' P' gb km fm y Qa Ql addrs ad ls la:=by
 have D:=e.1;have g:=o.b.lt;obtain⟨u,r,A,B⟩:=o.sO;have j:∀b,b<U.size->¬Mg P gb km fm b->¬Mg P' gb km fm b:=λb C s z=>by
  rcases sy ⟨o.p.b.lt,o.p.m.lt,o.p.f.lt⟩ hP b z with h4|h4
  ·exact s h4
  ·omega
 exact⟨p',e.bT o.b r,aI.bS o.ra e λb _ d a=>(o.qa b d).2.2 a,aI.bS o.rl e λb _ d a=>(o.ql b d).2.2 a,⟨u,j _ g r,A,B⟩,λb i=>by have h:=o.qa b i;exact⟨h.1,O,j b h.2.1 h.2.2⟩,λb i=>by have h:=o.ql b i;exact⟨h.1,O,j b h.2.1 h.2.2⟩,o.qq⟩
theorem Gh {c:Nat}(h:¬Mg P gb km fm c):¬P c/\c≠gb/\c≠km/\c≠fm:=⟨λa=>h (.inl a),λe=>h (.inr (.inl e)),λe=>h (.inr (.inr (.inl e))),λe=>h (.inr (.inr (.inr e)))⟩
theorem wQ (p:GP σ0 U L H held s0 P gb km fm x){c:Nat}(h:Mg P gb km fm c):c<U.size:=by
 rcases h with h|rfl|rfl|rfl
 ·exact(p.pP c h).2
 ·exact p.b.lt
 ·exact p.m.lt
 ·exact p.f.lt
theorem kN.cC (o:kN σ0 U xb L H held s0 P gb km fm x Qa Ql addrs ad ls la){s':Sl}{ad':List Int}(e:Ext Qa U w)(hr:bR s' 1 (Wo ad') w λb=>Qa b\/U.size<=b/\b<w.size){K:aP}
 (hK:∀u,Ext (· = xb) w u->kN σ0 u xb L H held s0 P gb km fm x (λb=>Qa b\/U.size<=b/\b<w.size) Ql s' ad' ls la->K u):dX (Addr.add ⟨xb,0,none⟩ 1) (.slice s'.a s'.len s'.cap) w K:=by
 have J:=e.1;have F:=o.b.lt;obtain⟨z,A,s,B⟩:=o.sO;have C:=o.p.out e λb _ d=>by have h:=o.qa b d;have i:=Gh h.2.2;exact⟨i.1,i.2.1,i.2.2.1,i.2.2.2,h.1⟩
 have r:=aI.bS o.rl e λb _ m G=>o.qq b G m;refine(e.bT o.b s).s1 (by simp[uE]) λu y b=>?_;have j:=y.ext;have D:=y.1;have i:=Gh A;refine hK u j ⟨C.out j λb _ (d:b=xb)=>by subst d;exact⟨i.1,i.2.1,i.2.2.1,i.2.2.2,z⟩,b,aI.bS hr j λb _ g (d:b=xb)=>?_,aI.bS r j λb _ g (d:b=xb)=>B (d▸g),⟨z,A,?_,B⟩,λb d=>?_,λb d=>by have h:=o.ql b d;exact⟨h.1,O,h.2.2⟩,λb d m=>?_⟩
 ·subst d;rcases g with g|g
  ·exact s g
  ·omega
 ·rintro(g|g)
  ·exact s g
  ·omega
 ·rcases d with d|d
  ·have h:=o.qa b d;exact⟨h.1,O,h.2.2⟩
  ·have:=o.p.e.1;exact⟨O,O,λE=>by have:=wQ o.p E;omega⟩
 ·rcases d with d|d
  ·exact o.qq b d m
  ·have:=(o.ql b m).2.1;omega
theorem kN.gP (o:kN σ0 U xb L H held s0 P gb km fm x Qa Ql addrs ad ls la){s':Sl}{la':List T3}{Ql':Rg}(e:Ext Ql U w)(hr:bR s' 3 (j9 la') w Ql')(hQ:∀b,Ql' b->Ql b\/U.size<=b/\b<w.size){K:aP}
 (hK:∀u,Ext (· = xb) w u->kN σ0 u xb L H held s0 P gb km fm x Qa Ql' addrs ad s' la'->K u):dX (Addr.add ⟨xb,0,none⟩ 2) (.slice s'.a s'.len s'.cap) w K:=by
 have M:=e.1;have G:=o.b.lt;obtain⟨z,B,A,C⟩:=o.sO;have D:=o.p.out e λb _ d=>by have h:=o.ql b d;have g:=Gh h.2.2;exact⟨g.1,g.2.1,g.2.2.1,g.2.2.2,h.1⟩
 have r:=aI.bS o.ra e λb _ J i=>o.qq b J i;refine(e.bT o.b C).s1 (by simp[uE]) λu s b=>?_;have j:=s.ext;have E:=s.1;have g:=Gh B;have y:¬Ql' xb:=λh=>by
  rcases hQ xb h with h|h
  ·exact C h
  ·omega
 refine hK u j ⟨D.out j λb _ (d:b=xb)=>by subst d;exact⟨g.1,g.2.1,g.2.2.1,g.2.2.2,z⟩,b,aI.bS r j λb _ m (d:b=xb)=>A (d▸m),aI.bS hr j λb _ m (d:b=xb)=>y (d▸m),⟨z,B,A,y⟩,λb d=>by have h:=o.qa b d;exact⟨h.1,O,h.2.2⟩,λb d=>?_,λb d i=>?_⟩
 ·rcases hQ b d with d|d
  ·have h:=o.ql b d;exact⟨h.1,O,h.2.2⟩
  ·have:=o.p.e.1;exact⟨O,O,λF=>by have:=wQ o.p F;omega⟩
 ·rcases hQ b i with i|i
  ·exact o.qq b d i
  ·have:=(o.qa b d).2.1;omega
theorem CL {s:Sl}{l:List T3}(hs:cV s 3 (j9 l) U F){i:Nat}{r:T3}(hb:l[i]?=some r){K:Addr->Prop}(hK:∀bb o,(∀(j:Nat) v,(v3 r)[j]?=some v->cell U ⟨bb,o+j,none⟩=some v)->K ⟨bb,o,none⟩):Ix s.a s.len (i:Int) 3 K:=by
 have p:=(cW.1 hb).1;have y:s.len=l.length:=by have:=hs.1;rw[Ub]at this;omega
 obtain⟨b,o,e,_⟩:=hs.cell (j:=i*3+0) (v:=.int .i64 r.1) ((HJ hb O).trans rfl);rw[e];refine ix O O ?_;rw[add_lit];refine hK b _ λj v g=>?_;have u:j<3:=(cW.1 g).1;obtain⟨x,w,d,m⟩:=hs.cell ((HJ hb u).trans g);rw[e]at d;cases d;rw[show o+(i:Int).toNat*3+j=o+(i*3+j) by omega];exact m
theorem RO {S:aP}(hr:bR ls 3 (j9 la) U Q)(hl:la.length<=100000)(k:T3)(hS0:∀u,bK U u->S u){e t:Nat}{K:Sl->Hp->Prop}
 (hK:∀s' w,Ext Q U w->bR s' 3 (j9 (la++[k])) w (λb=>Q b\/U.size<=b/\b<w.size)->S w/\K s' w) :
 Nw (.cells #[.int .i64 k.1,.int .i64 k.2.1,.int .i64 k.2.2] t (0,0)) U λn v=>And (S v)<|App ls 3 24 e [.int .i64 0,.int .i64 0,.int .i64 0] ⟨some n,1,1⟩ v λs' w=>And (S w)<|K s' w:=by
 have y:ls.len=la.length:=by have:=hr.1;rw[Ub]at this;omega
 refine nw (cs:=v3 k) λv i e1 a=>⟨hS0 v e1,?_⟩;have g:=aI.bO hr e1;refine g.app (ys:=v3 k) rfl (by simp[v3]) ?_ (by simp[v3,dN]) ?_ ?_ mO λs' h' m p d=>?_
 ·intro j u hu;rw[add_lit,zH,a.cell];exact hu
 ·simp only;omega
 ·simp only;omega
 ·have r:Ext Q U h':=e1.to.trans p;refine hK s' h' r ?_;rw[Bj];refine aI.mono (aI.cut d) λb x s=>?_;rcases s.1 with h1|h1
  ·exact .inl h1
  ·exact .inr ⟨O,x⟩
inductive lP (H:Hw) (x:Gu) (d:fP) (a:Int):Hw->Gu->Int->Option Int->Bool->Prop where
 | same (e:Int):(e=0->d.kd≠20/\d.kd≠21/\d.kd≠22)->lP H x d a H x e none false
 | full {H':Hw} {e:Int}:d.kd=20->m7 d.a d.b=true->e≠0->Ug H d.th 0 (zA d.b+ZE d.a+16) (zA d.b) 0 H' 0 e->fY H H'->H'.live=H.live->lP H x d a H' x e none false
 | fQ {b:B5} {H1:Hw}:d.kd=20->yn H x d.a d.b b H1->Ug H d.th 0 (zA d.b+ZE d.a+16) (zA d.b) 0 H1 b.2.2.1 0->fY H H1->lP H x d a {H1 with sp:=lZ H1.sp b} (x.fQ b) 0 (some b.1) false
 | pc {b:B5} {H1:Hw} {e:Int}:(d.kd=21\/d.kd=22)->bV x.kn a=some b->lj H x d.th a true=0->Ug (iD H b) d.th 1 0 0 b.2.2.1 H1 0 e->fY (iD H b) H1->oH (iD H b) d.th b.2.2.1 H1 e->lP H x d a H1 (x.gone a) 0 none true
 | wrote:d.kd=26->sg H x a 0->lP H x d a {H with sp:=ZX H.sp a d.va} x (eR H.sp a) none false
def DQ (d:fP)(add:Option Int)(del:Bool)(a:Int)(la:List T3):List T3:=match add with
 | some b=>la++[(b,d.a,d.b)]
 | none=>if del then la.filter λq=>!(q.1==a)else la
theorem xV {P' Qa' Ql':Rg}(hP:∀b,Mg P' gb km fm b->Mg P gb km fm b\/n<=b)(hA:∀b,Qa' b->Qa b\/n<=b)(hL:∀b,Ql' b->Ql b\/n<=b):∀b,qR P' gb km fm xb Qa' Ql' b->qR P gb km fm xb Qa Ql b\/n<=b:=by
 rintro b (h|h|h|h)
 ·exact(hP b h).imp .inl id
 ·exact .inl (.inr (.inl h))
 ·exact(hA b h).imp (λh=>.inr (.inr (.inl h))) id
 ·exact(hL b h).imp (λh=>.inr (.inr (.inr h))) id
set_option maxRecDepth 16000 in
theorem MS (o:kN σ0 U xb L H held s0 P gb km fm x Qa Ql addrs ad ls la)(gc:Gc σ0)(xi:∀e∈x.kn,e.1=e.2.1/\hO e.2)(x0:0<=x.no/\x.no<=100000)(hsw:(pC H x).length<=1000000)(hal:ad.length<=100000)(hll:la.length<=100000)(d:fP)(di:lS d){R:aN}
 (hR:∀e w L' H' held' s0' P' x' Qa' Ql' addrs' ls' add del,kN σ0 w xb L' H' held' s0' P' gb km fm x' Qa' Ql' addrs' (ad++add.toList) ls' (DQ d add del (ru ad d) la)->L'.p=L.p->lP H x d (ru ad d) H' x' e add del->Qv H' H->Ext (qR P gb km fm xb Qa Ql) U w/\(∀b,qR P' gb km fm xb Qa' Ql' b->qR P gb km fm xb Qa Ql b\/U.size<=b)->R e w) :
 Xg.c (aW xb) d.kd d.th d.a d.b d.of d.pl d.va d.s U R:=by
 refine Xg.o ?_;unfold Xg.v;have tM:∀{u u':Hp},Ext (Mg P gb km fm) u u'->Ext (qR P gb km fm xb Qa Ql) u u':=λe=>e.sub λb g=>.inl g;have tX:∀{u u':Hp},Ext (· = xb) u u'->Ext (qR P gb km fm xb Qa Ql) u u':=λe=>e.sub λb g=>.inr (.inl g);have tA:∀{u u':Hp},Ext Qa u u'->Ext (qR P gb km fm xb Qa Ql) u u':=λe=>e.sub λb g=>.inr (.inr (.inl g));have tL:∀{u u':Hp},Ext Ql u u'->Ext (qR P gb km fm xb Qa Ql) u u':=λe=>e.sub λb g=>.inr (.inr (.inr g));have hxb:=o.b.lt;have h00:=o.p.e.1;have G:gb<U.size/\km<U.size/\fm<U.size:=⟨o.p.b.lt,o.p.m.lt,o.p.f.lt⟩;refine nw (cs:=qO d) λv hz e g=>aG ((o.fr e).b.rS rfl (g.rI rfl (g.rI rfl (g.rI rfl (g.rI rfl (g.rI rfl (g.rI rfl (g.rI rfl (g.rT rfl ?_)))))))));have o1:=o.fr e;refine MY (bR.gQ o1.ra) d λv1 e1=>?_;have o2:=o1.fr e1;have D:=e.trans e1;have zv:U.size<=v1.size:=D.1;have C:=e1.bT g id;have hat:=Mx (ad:=ad) di;generalize hx:ru ad d=ax at hat hR;have hnM:¬Mg P gb km fm U.size:=λN=>by have:=wQ o.p N;omega
 have same:∀e w,(e=0->d.kd≠20/\d.kd≠21/\d.kd≠22)->bK v1 w->R e w:=λe w he z=>by
  have oo:=o.fr (D.trans z);refine hR e w L H held s0 P x Qa Ql addrs ls none false ?_ rfl (.same e he) (Qv.refl _) ⟨bK.to (D.trans z),λ_=>.inl⟩;rw[show ad++(none:Option Int).toList=ad by simp];exact oo
 refine C.rI rfl (cO (λhk=>?_) λhk0=>?_)
 ·have B:d.kd=20:=by simpa using hk
  refine⟨λm=>bK v1 m,Ext.refl _ _,aG (iL (c:=.p) (y:=some ⟨gb,0,none⟩) (λm e=>e.bT o2.b id) rfl (iL (c:=bN) (y:=d.th) (λm e=>e.bT C id) rfl (iL (c:=bN) (y:=d.a) (λm e=>e.bT C id) rfl (iL (c:=bN) (y:=d.b) (λm e=>e.bT C id) rfl ?_))))⟩;refine DS o2.p gc x0 d.th d.a d.b (λw hgk z=>?_) (λe w ts H' held' s0' P' hgk A hw op V E p3 j=>?_) λb w ts H1 held' s0' P' gr hw op E p3 j=>?_
  ·exact cB aB (same 1 w (λh=>by cases h) z)
  ·refine cB (by simpa using A) ?_;have o3:=o2.fA (E.sub λc Z=>.inl Z) p3 j;refine hR e w {L with ts:=ts} H' held' s0' P' x Qa Ql addrs ls none false ?_ rfl (.full B hgk A hw op V) op.kp ⟨(bK.to D).trans (tM (E.sub λc Z=>.inl Z)),xV (sy G λb h=>(j b h).imp id λh=>zh zv h) (λ_=>.inl) (λ_=>.inl)⟩;rw[show ad++(none:Option Int).toList=ad by simp];exact o3
  ·refine cD rfl ?_;have o3:=o2.fA E p3 j;have hb3:=E.bT C hnM;refine aG (o3.b.rS rfl (Fs o3.ra O b.1 λs' u1 e4 hr4=>aG (o3.cC e4 hr4 λu2 e5 o5=>?_)));have X:bY u2 U.size (qO d):=e5.bT (e4.bT hb3 λhq=>by have:=(o.qa _ hq).2.1;omega) λ(hx:U.size=xb)=>by omega
   refine⟨λm=>bY m xb (uE gb s' ls)/\bY m U.size (qO d),⟨o5.b,X⟩,aG (iL (c:=.s) (y:=ls) (λm N=>N.1) rfl (iL (c:=bN) (y:=d.a) (λm N=>N.2) rfl (iL (c:=bN) (y:=d.b) (λm N=>N.2) rfl ?_)))⟩;refine RO o5.rl hll (b.1,d.a,d.b) (λu S=>⟨S.bT o5.b id,S.bT X id⟩) λs2 u3 e6 hr6=>⟨⟨e6.bT o5.b o5.sO.2.2.2,e6.bT X λhq=>?_⟩,aG (o5.gP e6 hr6 (λ_ h=>h) λu4 e7 o7=>?_)⟩
   ·have:=(o.ql _ hq).2.1;omega
   have z3:=E.1;have z4:=e4.1;have z5:=e5.1;exact hR 0 u4 _ _ held' s0' P' _ _ _ s' s2 (some b.1) false o7 rfl (.fQ B gr hw op) op.kp ⟨((((((bK.to D).trans (tM E)).trans (tA e4)).trans (tX e5)).trans (tL e6)).trans (tX e7)),xV (sy G λb h=>(j b h).imp id λh=>zh zv h) (λb h=>h.imp id λh=>zh (zh zv z3) h.1) (λb h=>h.imp id λh=>zh (zh (zh (zh zv z3) z4) z5) h.1)⟩
 have k0:d.kd≠20:=by simpa using hk0
 have jn:(d.kd=21\/d.kd=22)\/¬(d.kd=21\/d.kd=22):=Decidable.em _;refine yL (λr u=>u=v1/\r=decide (d.kd=21\/d.kd=22)) (λr u ⟨hu,hr⟩=>?_) λJ hJ=>cO (λh=>hJ _ _ ⟨rfl,?_⟩) λh=>hJ _ _ ⟨rfl,?_⟩
 ·rw[hu];rcases jn with B|B
  ·refine cD (by rw[hr];exact zJ B) (aG (o2.b.rP rfl (C.rI rfl (Uy (Uw o2.p gc xi d.th ax true (λw A z=>?_) λb w ts H1 held' s0' P' e N hf hw op fe E p3 j=>?_)))))
   ·exact cB (by simpa using A) (same _ w (λh=>absurd h A) z)
   ·refine cD rfl ?_;have o3:=o2.fA E p3 j;have hb3:=E.bT C hnM;have hll3:ls.len=la.length:=by have:=o3.rl.1;rw[Ub]at this;omega
    have z3:=E.1;refine UC (a:=.s) (bb:=bN) (λ(l:Sl) (i:Int) u=>∃k:Nat,i=k/\k<=la.length/\Ext (λb=>w.size<=b) w u/\bR l 3 (j9 ((la.take k).filter λq=>!(q.1==ax))) u (λb=>w.size<=b)) (λ_ i _=>la.length-i.toNat) ⟨0,rfl,O,Ext.refl _ _,⟨rfl,.inl ⟨rfl,rfl⟩⟩⟩ ?_;rintro(l:Sl) (i:Int) u ⟨k,rfl,hk,S,V⟩;have Y:bK w u:=⟨S.1,λb g _=>S.2 b g O⟩;have ou:=o3.fr Y;have hlk:l.len<=k:=by
     have h1:((la.take k).filter λq:T3=>!(q.1==ax)).length*3=l.len*3:=by have:=V.1;rw[Ub]at this;exact this
     have h2:=qX (λq:T3=>!(q.1==ax)) (la.take k);rw[zZ,pB hk]at h2;omega
    refine aG (ou.b.rS rfl (cQ (λhlt=>?_) λhge=>?_))
    ·have hk':k<la.length:=by simp only at hlt;omega
     have hg:la[k]?=some la[k]:=cT _;generalize la[k]=q at hg;have htk:la.take (k+1)=la.take k++[q]:=by rw[k8,hg];rfl
     refine aG (ou.b.rS rfl (CL (bR.gQ ou.rl) hg λbb o' K=>fR (K 0 _ rfl) (cO (λA=>?_) λheq=>?_)))
     ·have A:¬q.1=ax:=by simpa using A
      refine aG (ou.b.rS rfl (CL (bR.gQ ou.rl) hg λbb o' K=>fR (K 0 _ rfl) (fR (K 1 _ rfl) (fR (K 2 _ rfl) ?_))));have hl1:=V.1;rw[Ub]at hl1;refine V.push (F:=λb=>w.size<=b) (vs:=v3 q) (λb g=>by have:=S.1;omega) rfl rfl (by simp[v3,dN]) O O λs' w' hsl' ew' hr'=>?_;refine cP (m:=k+1) O O ⟨⟨k+1,rfl,O,S.trans ew',?_⟩,O⟩;rw[htk,uV,uO (by simpa using A),List.filter_nil,Bj];exact hr'
     ·have heq:q.1=ax:=by simpa using heq
      refine cP (m:=k+1) O O ⟨⟨k+1,rfl,O,S,?_⟩,O⟩;rw[htk,uV,ua (by simp[heq]),List.filter_nil,kI];exact V
    ·have hkk:k=la.length:=by simp only at hge;omega
     subst hkk;rw[mg]at V;refine aG (o3.gP (Ql':=λb=>w.size<=b/\b<u.size) Y.to (aI.mono (aI.cut V) λb _ g=>g) (λb g=>.inr g) λu2 e7 o7=>?_);refine hR 0 u2 {L with ts:=ts} H1 held' s0' P' _ Qa (λb=>w.size<=b/\b<u.size) addrs l none true ?_ rfl (.pc B N hf hw op fe) op.kp ⟨(((bK.to D).trans (tM E)).trans (bK.to Y)).trans (tX e7),xV (sy G λb h=>(j b h).imp id λh=>zh zv h) (λ_=>.inl) (λb h=>.inr (zh (zh zv z3) h.1))⟩;rw[show ad++(none:Option Int).toList=ad by simp];exact o7
  ·have h3:d.kd≠20/\d.kd≠21/\d.kd≠22:=⟨k0,λh=>B (.inl h),λh=>B (.inr h)⟩;refine cB (by rw[hr];exact zM B) (cO (λ_=>aG (o2.b.rP rfl (Fl o2.p xi ax λs w Q z _ _=>same _ w (λ_=>h3) z))) λ_=>?_);refine cO (λ_=>aG (o2.b.rP rfl (Jr o2.p xi hsw λs w z _=>same 0 w (λ_=>h3) z))) λ_=>?_;refine cO (λ_=>aG (o2.b.rP rfl (LV o2.p xi ax hat.2 (λe w _ z _=>same e w (λ_=>h3) z) λw z _=>same _ w (λ_=>h3) z))) λ_=>?_;refine cO (λh26=>aG (o2.b.rP rfl (C.rI rfl (BF o2.p gc xi ax d.va hat.2 (λe w _ z _=>same e w (λ_=>h3) z) λw s0' P' wd E p3 j=>?_)))) λ_=>?_
   ·have o3:=o2.fA (E.sub λc Z=>.inl Z) p3 j;refine hR _ w L _ held s0' P' x Qa Ql addrs ls none false ?_ rfl (.wrote (by simpa using h26) wd) (Qv.refl _) ⟨(bK.to D).trans (tM (E.sub λc Z=>.inl Z)),xV (sy G λb h=>(j b h).imp id λh=>zh zv h) (λ_=>.inl) (λ_=>.inl)⟩;rw[show ad++(none:Option Int).toList=ad by simp];exact o3
   refine cO (λ_=>aG (o2.b.rP rfl ?_)) λ_=>same 0 v1 (λ_=>h3) (Ext.refl _ _);have W:∀{e w:_} {a b c f:Int},bK v1 w->Nw (.cells #[.int .i64 0,.int .i64 0,.int .i64 0,.int .i64 0] 52 (0,0)) w λM v20=>dX (M.add 0) (.int .i64 a) v20 λv21=>dX (M.add 1) (.int .i64 b) v21 λv22=>dX (M.add 2) (.int .i64 c) v22 λv23=>dX (M.add 3) (.int .i64 f) v23 λv24=>R e v24:=λ{e w a b c f} z=>
    nw (cs:=[.int .i64 0,.int .i64 0,.int .i64 0,.int .i64 0]) λv20 hz20 e20 b20=>b20.s1 aA λv21 o21 b21=>b21.s1 aA λv22 o22 b22=>b22.s1 aA λv23 o23 b23=>b23.s1 aA λv24 o24 b24=>
     same e v24 (λ_=>h3) (z.trans (Ext.fresh e20 (((o21.ext.trans o22.ext).trans o23.ext).trans o24.ext) λi (hi:i=w.size)=>O))
   exact SJ o2.p xi ax (λw z _=>W z) λk w z _ _=>W z
 ·rw[h,zJ (Or.inl (by simpa using h))]
 ·have h21:¬d.kd=21:=by simpa using h
  rw[l5,zT,decide_eq_true_iff];exact⟨.inr,λh=>h.resolve_left h21⟩
end Go.Ar
namespace Go.Ar
open Go Go.Vc Go.Proofs
open Go.Vc (bV dB cR)
open Go.Bu (eV KZ UP)
variable {size align a:Int}{U σ0 v w w':Hp}{F P Q X T:Rg}{L:dK}{H H' H1:Hw}{held held' held1:List Pc}{s0 s0' s1 sp:Sp}{t n:Nat}{gb km fm m xb:Nat}{x x' y:Gu}{b:B5}{ad:List Int}{la:List T3}{d:fP}{add:Option Int}{del:Bool}{e:Int}{l:Sl}{ds:List fP}
theorem FZ {s c al:Int}{i:Int}(h1:256%al=0)(h2:c%al=0):(s*256+i*c)%al=0:=by
 obtain⟨b,e1⟩:=yl h1;obtain⟨a,e2⟩:=yl h2;refine Int.emod_eq_zero_of_dvd ⟨s*b+i*a,?_⟩;rw[e1,e2,Int.mul_add,Int.mul_left_comm s,Int.mul_left_comm i]
theorem JO (hi1:HI H1 held1 s1)(hp:HI H held s0)(ht:H1.tb=H.tb){al base:Int}(h256:256%al=0)(me:qj H size al H1 base 0):base%al=0:=by
 rcases me with⟨h,_⟩|⟨_,hm,_,cl,hl,hcl⟩
 ·exact absurd rfl h
 have m:(base,((base,(GI H.tb size al).1,cl,XN H1.bX base):Bk))∈H1.live:=by rw[hl];exact KO (Ce _)
 obtain⟨_,p,z,_,E,y,_,_⟩:=hi1.lv _ m;obtain⟨A,C,hd⟩:=hi1.wi.hf p z;simp only at E y;rcases hd with⟨q1,_,r,_,q2,_⟩|⟨j,c,q1,q2,_,q3,_⟩
 ·rw[←y,q2];have:((r.1*256:Nat):Int)=(r.1:Int)*256+0*0:=by omega
  rw[this];exact FZ h256 aA
 ·rcases hcl with⟨k,rfl,hk⟩|⟨rfl,_⟩
  ·have u:j=k:=by omega
   subst u;obtain⟨F,e,_,b⟩:=Fk hk;have d:A.tb=H1.tb:=hi1.wi.tb _ A C;rw[d,ht,e]at q2;cases q2;obtain⟨w,G,a,x⟩:=q3;have g:=(hi1.wi.ga _ A C).cE _ _ _ a;have B:w=c:=by
    have:=a.1;rw[d,ht,e]at this;exact(Option.some.inj this).symm
   subst B;obtain⟨_,s,i,_,_,D,_⟩:=(Vz g).1 x;rw[←y,D];have:((at_ w s i:Nat):Int)=(s.st:Int)*256+(i:Int)*(w.size:Int):=by unfold at_;simp
   rw[this];exact FZ h256 b
  ·omega
theorem Mz {al:Int}(h1:1<=al)(h2:al<=256)(hp:eV al=true):256%al=0/\(al<16->16%al=0):=by
 obtain⟨al,rfl⟩:=zc (show 0<=al by omega);rw[KZ]at hp;have key:∀a:Nat,a<=256->1<=a->(a &&& (a-1)=0)->256%a=0/\(a<16->16%a=0):=by decide +kernel
 have:=key al O O (by have:=UP (a:=al) O O;rw[hp]at this;simpa using this);exact⟨by rw[show(256:Int)=((256:Nat):Int)from rfl,←Int.natCast_emod,this.1];rfl,λh=>by rw[show(16:Int)=((16:Nat):Int)from rfl,←Int.natCast_emod,this.2 O];rfl⟩
theorem L3 {al:Int}(h1:1<=al)(h2:al<=256)(hp:eV al=true):256%zA al=0/\zA al%al=0:=by
 have:=Mz h1 h2 hp;unfold zA;split
 ·exact⟨by decide,this.2 O⟩
 ·exact⟨this.1,by simp⟩
structure AL (H:Hw) (x:Gu) (ad:List Int) (la:List T3):Prop where
 g:eT H x
 n0:0<=x.no
 nl:(x.kn.length:Int)<=x.no/\(ad.length:Int)<=x.no
 lq:la.map (λa=>(a.1,a.2.1,zA a.2.2))=x.kn.map (λe=>(e.1,e.2.2.1,e.1-e.2.2.2.1))
 ok:∀a∈la,m7 a.2.1 a.2.2=true/\a.1%a.2.2=0
 dq:∀a∈ad,(bV x.kn a).isSome=true\/bV x.fr a=some true
 th:1<=H.cf.threads
theorem AL.out (al:AL H x ad la)(hi:HI H held s0)(cf:kA H)(o:lP H x d a H' x' e add del):AL H' x' (ad++add.toList) (DQ d add del a la)/\x'.no<=x.no+1/\∀k∈x.kn,¬(k.1<=a/\a<k.1+ZE k.2.2.1)->Kept H x H' x' k:=by
 have g:=al.g;have E:ad++(none:Option Int).toList=ad:=by simp
 cases o with
 | same e U=>rw[E];exact⟨al,O,λk j _=>⟨j,λ_ _=>rfl⟩⟩
 | full j y r F op hl=>
  rw[E];obtain⟨A,C⟩:=g.same hi op hl;exact⟨⟨A,al.n0,al.nl,al.lq,al.ok,al.dq,by rw[op.kp.2.1];exact al.th⟩,O,λk j _=>C k j⟩
 | fQ j gr F op=>
  rename_i b H1;obtain⟨K,s1,B⟩:=op.hi;obtain⟨A,R,g3,_,_⟩:=g.fQ hi gr op B;have w:=gr.ok;unfold m7 at w;rw[zF,zU]at w;obtain⟨⟨_,_,Z,Y⟩,kp⟩:=w;obtain⟨Q,M⟩:=L3 Z Y kp;have N:=JO B hi op.kp.1 Q gr.me;have D:(x.fQ b).no=x.no+1:=rfl;have J:(x.fQ b).fr=x.fr:=rfl;refine⟨⟨A,by have:=al.n0;omega,⟨?_,?_⟩,?_,λq u=>?_,λz p=>?_,by show 1<=H1.cf.threads;rw[op.kp.2.1];exact al.th⟩,O,λk j _=>g3 k j⟩
  ·rw[R,D,zO];have:=al.nl.1;simp;omega
  ·rw[D,zO];have:=al.nl.2;simp;omega
  ·show(la++[(b.1,d.a,d.b)]).map _=_;rw[R,zz,zz,al.lq]
   congr 1
   simp only[zR,pE,gr.s];have:=gr.a
   congr 3
   omega
  ·rcases zK.1 (show q∈la++[(b.1,d.a,d.b)]from u)with u|u
   ·exact al.ok q u
   ·rw[zN]at u;subst u;refine⟨gr.ok,?_⟩;show b.1%d.b=0;obtain⟨X,e1⟩:=yl N;obtain⟨V,e2⟩:=yl M;refine Int.emod_eq_zero_of_dvd ⟨V*X+V,?_⟩;rw[gr.a,e1,Int.mul_add,←Int.mul_assoc,←e2]
  ·have G:(x.fQ b).kn=dB x.kn b.1 b:=rfl;rw[G,J,V7];rcases zK.1 p with p|p
   ·split
    ·exact .inl rfl
    ·exact al.dq z p
   ·simp only[yq,zN]at p;subst p;rw[zC rfl];exact .inl rfl
 | pc j hm hf F op fe=>
  rename_i b e;rw[E];have P:QY H d.th=0:=by
   by_cases h:QY H d.th=0
   ·exact h
   ·unfold lj at hf;rw[zC h]at hf;exact absurd hf h
  obtain⟨A,C⟩:=g.free hi hm F op fe P cf.2.1;have y:(x.gone a).kn=cR x.kn a:=rfl;have L:(x.gone a).fr=dB x.fr a true:=rfl;refine⟨⟨A,al.n0,⟨?_,al.nl.2⟩,?_,λq u=>al.ok q (zI.1 u).1,λz p=>?_,by rw[op.kp.2.1];exact al.th⟩,by show x.no<=_;omega,λk j r=>C k j λh=>r ?_⟩
  ·rw[y];have h1:=qX (λq:Int×B5=>!(q.1==a)) x.kn;have h2:=al.nl.1;show((x.kn.filter _).length:Int)<=x.no;omega
  ·show(la.filter λq=>!(q.1==a)).map _=(x.kn.filter λq=>!(q.1==a)).map _;have e1:(la.filter λq=>!(q.1==a)).map (λa=>(a.1,a.2.1,zA a.2.2))=(la.map λa=>(a.1,a.2.1,zA a.2.2)).filter λq=>!(q.1==a):=by rw[vV];rfl
   have e2:(x.kn.filter λq=>!(q.1==a)).map (λe=>(e.1,e.2.2.1,e.1-e.2.2.2.1))=(x.kn.map λe=>(e.1,e.2.2.1,e.1-e.2.2.2.1)).filter λq=>!(q.1==a):=by rw[vV];rfl
   rw[e1,e2,al.lq]
  ·rw[y,L,Ad,V7];by_cases h:z=a
   ·rw[zC h,zC h];exact .inr rfl
   ·rw[zB h,zB h];exact al.dq z p
  ·have m:=g.i k j;have hs:=m.2.s;have F:=Qh (n:=k.2.2.1) O;omega
 | wrote j wd=>
  rw[E];rcases wd with⟨h,_⟩|⟨k,j,hin,h8,_⟩
  ·cases h
  ·have m:=g.i k j;obtain⟨S,W⟩:=hin;have p:a∈QA k.2:=eT.kH m.2 S W h8;obtain⟨A,C,_⟩:=g.write hi j p (v:=d.va);refine⟨⟨A,al.n0,al.nl,al.lq,al.ok,al.dq,al.th⟩,O,λe U r=>C e U λh=>r ?_⟩;subst h;exact⟨by rw[m.1];exact S,by rw[m.1];exact W⟩
theorem AL.ready (al:AL H x ad la)(cf:kA H):QY H 0=0:=by
 have b:=al.th;unfold QY;rw[zB O,UU];have a:(if 0<=(0:Int)/\(0:Int)<(H.bQ.length:Int)then fC H (0:Int).toNat else none)=none:=by
  split
  ·exact al.g.ph _
  ·rfl
 rw[a];rfl
variable {Qa Ql:Rg}{addrs ls:Sl}
theorem kN.sE (o:kN σ0 U xb L H held s0 P gb km fm x Qa Ql addrs ad ls la)(al:AL H x ad la):(la.length:Int)<=x.no:=by
 have:=congrArg List.length al.lq;rw[zl,zl]at this;rw[this];exact al.nl.1
set_option maxRecDepth 8000 in
theorem Ss (gl:Gl U)(gc:Gc U)(b b1 b2 b3 b4 b5:Int)(hd:jl U l ds)(most:Int)(hmost:most<=60){R:Option Addr->Hp->Prop}(h0:∀σ',bK U σ'->R none σ')
 (h1:∀σ' xb L H held s0 P gb km fm x Qa Ql addrs ad ls la,kN U σ' xb L H held s0 P gb km fm x Qa Ql addrs ad ls la->AL H x ad la->x.no<=60->R (some ⟨xb,0,none⟩) σ'):XI.c b b1 b2 b3 b4 b5 l most U R:=by
 refine XI.o ?_;unfold XI.v;have hl:=hd.len;have hbig:=hd.xD;refine nw (cs:=[.int .i64 b,.int .i64 b1,.int .i64 b2,.int .i64 b3,.int .i64 b4,.int .i64 b5]) λv hz e A=>A.rI rfl (A.rI rfl (A.rI rfl (A.rI rfl (A.rI rfl (A.rI rfl (WJ.o ?_))))));unfold WJ.v;refine nw (cs:=[.int .i64 b,.int .i64 b1,.int .i64 b2,.int .i64 b3,.int .i64 b4,.int .i64 b5]) λv1 hz1 e1 Y=>Y.eY rfl ?_;have G:=e.trans e1;have B:=e1.bT A id;refine KJ (λr w=>v1=w/\(r=false->b1<=128/\(ds.length:Int)<=most)) (λr w ⟨hw,hr⟩=>?_) λJ hJ=>cQ (λh=>hJ _ _ ⟨rfl,λh=>by cases h⟩) λh=>RU (hJ _ _ ⟨rfl,λh'=>by have:=vX h';exact⟨O,O⟩⟩);subst hw;refine cO (λht=>h0 v1 G) λhf=>?_;obtain⟨hpg,hlm⟩:=hr hf;refine B.rI rfl (B.rI rfl (B.rI rfl (B.rI rfl (B.rI rfl (B.rI rfl (Xr.o ?_))))));unfold Xr.v;refine nw (cs:=[.int .i64 b,.int .i64 b1,.int .i64 b2,.int .i64 b3,.int .i64 b4,.int .i64 b5]) λv1' hz1' S s=>?_;have y:=G.trans S;refine s.rI rfl (s.rI rfl (s.rI rfl (s.rI rfl (s.rI rfl (s.rI rfl ?_)))));refine IH (gl.bO y) (gc.bO y).gd b b1 b2 b3 b4 b5 (λv2 e2=>cD rfl (cD rfl (h0 v2 (y.trans e2)))) λv2 L0 N H0 e2 hsN hNv hh F=>cB rfl ?_;have X:=y.trans e2;refine EG X hh.cut F.hi F.cf (by have:=F.pg;omega) (λb A=>⟨by have:=y.1;have:N<=b:=A.1;omega,A.2⟩) (yN gl gc.gd) λw gb km fm e3 hm p=>bW.intro (cB rfl (cB rfl ?_));refine nw (cs:=uE gb ⟨none,0,0⟩ ⟨none,0,0⟩) λw1 hz1 e4 Z=>cB rfl ?_;have p4:=p.fr e4;have o4:kN U w1 w.size L0 H0 [] (Vf H0.cf.aF) _ gb km fm nV (λ_=>False) (λ_=>False) ⟨none,0,0⟩ [] ⟨none,0,0⟩ []:=
  ⟨p4,Z,⟨rfl,.inl ⟨rfl,rfl⟩⟩,⟨rfl,.inl ⟨rfl,rfl⟩⟩,⟨p.e.1,λhM=>by have:=wQ p hM;omega,id,id⟩,λb A=>A.elim,λb A=>A.elim,λb A=>A.elim⟩
 have Q:AL H0 nV [] []:=⟨⟨by rw[F.live];rfl,λe M=>by simp[nV]at M,λj=>by
  unfold fC;cases hj:H0.bQ[j]? with
  | none=>rfl
  | some g=>exact F.ph g (zG hj),λe M=>by simp[nV]at M,by simp[nV]⟩,by simp[nV],by simp[nV],rfl,λa ha=>by simp at ha,λa ha=>by simp at ha,F.th⟩
 refine Z0 (a:=bN) (λ(z:Int) u=>∃(i:Nat) (L:dK) (H:Hw) (held:List Pc) (s0:Sp) (P:Rg) (x:Gu) (Qa Ql:Rg) (addrs:Sl) (ad:List Int) (ls:Sl) (la:List T3),z=i/\i<=ds.length/\kN U u w.size L H held s0 P gb km fm x Qa Ql addrs ad ls la/\AL H x ad la/\x.no<=i) (λz _=>ds.length-z.toNat)
  ⟨0,L0,H0,_,_,_,nV,_,_,_,[],_,[],rfl,O,o4,Q,by simp[nV]⟩ ?_
 rintro(z:Int) u ⟨i,L,H,held,s0,P,x,Qa,Ql,addrs,ad,ls,la,rfl,hi,o,al,hno⟩;refine cQ (λhlt=>?_) λhge=>?_
 ·have V:ds[i]?=some (ds[i]' O):=cT _;generalize (ds[i]' O)=d at V;have K:=hd.i _ (zG V);refine hd.rd o.p.e V λba oa D=>fR (D _ o.p.e 0 _ rfl) (fR (D _ o.p.e 1 _ rfl) (fR (D _ o.p.e 2 _ rfl) (fR (D _ o.p.e 3 _ rfl) (fR (D _ o.p.e 4 _ rfl) (fR (D _ o.p.e 5 _ rfl) (fR (D _ o.p.e 6 _ rfl) (Af (D _ o.p.e 7 _ rfl) ?_)))))));have n0:=al.n0;have nl:=al.nl;have hla:=o.sE al;refine MS o gc al.g.i ⟨n0,O⟩ (by rw[al.g.cG o.p.hi];simp) O O d K λer u2 L' H' E s0' P' x' Qa' Ql' C W add del o' hLp out kp _=>?_;obtain⟨aa,hno',_⟩:=al.out o.p.hi o.p.cf out;exact cP (m:=i+1) O O ⟨⟨i+1,L',H',E,s0',P',x',Qa',Ql',C,_,W,_,rfl,O,o',aa,O⟩,O⟩
 ·exact h1 u w.size L H held s0 P gb km fm x Qa Ql addrs ad ls la o al O
end Go.Ar
namespace Go.Ar
open Go Go.Vc Go.Proofs Go.RowKit Go.Maps Go.Sort Go.Shelf
open Go.Vc (bV dB cR)
open Go.Bu (lF Uz KQ Ul Ko wT)
variable {U σ0 v w w':Hp}{F P Q X T:Rg}{L:dK}{H H' H1:Hw}{held:List Pc}{s0 sp:Sp}{t n:Nat}{gb km fm m:Nat}{x y:Gu}{b:B5}
def HG:Nat:=Tryz.hU.f 10
def Bq:Nat:=Tryz.hU.t 23
theorem Ri (m:Option Nat){R:Fv->Hp->Prop}(hR:R ⟨HG,#[],#[.pointer (some ⟨U.size,0,none⟩)]⟩ (U.push (.cells #[.map m] Bq (0,0)))) :
 Zc.c m U R:=by
 rintro w rfl;refine(callsIn_wide.1 (AnyZI.keys_in Tryz.kO Fence.wide 5 trivial rfl m w)).mono ?_;rintro e a ⟨rfl,rfl⟩;exact⟨⟨rfl,rfl,rfl,qc (by show _<(w.heap.push _).size;simp)⟩,[.func (.func HG) #[] #[.pointer (some ⟨w.heap.size,0,none⟩)]],rfl,⟨HG,#[],#[.pointer (some ⟨w.heap.size,0,none⟩)]⟩,rfl,hR⟩
theorem SP {w:World}{c m:Nat}{B:List (Int×B5)}(hc:cell w.heap ⟨c,0,none⟩=some (.map (some m)))(hm:dH w.heap m .i64 (.ag 5) B)(hb:∀x∈B,Go.Bu.jT x.1)(hs:B.length<=1000000)(n:Nat)(hn:1<=n) :
 SeqGives Fence.wide n Tryz.prog HG #[.pointer (some ⟨c,0,none⟩)] encZ (λss=>ss.Perm (B.map (·.1))) B.length w:=by
 obtain⟨D,p,j,a⟩:=Ko (P:=Tryz.prog) Tryz.kO.t26 hm hb hs;have b:c<w.heap.size:=by
  unfold cell at hc;split at hc
  ·rename_i h;exact(zy.1 h).1
  ·cases hc
 have:=AnyZI.keys_gives (ρ:=Tryz.hU) {Tryz.kO with} Fence.wide n trivial rfl hn c m B.length D w b hc p;intro l J W hW hJ hY h0;rw[a]at this;refine(this l J W hW hJ hY h0).mono ?_;rintro e W' ⟨i,ss,g,d⟩;exact⟨i,ss,g.trans j,d⟩
theorem Rk {c m:Nat}{B:List (Int×B5)}(hc:cell U ⟨c,0,none⟩=some (.map (some m)))(hm:dH U m .i64 (.ag 5) B)(hb:∀x∈B,Go.Bu.jT x.1)(hs:B.length<=1000000){R:Sl->Hp->Prop}
 (hR:∀(s:Sl) (σ':Hp) (ss:List Int),bK U σ'->ss.Perm (B.map (·.1))->ss.Pairwise (· <= ·)->lF U.size σ' s (ss.map (Value.int .i64))->R s σ') :
 QD.c ⟨HG,#[],#[.pointer (some ⟨c,0,none⟩)]⟩ U R:=by
 rintro w rfl;have d:=SP hc hm hb hs 2 O;have p:B.length<=maxLen:=by unfold maxLen;omega
 have z:=AnyZI.sorted_in Tryz.mR Fence.wide 5 trivial trivial trivial trivial rfl O (wT _) (Tryz.kF.f5.enters rfl) HG #[.pointer (some ⟨c,0,none⟩)] trivial (Tryz.kO.f10.enters rfl) _ _ p O _ d;refine(callsIn_wide.1 z).mono ?_;rintro e D ⟨v,ss,rfl,u,i,r,g⟩;obtain⟨s,rfl,j⟩:=Uz i;refine⟨Ul g,[.slice s.a s.len s.cap],rfl,s,rfl,?_⟩;refine hR s _ (ss.mergeSort λx y=>decide (x<=y)) (KQ g) ((y5 _ _).trans u) ?_ j;have:=List.pairwise_mergeSort (le:=λx y:Int=>decide (x<=y)) (λa b c C A=>by simp at *;omega) (λa b=>by simp;omega) ss;exact this.imp (λh=>by simpa using h)
structure vJ (x:Gu) (es:List (Int×B5)):Prop where
 p:es.Perm x.kn
 s:es.Pairwise λa b=>a.1<b.1
def b4 (e:Int×B5):Bk:=(e.2.1,e.2.2.1,e.2.2.2.1,e.2.2.2.2.1)
theorem Fg (p:GP σ0 U L H held s0 P gb km fm x)(xi:∀e∈x.kn,e.1=e.2.1/\hO e.2)(hl:x.kn.length<=1000000){R:Sl->Hp->Prop}(hR:∀s σ' es,bK U σ'->vJ x es->bR s 4 (gO (es.map b4)) σ' (λb=>U.size<=b)->R s σ'):XY.c (aW gb) U R:=by
 refine XY.o ?_;unfold XY.v;have A:∀e∈x.kn,Go.Bu.jT e.1:=λe g=>by
  have h:=xi e g;have B:=h.1;have J:=h.2.z;have h3:=h.2.base;have h4:=h.2.t;have h5:=h.2.m;have h6:=h.2.s;have Z:=Qh (n:=e.2.2.1) O;unfold Go.Bu.jT;omega
 have r:=p.m.nodup;refine Vn p (cB rfl (aG (p.b.rM rfl (Ri _ ?_))));have e1:bK U (U.push (.cells #[.map (some km)] Bq (0,0))):=Ext.push _ _ _;have p1:=p.fr e1;refine Rk (by unfold cell;simp) p1.m A hl λs u d e2 Q M hs=>?_;have X:=e1.trans e2;have y:=cV.oR hs;have E:d.Nodup:=Q.nodup_iff.2 r;have S:d.length=x.kn.length:=by rw[Q.length_eq];simp
 have hsl:s.len=d.length:=by have:=y.1;simp at this;omega
 let f:Int->Int×B5:=λk=>(k,(bV x.kn k).getD (0,0,0,0,0))
 have D:∀e∈x.kn,f e.1=e:=λe g=>by
  show(e.1,(bV x.kn e.1).getD (0,0,0,0,0))=e;rw[ZU r (show(e.1,e.2)∈x.kn from g)];rfl
 have hz1:U.size<u.size:=by
  have B:=e2.1;have J:(U.push (.cells #[.map (some km)] Bq (0,0))).size=U.size+1:=by simp
  omega
 refine UC (a:=.s) (bb:=bN) (λ(out:Sl) (z:Int) w=>∃i:Nat,z=i/\i<=d.length/\bK u w/\bR out 4 (gO (((d.take i).map f).map b4)) w (λb=>u.size<=b)) (λ_ z _=>d.length-z.toNat) ⟨0,rfl,O,Ext.refl _ _,⟨by simp[gO],.inl ⟨rfl,rfl⟩⟩⟩ ?_;rintro(out:Sl) (z:Int) w ⟨i,rfl,hil,ew,hr⟩;have Z:=p1.fr (e2.trans ew);refine cQ (λhlt=>?_) λhge=>?_
 ·have hx:d[i]?=some (d[i]' O):=cT _;have hol:out.len=i:=by have:=hr.1;rw[UY]at this;simp at this;omega
  have C:(d[i]' O)∈x.kn.map (·.1):=Q.mem_iff.1 (zo _);obtain⟨e,g,K⟩:=zE.1 C;have V:f (d[i]' O)=e:=by rw[←K];exact D e g
  refine(aH.bO (aH.cut y) ew).mf hx (aG (Z.b.rM rfl ⟨x.kn,Z.m,?_⟩));have N:bV x.kn (d[i]' O)=some e.2:=by rw[←K];exact ZU r (show(e.1,e.2)∈x.kn from g)
  rw[N];refine hr.push (F:=λb=>u.size<=b) (vs:=l4 (b4 e)) (λb G=>by have:=ew.1;omega) rfl rfl (by simp[l4,dN]) O O λs' w' ab W aa=>?_;have e3:bK u w':=Ext.fresh ew W λb G=>G;refine cP (m:=i+1) O O ⟨⟨i+1,rfl,O,e3,?_⟩,O⟩;have:gO (((d.take (i+1)).map f).map b4)=gO (((d.take i).map f).map b4)++l4 (b4 e):=by
   unfold gO;rw[k8,hx,zz,zz,AD];simp only[yq,zR,pE,nG,List.flatMap_nil,kI,V]
  rw[this];exact aa
 ·have Y:i=d.length:=by omega
  subst Y;rw[mg]at hr;have j:(d.map f).Perm x.kn:=by
   have B:=Q.map f;rw[lh]at B;have J:x.kn.map (f∘λe=>e.1)=x.kn:=by
    conv=>rhs;rw[←uD x.kn]
    exact ka λe g=>D e g
   rwa [J]at B
  refine hR out w (d.map f) (X.trans ew) ⟨j,?_⟩ (aI.mono hr λb _ G=>by
   show U.size<=b;have G:u.size<=b:=G;omega)
  rw[p8];exact(M.and E).imp λ{a b} ⟨B,J⟩=>by
   have h3:a≠b:=J;show a<b;omega
end Go.Ar