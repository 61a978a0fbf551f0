/- Texts joined. -/
import Derived.Shelf.SlSortCmp.NoneTotal
import Derived.Ground.SlsfProg
import Derived.Test.YtoeidadjhkkioaaGreatDoorProg
import Derived.Shelf.SlIterI.Nil
import Derived.Ground.GgzProg
import Derived.Test.YtoeidadjhkkioaaGreatDoorO6
set_option linter.unusedVariables false
set_option linter.unusedSimpArgs false
namespace Go.Ar
open Go Go.Vc Go.Proofs
variable {U w:Hp}
def mS:Nat->Int->Int->List T3
 | 0,_,_=>[]
 | n+1,s,w=>if s<512 then lF s w::mS n (s+wH s w) w else[]
def allM (w:Int):List T3:=mS 64 8 w++[lF 512 w]
def po (l:List T3)(i:Nat):Bool:=i==l.length-1||(match l[i]?,l[i+1]? with
 | some x,some y=>x.2.1 != y.2.1||m5 x != m5 y
 | _,_=>false)
def lZ (l:List T3)(n:Nat):List T3:=(List.range n).filterMap λi=>if po l i then l[i]? else none
def rO (w:Int):List T3:=lZ (allM w) (allM w).length
def uz (x:T3):Prop:=8<=x.1/\x.1<=512/\1<=x.2.1/\x.2.1<=4
theorem Iq (s w:Int)(h1:8<=s)(h2:s<=512):uz (lF s w):=⟨h1,h2,PC s w 4⟩
theorem uh {Q:Rg}{s:Sl}{l:List T3}{e1 e2:Nat}(ho:Go.Vc.Own Q U s 3 (lM l))(hQ:∀b,U.size<=b->Q b)(hl:l.length<=1000)(x:T3){K:Sl->Hp->Prop}(hK:∀s' σ',Ext Q U σ'->Go.Vc.Own Q σ' s' 3 (lM (l++[x]))->K s' σ') :
 Nw (.cells #[.int .i64 x.1,.int .i64 x.2.1,.int .i64 x.2.2] e1 (0,0)) U λn20 v3=>App s 3 24 e2 [.int .i64 0,.int .i64 0,.int .i64 0] ⟨some n20,1,1⟩ v3 K:=by
 have d:s.len=l.length:=by have:=ho.1;rw[Ee]at this;omega
 refine nw (cs:=v3 x) λv p e a=>?_;refine(ho.bP e).app (ys:=v3 x) (λb a=>hQ b O) rfl rfl ?_ (by simp[v3,dU]) ?_ ?_ nu λs' i _ g m _=>hK s' i ?_ ?_
 ·intro j u hu;rw[add_lit,zH,a.cell];exact hu
 ·simp only;have:(s.len+1)*24<=1001*24:=mo O O;omega
 ·simp only;omega
 ·exact(aG.to e).trans (g.sub λb a=>((ho.bP e).jy a).1)
 ·rw[TW];exact m
theorem Pg (w:Int)(h:w<2\/16<w){R:Sl->Int->Hp->Prop}(hR:R ⟨none,0,0⟩ 1 U):Xf.c w U R:=by
 refine Xf.o ?_;unfold Xf.v;exact bX.intro (cP (λa=>cF rfl hR) λa=>cF (zI O) hR)
theorem Ev (w:Int)(hw1:2<=w)(hw2:w<=16){R:Sl->Int->Hp->Prop}(hR:∀s' σ',aG U σ'->im σ' s' (rO w)->R s' 0 σ'):Xf.c w U R:=by
 refine Xf.o ?_;unfold Xf.v;refine bX.intro (gg O (cD (zJ O) ?_));refine UD (a:=.s) (bb:=bO) (λ(all:Sl) (s:Int) u=>∃(n:Nat) (done:List T3),8<=s/\s<=768/\aG U u/\Go.Vc.Own (λb=>U.size<=b) u all 3 (lM done)/\done++mS n s w=mS 64 8 w/\512<=s+8*(n:Int)/\(∀x∈done,uz x)/\done.length+n=64) (λ_ s _=>1000-s.toNat) ⟨64,[],O,O,Ext.refl _ _,Own.nil _ _ _,rfl,O,by simp,by simp⟩ ?_;rintro(all:Sl) (s:Int) u ⟨n,done,hs1,hs2,eu,ho,hdone,hn,hok,hlen⟩;refine cP (λX=>?_) λW=>?_
 ·obtain⟨n,rfl⟩:∃m,n=m+1:=⟨n-1,O⟩;refine Ii s w O O hw1 hw2 λv2 e2=>?_;refine uh (ho.bP e2) (λb F=>by have:=eu.1;have:=e2.1;omega) O (lF s w) λall1 v4 e4 h4=>?_;have e04:aG U v4:=Ext.dW (eu.trans e2) e4 λb F=>.inr F;refine TM s w O O hw1 λd1 d2=>ar O O ⟨⟨n,done++[lF s w],O,O,e04,h4,?_,O,λx C=>?_,by simp;omega⟩,O⟩
  ·rw[←hdone,zk]
   congr 1
   conv=>rhs;rw[mS,zC X]
   rfl
  ·rcases zM.1 C with h1|h1
   ·exact hok x h1
   ·rw[zN]at h1;subst h1;exact Iq s w O O
 ·have V:mS n s w=[]:=by
   cases n with
   | zero=>rfl
   | succ n=>rw[mS,zB W]
  rw[V,kD]at hdone;refine Ii 512 w O O hw1 hw2 λv6 e6=>?_;refine uh (ho.bP e6) (λb F=>by have:=eu.1;have:=e6.1;omega) O (lF 512 w) λg v8 e8 L=>?_;have e08:aG U v8:=Ext.dW (eu.trans e6) e8 λb F=>.inr F;rw[hdone]at L;have A:∀x∈allM w,uz x:=λx C=>by
   rcases zM.1 C with h1|h1
   ·rw[←hdone]at h1;exact hok x h1
   ·rw[zN]at h1;subst h1;exact Iq 512 w O O
  have hml:(allM w).length<=65:=by unfold allM;rw[←hdone];simp;omega
  have L:Go.Vc.Own (λb=>U.size<=b) v8 g 3 (lM (allM w)):=L;generalize hall:allM w=l at L A hml;have hmk:rO w=lZ l l.length:=by unfold rO;rw[hall]
  have hl2:g.len=l.length:=by have:=L.1;rw[Ee]at this;omega
  refine UD (a:=.s) (bb:=bO) (λ(out:Sl) (z:Int) u=>∃i:Nat,z=(i:Int)/\i<=l.length/\aG v8 u/\Go.Vc.Own (λb=>v8.size<=b) u out 3 (lM (lZ l i))/\(lZ l i).length<=i) (λ_ z _=>l.length-z.toNat) ⟨0,rfl,O,Ext.refl _ _,Own.nil _ _ _,by simp[lZ]⟩ ?_;rintro(out:Sl) (z:Int) u ⟨i,rfl,hi,eu8,hout,hol⟩;refine cP (λX=>?_) λW=>?_
  ·have hi':i<l.length:=by omega
   have C:l[i]?=some l[i]:=cX hi';generalize l[i]=x at C;have D:=A x (zG C);have j:lZ l (i+1)=lZ l i++(if po l i then[x]else[]):=by
    unfold lZ;rw[qF,wB]
    congr 1
    by_cases hk:po l i=true
    ·simp[hk,C]
    ·simp[hk]
   have hA:∀m,aG u m->im m g l:=λm d=>Lw (L.bP (eu8.trans d));refine yo (λr u'=>aG u u'/\r=po l i) (λr u' ⟨B,Z⟩=>?_) λJ3 H=>?_
   ·have S:=hout.bP B;cases hk:po l i with
    | true=>
     rw[hk]at Z j;refine cF Z (yY (hA u' B) C ?_);refine uh S (λb F=>by have:=eu8.1;have:=B.1;omega) O x λout1 v12 e12 h12=>?_;refine cT (m:=i+1) O O ⟨⟨i+1,rfl,O,Ext.dW (eu8.trans B) e12 λb F=>.inr F,?_,?_⟩,O⟩
     ·rw[j];exact h12
     ·rw[j];simp;omega
    | false=>
     rw[hk]at Z j;refine cD Z (cT (m:=i+1) O O ⟨⟨i+1,rfl,O,eu8.trans B,?_,?_⟩,O⟩)
     ·rw[j];simpa using S
     ·rw[j];simp;omega
   ·refine⟨λm=>aG u m,Ext.refl _ _,ar O O ?_⟩;refine cN (λG=>H _ _ ⟨Ext.refl _ _,?_⟩) λhnl=>?_
    ·have:i=l.length-1:=by simp only[zT]at G;omega
     unfold po;rw[this];simp
    ·have hi2:i+1<l.length:=by simp only[mP]at hnl;omega
     have hy:l[i+1]?=some l[i+1]:=cX hi2;generalize l[i+1]=y at hy;have E:=A y (zG hy);have N:po l i=(x.2.1 != y.2.1||m5 x != m5 y):=by
      unfold po;rw[C,hy];have:(i==l.length-1)=false:=by simp only[mP];omega
      rw[this];rfl
     have P:=λ(m:Hp) (d:aG u m)=>(hA m d).2 i x.1 x.2.1 x.2.2 C;have hcy:=λ(m:Hp) (d:aG u m)=>(hA m d).2 (i+1) y.1 y.2.1 y.2.2 hy;obtain⟨b,o,ha,_,_⟩:=P u (Ext.refl _ _);have rx:∀m,aG u m->cell m ⟨b,o+i*3,none⟩=some (.int .i64 x.1)/\cell m ⟨b,o+i*3+1,none⟩=some (.int .i64 x.2.1)/\cell m ⟨b,o+i*3+2,none⟩=some (.int .i64 x.2.2):=λm d=>by
      obtain⟨b',o',p,_,h⟩:=P m d;rw[ha]at p;cases p;exact h
     have ry:∀m,aG u m->cell m ⟨b,o+(i+1)*3,none⟩=some (.int .i64 y.1)/\cell m ⟨b,o+(i+1)*3+1,none⟩=some (.int .i64 y.2.1)/\cell m ⟨b,o+(i+1)*3+2,none⟩=some (.int .i64 y.2.2):=λm d=>by
      obtain⟨b',o',p,_,h⟩:=hcy m d;rw[ha]at p;cases p;exact h
     have M:∀{K:Addr->Prop},K ⟨b,o+i*3,none⟩->Ix g.a g.len (i:Int) 3 K:=λhK=>by
      rw[ha];exact ix O O (by rw[add_lit,dH];exact hK)
     have Y:∀{K:Addr->Prop},K ⟨b,o+(i+1)*3,none⟩->Ix g.a g.len ((i+1:Nat):Int) 3 K:=λhK=>by
      rw[ha];exact ix O O (by rw[add_lit,dH];exact hK)
     refine M ⟨x.2.1,λm d=>by rw[add_lit];exact(rx m d).2.1,cT (m:=i+1) O O (Y ⟨y.2.1,λm d=>by rw[add_lit];exact(ry m d).2.1,?_⟩)⟩;refine cN (λhp=>H _ _ ⟨Ext.refl _ _,by rw[N,hp];rfl⟩) λhp=>?_;refine M ⟨x.1,λm d=>by rw[add_lit];exact(rx m d).1,⟨x.2.1,λm d=>by rw[add_lit];exact(rx m d).2.1,⟨x.2.2,λm d=>by rw[add_lit];exact(rx m d).2.2,?_⟩⟩⟩;refine cT (m:=i+1) O O (Y ⟨y.1,λm d=>by rw[add_lit];exact(ry m d).1,⟨y.2.1,λm d=>by rw[add_lit];exact(ry m d).2.1,⟨y.2.2,λm d=>by rw[add_lit];exact(ry m d).2.2,?_⟩⟩⟩);refine FI x D.1 D.2.1 D.2.2.1 D.2.2.2 λv13 J=>⟨J,FI y E.1 E.2.1 E.2.2.1 E.2.2.2 λv14 Q=>⟨J.trans Q,H _ _ ⟨J.trans Q,by rw[N,hp];rfl⟩⟩⟩
  ·have hil:i=l.length:=by omega
   subst hil;refine hR out u (e08.trans eu8) ?_;rw[hmk];exact Lw hout
theorem Gw:∀w:Nat,2<=w->w<=16->QU (rO (w:Int))=true:=by
 have h:((List.range 17).all λw=>decide (w<2)||QU (rO (w:Int)))=true:=by decide +kernel
 intro w h1 h2;have:=kx.1 h w (zg.2 O);simp only[nI,zV]at this;exact this.resolve_left O
end Go.Ar
namespace Go.Proofs
open Go.Shelf
def Tryz.eW:Go.Shelf.Ren:=⟨fun|6=>297|15=>160|14=>323|28=>224|29=>225|20=>344|21=>345|22=>346|23=>347|24=>348|25=>349|26=>350|27=>351|46=>357|47=>276|48=>277|49=>358|50=>359|57=>361|n=>n,fun|22=>141|24=>147|25=>369|3=>3|39=>230|0=>0|53=>311|55=>313|4=>4|46=>304|45=>303|50=>171|5=>5|9=>9|66=>353|70=>357|76=>383|77=>384|n=>n,fun|n=>n⟩
theorem Tryz.pA:Go.Proofs.SlLaysF0.n6 Tryz.prog Tryz.eW:={
 mixed:=by kernel_rfl
 f6:=⟨Tryz.f297.name,by decide,Tryz.func297.trans (congrArg some (by kernel_rfl))⟩
 f14:=⟨Tryz.f323.name,by decide,Tryz.func323.trans (congrArg some (by kernel_rfl))⟩
 f15:=Tryz.func160.trans (congrArg some (by kernel_rfl))
 f20:=⟨Tryz.f344.name,by decide,Tryz.func344.trans (congrArg some (by kernel_rfl))⟩
 f21:=⟨Tryz.f345.name,by decide,Tryz.func345.trans (congrArg some (by kernel_rfl))⟩
 f22:=⟨Tryz.f346.name,by decide,Tryz.func346.trans (congrArg some (by kernel_rfl))⟩
 f23:=⟨Tryz.f347.name,by decide,Tryz.func347.trans (congrArg some (by kernel_rfl))⟩
 f24:=⟨Tryz.f348.name,by decide,Tryz.func348.trans (congrArg some (by kernel_rfl))⟩
 f25:=⟨Tryz.f349.name,by decide,Tryz.func349.trans (congrArg some (by kernel_rfl))⟩
 f26:=⟨Tryz.f350.name,by decide,Tryz.func350.trans (congrArg some (by kernel_rfl))⟩
 f27:=⟨Tryz.f351.name,by decide,Tryz.func351.trans (congrArg some (by kernel_rfl))⟩
 f28:=Tryz.func224.trans (congrArg some (by kernel_rfl))
 f29:=Tryz.func225.trans (congrArg some (by kernel_rfl))
 f46:=⟨Tryz.f357.name,by decide,Tryz.func357.trans (congrArg some (by kernel_rfl))⟩
 f47:=Tryz.func276.trans (congrArg some (by kernel_rfl))
 f48:=Tryz.func277.trans (congrArg some (by kernel_rfl))
 f49:=⟨Tryz.f358.name,by decide,Tryz.func358.trans (congrArg some (by kernel_rfl))⟩
 f50:=⟨Tryz.f359.name,by decide,Tryz.func359.trans (congrArg some (by kernel_rfl))⟩
 f57:=⟨Tryz.f361.name,by decide,Tryz.func361.trans (congrArg some (by kernel_rfl))⟩
 t0:=Tryz.underlying0
 a0:=Tryz.isAgg0
 z0:=Tryz.sizeOf0
 v0:=Tryz.zeroValue0
 t3:=Tryz.underlying3
 a3:=Tryz.isAgg3
 z3:=Tryz.sizeOf3
 v3:=Tryz.zeroValue3
 t4:=Tryz.underlying4
 a4:=Tryz.isAgg4
 z4:=Tryz.sizeOf4
 v4:=Tryz.zeroValue4
 t5:=Tryz.underlying5
 a5:=Tryz.isAgg5
 z5:=Tryz.sizeOf5
 v5:=Tryz.zeroValue5
 t9:=Tryz.underlying9
 a9:=Tryz.isAgg9
 z9:=Tryz.sizeOf9
 v9:=Tryz.zeroValue9
 t22:=Tryz.underlying141
 a22:=Tryz.isAgg141
 z22:=Tryz.sizeOf141
 v22:=Tryz.zeroValue141
 t25:=Tryz.underlying369
 a25:=Tryz.isAgg369
 z25:=Tryz.sizeOf369
 v25:=Tryz.zeroValue369
 t39:=Tryz.underlying230
 a39:=Tryz.isAgg230
 z39:=Tryz.sizeOf230
 v39:=Tryz.zeroValue230
 t45:=Tryz.underlying303
 a45:=Tryz.isAgg303
 z45:=Tryz.sizeOf303
 v45:=Tryz.zeroValue303
 t46:=Tryz.underlying304
 a46:=Tryz.isAgg304
 z46:=Tryz.sizeOf304
 v46:=Tryz.zeroValue304
 t50:=Tryz.underlying171
 a50:=Tryz.isAgg171
 z50:=Tryz.sizeOf171
 v50:=Tryz.zeroValue171
 t53:=Tryz.underlying311
 a53:=Tryz.isAgg311
 z53:=Tryz.sizeOf311
 v53:=Tryz.zeroValue311
 t55:=Tryz.underlying313
 a55:=Tryz.isAgg313
 z55:=Tryz.sizeOf313
 v55:=Tryz.zeroValue313
 t66:=Tryz.underlying353
 a66:=Tryz.isAgg353
 z66:=Tryz.sizeOf353
 v66:=Tryz.zeroValue353
 t70:=Tryz.underlying357
 a70:=Tryz.isAgg357
 z70:=Tryz.sizeOf357
 v70:=Tryz.zeroValue357
 t76:=Tryz.underlying383
 a76:=Tryz.isAgg383
 z76:=Tryz.sizeOf383
 v76:=Tryz.zeroValue383
 t77:=Tryz.underlying384
 a77:=Tryz.isAgg384
 z77:=Tryz.sizeOf384
 v77:=Tryz.zeroValue384}
end Go.Proofs
namespace Go.Ar
open Go Go.Vc Go.Proofs Go.RowKit Go.Sort Go.Shelf Go.Lib
abbrev ub:=Fin 64×Sl
instance:Inhabited ub:=⟨(0,⟨none,0,0⟩)⟩
def kE (x:ub):List Value:=[.int .i64 (x.1.val:Int),.slice x.2.a x.2.len x.2.cap]
def pB (x y:ub):Int:=(x.1.val:Int)-(y.1.val:Int)
theorem CX (x y:ub)(W:World):Calls Tryz.prog 298 #[.agg #[.int .i64 (x.1.val:Int),.slice x.2.a x.2.len x.2.cap],.agg #[.int .i64 (y.1.val:Int),.slice y.2.a y.2.len y.2.cap]] W λe w'=>e=.returned (.int .i64 (pB x y))/\∃q os',w'=grow (W.drewN q) os':=by
 have b:IntKind.i64.wrap ((x.1.val:Int)-(y.1.val:Int))=pB x y:=by
  have g:=x.1.isLt;have d:=y.1.isLt;unfold pB;exact Uf O O
 go_enter Tryz.func298,Tryz.ntmps298
 go_wp2
 go_ret
 exact⟨rfl,0,_,by rw[alloc_eq_grow,alloc_eq_grow,grow_grow];rfl⟩
theorem Bs:SWO (ltOf pB) where
 irrefl x:=by simp[ltOf,pB]
 trans x y z a h2:=by
  have a:=ue a;have h2:=ue h2;unfold pB at a h2;exact zI (by unfold pB;omega)
 ntrans x y z a h2:=by
  have a:=yT a;have h2:=yT h2;unfold pB at a h2;exact zJ (by unfold pB;omega)
def ud (x:ub):Nat×Sl:=(x.1.val,x.2)
theorem JG (l:List ub)(j:Nat)(hj:j<l.length*2):(fK (l.map ud))[j]?=some (flatK kE 2 l.toArray)[j]! := by
 rw[get_flatK _ _ _ _ (by simpa using hj)];have hi:j/2<l.length:=by omega
 have e1:l.toArray[j/2]! = l[j/2]:=by rw[getElem!_pos _ _ (by simpa using hi)];simp
 have a:(l.map ud)[j/2]?=some (ud l[j/2]):=by simp[hi]
 have:=Mo a (d:=j%2) O;rw[show 2*(j/2)+j%2=j by omega]at this;rw[this,e1];have hd:j%2=0\/j%2=1:=by omega
 rcases hd with h|h<;>rw[h]<;>rfl
theorem Ep:G9:=by
 intro U F s xs hrow hk hlen R hR;rintro w rfl;have W:s.len=xs.length:=by have:=hrow.1;rw[Vm]at this;omega
 rcases hrow.2 with⟨h0,hc0⟩|⟨b,cs,hF,ha,hb,hle,hcl,ht⟩
 ·have E:xs=[]:=Dz.1 O;have:=AnyF.slices_SortFunc_none Tryz.pA s.a s.cap (.func (.func 298) #[] #[]) w;show Calls _ _ #[.slice s.a s.len s.cap,.func (.func 298) #[] #[]] w _;rw[h0];refine this.mono ?_;rintro e w' ⟨rfl,rfl⟩;subst E;exact⟨.refl _,[],rfl,hR [] _ (.refl _) List.Pairwise.nil (Ext.refl _ _) hrow⟩
 ·have L:∀x∈xs,x.1<64:=hk
  let toK:Nat×Sl->ub:=λx=>(Fin.ofNat 64 x.1,x.2)
  have u:(xs.map toK).map ud=xs:=by
   rw[lK]
   conv=>rhs;rw[←vR xs]
   apply kh;intro x hx;simp only[Function.comp,toK,ud,Fin.ofNat,id];rw[vH (L x hx)]
  have N:(xs.map toK).length=xs.length:=by simp
  generalize xs.map toK=l at u N;have C:=hb.lt;have hH:HoldsK kE 2 w b 0 l.toArray:=by
   intro j hj;simp only[size_flatK,yJ]at hj;have Y:Vc.cell w.heap ⟨b,0+j,none⟩=some (flatK kE 2 l.toArray)[j]! := by
    rw[hb.cell,zH,←JG l j hj,u];rw[←ht,zl,zC (by rw[Vm];omega)]
   exact⟨Y,hb.oe⟩
  have V:∀args w,(callFunc 298 args).run Tryz.prog w=.ok (.enter 298 args) w:=enters_of Tryz.func298 (by kernel_rfl) rfl;have B:∀w,(isAgg (Tryz.eW.t 24)).run Tryz.prog w=.ok true w:=λw=>by
   have h:=Vu (P:=Tryz.prog) (t:=Tryz.eW.t 24) (d:=(Tryz.prog.underlying (Tryz.eW.t 24)).getD .bool) (by kernel_rfl) w
   rwa [show UR ((Tryz.prog.underlying (Tryz.eW.t 24)).getD .bool)=true by kernel_rfl]at h
  have J:∀w,(Go.sizeOf (Tryz.eW.t 24)).run Tryz.prog w=.ok 2 w:=λw=>by
   have h:=Km (P:=Tryz.prog) (t:=Tryz.eW.t 24) (by kernel_rfl) w
   rwa [show Tryz.prog.cellsOf (Tryz.eW.t 24)=2 by kernel_rfl]at h
  have z:=AnyQ.slices_SortFunc Tryz.pA 2 B J kE (λ_=>rfl) (λx v S=>by simp only[kE,zW,yW,or_false]at S;rcases S with rfl|rfl<;>rfl) pB Bs 298 #[] b 0 s.cap l.toArray w V (λ_ _ _ _ x y=>CX x y _) hH C (by simp only[yJ];omega)
  show Calls _ _ #[.slice s.a s.len s.cap,.func (.func 298) #[] #[]] w _;rw[ha,show s.len=l.toArray.size by simp only[yJ];omega];refine z.mono ?_;rintro e w' ⟨rfl,d',n,os,Q,M,rfl⟩;have g:d'.size=l.length:=by simpa using Q.1
  have r:d'.toList.Perm l:=by
   have K:=Q.2.2;rw[show l.toArray.size=d'.size by simp[g]]at K;have e1:(d'.extract 0 d'.size)=d':=by simp
   have e2:(l.toArray.extract 0 d'.size)=l.toArray:=by rw[g];simp
   rw[e1,e2]at K;simpa using K
  obtain⟨ty,G⟩:=hb;have m:(sortWorldK kE 2 w b 0 n d' os).heap=(w.heap.modify b (onCells (putCells id 0 (flatK kE 2 d'))))++os:=rfl;have p:(w.heap.modify b (onCells (putCells id 0 (flatK kE 2 d')))).size=w.heap.size:=by simp
  refine⟨⟨rfl,rfl,rfl,by rw[m,Array.size_append,p];omega⟩,[],rfl,?_⟩;rw[m];have A:Ext F w.heap ((w.heap.modify b (onCells (putCells id 0 (flatK kE 2 d'))))++os):=by
   refine⟨by rw[Array.size_append,p];omega,λq Z X=>?_⟩;rw[wI (by rw[p];exact Z),yB,zB λ(e:b=q)=>X (by rw[←e];exact hF)]
  refine hR (d'.toList.map ud) _ ?_ ?_ A ⟨?_,.inr ⟨b,(putCells id 0 (flatK kE 2 d') cs.toArray).toList,hF,ha,⟨ty,?_⟩,hle,?_,?_⟩⟩
  ·rw[←u];exact r.map _
  ·rw[sv];rw[my];intro i j hi hj hij;have D:=M i j O hij (by simp only[xk]at hj;simp only[yJ];omega);rw[getElem!_pos d' i (by simpa using hi),getElem!_pos d' j (by simpa using hj)]at D;have D:=yT D;unfold pB at D;simp only[ud,Array.getElem_toList];omega
  ·rw[Vm,zj,xk,g];omega
  ·rw[wI (by rw[p];exact C),yB,zC rfl,G];simp[onCells]
  ·simp[putCells,hcl]
  ·rw[Vm,zj,xk,g];apply zt;intro j;rw[zl];by_cases hj:j<l.length*2
   ·rw[zC hj,JG d'.toList j (by simpa[g]using hj)];have H:j<cs.length:=by
     have:l.length*2<=s.cap*2:=mu _ O;omega
    simp only[putCells,A6,Array.getElem?_mapIdx,List.getElem?_toArray,cX H,ze];rw[zC ⟨O,by rw[size_flatK,g];omega⟩];simp
   ·rw[zB hj,zX (by rw[Vm,zj,xk,g];omega)]
end Go.Ar
namespace Go.Proofs
open Go.Vc
set_option maxRecDepth 100000
def X8.h:Hn:=.q .o1 (.q .o5 .l)
def X8.v (a:Sl)(b:Int)(c:Hp)(d:aO):Prop:=d (decide (((a.len:Nat):Int)>b)) c
theorem X8.o {a b c d}(e:X8.v a b c d):X8.c a b c d:=Wa Tryz.func14 (x:=X8.h) (R0 e)
def YY.h:Hn:=.q .o2 (.q (.q (.cU (.seq [.op,.op,.op,.op,.cW false 3 (RI.ops 3)])) (.c (.q .o3 .l) .l)) (.q (.oq 12) .l))
def YY.v (a:Sl)(b c d e f g h:Int)(i:ByteArray)(j:Hp)(k:aN):Prop:=aV #[.I b,.I c,.I d,.I e,.I f,.I g,.I h,.string i] 40 j λl m=>aQ l 4 m λn=>bX (λo p=>If o (aQ l 5 p λq=>k q p) (aQ l 4 p λr=>Nz ((a.len:Nat):Int) <| Ix a.a a.len (r.tmod ((a.len:Nat):Int)) 1 λs=>bN s p λt=>aQ l 5 p λu=>bM (t+u) λv=>k v p)) λw=>If (n<0) (w true m) (w (((a.len:Nat):Int)==0) m)
theorem YY.o {a b c d e f g h i j k}(l:YY.v a b c d e f g h i j k):YY.c a b c d e f g h i j k:=Wa Tryz.func25 (x:=YY.h) (R0 l)
def XN.h:Hn:=.q .o1 (.q .o4 .l)
def XN.v (a:Hp)(b:Option Addr->Hp->Prop):Prop:=WM.c 8 64 1 1 1024 2 a λc d=>b c d
theorem XN.o {a b}(c:XN.v a b):XN.c a b:=Wa Tryz.func39 (x:=XN.h) (R0 c)
def W8.h:Hn:=.q .o2 (.q .o5 .l)
def W8.v (a b c d e f:Int)(g:Hp)(h:aO):Prop:=aV #[.I a,.I b,.I c,.I d,.I e,.I f] 25 g λi j=>bN ((i.add 1).add 0) j λk=>h (decide (k>128)) j
theorem W8.o {a b c d e f g h}(i:W8.v a b c d e f g h):W8.c a b c d e f g h:=Wa Tryz.func52 (x:=W8.h) (R0 i)
def WM.h:Hn:=.q .o2 (.q .o8 (.q .o9 (.q (.q .o2 .aK) .aL)))
def WM.v (a b c d e f:Int)(g:Hp)(h:Option Addr->Hp->Prop):Prop:=aV #[.I a,.I b,.I c,.I d,.I e,.I f] 25 g λi j=>aQ i 0 j λk=>Xf.c k j λl m n=>bN ((i.add 1).add 0) n λo=>bN ((i.add 1).add 1) n λp=>bN ((i.add 1).add 2) n λq=>bN ((i.add 1).add 3) n λr=>bN ((i.add 1).add 4) n λs=>Vg.c l o p q r s n λt u v=>If (u != 0) (h none v) (h t v)
theorem WM.o {a b c d e f g h}(i:WM.v a b c d e f g h):WM.c a b c d e f g h:=Wa Tryz.func53 (x:=WM.h) (R0 i)
end Go.Proofs
namespace Go.Ar
open Go Go.Vc Go.Proofs
variable {U w w':Hp}{F P Q:Rg}{L:dE}{H H':Hw}{held:List Pc}{s0:Sp}{t n:Nat}{g:Th}
structure fo where
 kd:Int
 th:Int
 a:Int
 b:Int
 of:Int
 pl:Int
 va:Int
 s:ByteArray
def uD (d:fo):List Value:=[.int .i64 d.kd,.int .i64 d.th,.int .i64 d.a,.int .i64 d.b,.int .i64 d.of,.int .i64 d.pl,.int .i64 d.va,.string d.s]
def jx (x:Int):Prop:=-9223372036854775808<=x/\x<=9223372036854775807
structure kT (d:fo):Prop where
 a:jx d.a
 b:jx d.b
 pl:jx d.pl
 va:jx d.va
structure ka (U:Hp) (sl:Sl) (ds:List fo):Prop where
 len:sl.len=ds.length
 at_:∀(i:Nat) (d:fo),ds[i]?=some d->∃b o,sl.a=some ⟨b,o,none⟩/\b<U.size/\∀(j:Nat) v,(uD d)[j]?=some v->cell U ⟨b,o+i*8+j,none⟩=some v
 i:∀d∈ds,kT d
 yv:ds.length<=9223372036854775807
theorem ka.bP {sl:Sl}{ds:List fo}(h:ka U sl ds)(e:aG U w):ka w sl ds:=⟨h.len,λi d r=>by
 obtain⟨b,o,p,m,g⟩:=h.at_ i d r;exact⟨b,o,p,by have:=e.1;omega,λj v a=>by rw[KR e m id];exact g j v a⟩,h.i,h.yv⟩
theorem ka.rd {sl:Sl}{ds:List fo}(h:ka U sl ds)(e:aG U w){i:Nat}{d:fo}(hx:ds[i]?=some d){K:Addr->Prop}(hK:∀b o,(∀w',aG U w'->∀(j:Nat) v,(uD d)[j]?=some v->cell w' ⟨b,o+j,none⟩=some v)->K ⟨b,o,none⟩):Ix sl.a sl.len (i:Int) 8 K:=by
 obtain⟨b,o,u,s,r⟩:=h.at_ i d hx;have x:=(cY.1 hx).1;have g:=h.len;rw[u];refine ix O O ?_;rw[add_lit,dH];exact hK b _ λw' m j v p=>by rw[KR m s id];exact r j v p
theorem B7 {b o i:Nat}{h:Hp}{x:ByteArray}{K:ByteArray->Prop}(hc:cell h ⟨b,o+i,none⟩=some (.string x))(hK:K x):wE (Addr.add ⟨b,o,none⟩ i) h K:=⟨x,by rw[add_lit];exact hc,hK⟩
theorem _root_.Go.Vc.bZ.rT {b o i:Nat}{cs:List Value}(hb:bZ U b cs){x:ByteArray}{K:ByteArray->Prop}(hc:cs[o+i]?=some (.string x))(hK:K x):wE (Addr.add ⟨b,o,none⟩ i) U K:=⟨x,by rw[add_lit,hb.cell];exact hc,hK⟩
def sL (ad:List Int)(d:fo):Int:=if d.of<0\/ad=[]then d.pl else IntKind.i64.wrap (ad.getD (d.of.toNat%ad.length) 0+d.pl)
theorem Tz {ad:List Int}{d:fo}(h:kT d):jx (sL ad d):=by
 unfold sL;split
 ·exact h.pl
 ·exact Sy _
theorem Pd {addrs:Sl}{ad:List Int}(hs:cV addrs 1 (Wu ad) U F)(d:fo){R:aN}(hR:∀σ',aG U σ'->R (sL ad d) σ'):YY.c addrs d.kd d.th d.a d.b d.of d.pl d.va d.s U R:=by
 refine YY.o ?_;unfold YY.v;have A:addrs.len=ad.length:=by have:=hs.1;simp[Wu]at this;omega
 refine nw (cs:=uD d) λv D e j=>j.rI rfl (Kd (λr w=>w=v/\r=decide (d.of<0\/ad=[])) (λr w ⟨B,z⟩=>?_) λJ x=>cP (λm=>x _ _ ⟨rfl,by rw[zI (.inl m)]⟩) λm=>x _ _ ⟨rfl,?_⟩)
 ·subst B;have g:=hR w e;by_cases hc:d.of<0\/ad=[]
  ·refine cF (by rw[z];exact zI hc) (j.rI rfl ?_);unfold sL at g;rw[zC hc]at g;exact g
  ·have i:0<ad.length:=py.2 λh=>hc (.inr h);refine cD (by rw[z];exact zJ hc) (j.rI rfl (nz O ?_));have u:0<=d.of:=by omega
   have C:d.of.tmod (addrs.len:Int)=((d.of.toNat%ad.length:Nat):Int):=by
    rw[Kg u,A,Int.natCast_emod,Int.toNat_of_nonneg u]
   rw[C];have p:d.of.toNat%ad.length<ad.length:=vG _ i;have y:ad[d.of.toNat%ad.length]?=some ad[d.of.toNat%ad.length]:=cX p;refine(cV.loc _ _ _ |>.bP (aH.cut hs) e).lV y (j.rI rfl (vD ?_));unfold sL at g;rw[zB hc,zQ,y]at g;exact g
 ·rw[A];rw[kA];simp only[zT,zV];constructor
  ·intro h;exact .inr (Dz.1 O)
  ·rintro(h|h)
   ·exact(m h).elim
   ·rw[h];rfl
theorem N5 {l:Sl}{most:Int}{R:aO}(hR:R (decide ((l.len:Int)>most)) U):X8.c l most U R:=by
 refine X8.o ?_;unfold X8.v;exact hR
theorem TF {xs:List (Int×Int×Int)}(h:QU xs=true):(xs.map QE).map m4=xs:=by
 rw[lK]
 conv=>rhs;rw[←vR xs]
 apply kh;intro t ht;obtain⟨i,hi⟩:=zP ht;have:=((QQ xs).1 h).2.2.1 i t hi;obtain⟨c,_,g,d,b,a⟩:=A0 this;simp only[Function.comp,id];rw[show QE t=c from g];unfold m4;rw[←d,←b,←a]
theorem O7 {xs:List (Int×Int×Int)}(h:QU xs=true):(xs.map QE).length<=40/\∀c∈xs.map QE,c.ok:=by
 refine⟨by have:=((QQ xs).1 h).2.1;simpa using this,λc b=>?_⟩;obtain⟨t,g,rfl⟩:=zE.1 b;obtain⟨i,hi⟩:=zP g;have:=((QQ xs).1 h).2.2.1 i t hi;obtain⟨c,a,d,_⟩:=A0 this;rw[show QE t=c from d];exact a
structure uC (H:Hw) (aF:Int):Prop where
 hi:HI H [] (VY H.cf.aF)
 cf:iS H
 pg:(H.cf.aF:Int)=aF
 live:H.live=[]
 ph:∀g∈H.bR,g.ph=none
 th:1<=H.cf.threads
theorem JY {xs:List (Int×Int×Int)}{p a t b r:Int}(h:QU xs=true)(hc:sS p a t b r=true):uC (Uv (xs.map QE) ⟨p.toNat,a.toNat,t.toNat,b.toNat,r.toNat⟩) p:=by
 obtain⟨⟨q1,q2,q3⟩,⟨q4,u⟩,⟨m,s⟩,_⟩:=(Lq p a t b r).1 hc;obtain⟨d,i⟩:=O7 h;refine⟨WnL (cf:=⟨p.toNat,a.toNat,t.toNat,b.toNat,r.toNat⟩) aC aC aC aC d i,⟨by simp only[Uv];omega,by simp[Uv],?_⟩,by simp only[Uv];omega,rfl,λg j=>by rw[CA j],by simp only[Uv];omega⟩;show QU ((xs.map QE).map m4)=true;rw[TF h];exact h
theorem OF (g:Gl U)(gd:Gd U)(b b1 b2 b3 b4 b5:Int){R:Option Addr->Hp->Prop}(h0:∀σ',aG U σ'->R none σ')
 (h1:∀σ' L N H,aG U σ'->U.size<=N->N<=σ'.size->HH σ' (λb=>N<=b) L H->uC H b1->R (some ⟨L.p,0,none⟩) σ'):WM.c b b1 b2 b3 b4 b5 U R:=by
 refine WM.o ?_;unfold WM.v;refine nw (cs:=[.int .i64 b,.int .i64 b1,.int .i64 b2,.int .i64 b3,.int .i64 b4,.int .i64 b5]) λv E e j=>j.rI rfl ?_;by_cases hw:2<=b/\b<=16
 ·refine Ev b hw.1 hw.2 λs D e1 w=>?_;have d:=e1.bV j id;have a:=e.trans e1;have m:QU (rO b)=true:=by
   have:=Gw b.toNat O O;rw[show((b.toNat:Nat):Int)=b by omega]at this;exact this
  refine d.fM rfl (d.fM rfl (d.fM rfl (d.fM rfl (d.fM rfl ?_))));refine CI w (g.bP a) (gd.bP a) b1 b2 b3 b4 b5 (λr=>by rw[m]at r;cases r) (λ_ A u e2=>?_) λ_ A u L e2 B=>?_
  ·exact cF rfl (h0 u (a.trans e2))
  ·exact cD rfl (h1 u L D.size _ (a.trans e2) a.1 e2.1 B (JY m A))
 ·refine Pg b O (j.fM rfl (j.fM rfl (j.fM rfl (j.fM rfl (j.fM rfl ?_)))));have w:im v ⟨none,0,0⟩ []:=⟨rfl,λi x y z C=>by simp at C⟩;refine CI w (g.bP e) (gd.bP e) b1 b2 b3 b4 b5 (λ_ u e2=>cF rfl (h0 u (e.trans e2))) (λm=>?_) λm=>?_
  ·exact absurd m aB
  ·exact absurd m aB
def Safe (H:Hw)(d:fo)(x:Int)(e:Int×Bk):Prop:=(∀j,fF H j≠some (.find e.1))/\¬((d.kd=3\/d.kd=1\/d.kd=6)/\e.1<=x/\x<e.1+e.2.2.1)
structure nL (H:Hw) (d:fo) (x:Int) (H':Hw):Prop where
 hi:∃held s0,HI H' held s0
 kp:QW H' H
 fx:∀e∈H.live,Safe H d x e->e∈H'.live/\(∀w:Nat,e.1<=((8*w:Nat):Int)->((8*w:Nat):Int)<e.1+e.2.2.1->H'.sp.wd w=H.sp.wd w)/\∀j,fF H' j≠some (.find e.1)
theorem nL.same (h:HI H held s0)(d:fo)(x:Int):nL H d x H:=⟨⟨_,_,h⟩,QW.refl _,λe a b=>⟨a,λ_ _ _=>rfl,b.1⟩⟩
theorem nL.op (h:HI H held s0){d:fo}{x:Int}(o:fS H H')(hl:∀e∈H.live,Safe H d x e->e∈H'.live):nL H d x H':=
 ⟨o.hi,o.kp,λe a b=>⟨hl e a b,h.kl o.ks e a,λj=>by rw[o.ph];exact b.1 j⟩⟩
theorem nL.ar {d:fo}{x:Int}(o:mW H H'):nL H d x H':=
 ⟨o.hi,o.kp,λe a b=>⟨by rw[o.live];exact a,o.kl e a,λj=>by unfold fF;rw[o.bR];exact b.1 j⟩⟩
theorem HI.oP (h:HI H held s0){e:Int×Bk}(he:e∈H.live):8<=e.2.2.1/\0<=e.1/\e.1%8=0/\e.2.2.1%8=0/\e.1+e.2.2.1<=270000:=by
 obtain⟨_,p,g,D,C,J,G,_⟩:=h.lv e he;have E:=h.A3.size_pos g;have z:=h.A3.jR g;obtain⟨A,w,hd⟩:=h.A3.hf p g;have B:p.addr%8=0:=by
  rcases hd with⟨_,_,r,hr,c2,c3⟩|⟨j,c,c1,c2,c3,c4,_⟩
  ·omega
  ·obtain⟨a,y,b,u⟩:=c4;have:a=c:=Option.some.inj (b.1.symm.trans c2);subst this;have m:=(h.A3.ga _ A w).cG j a y b;obtain⟨l,s,i,F,hi,e,_⟩:=(V9 m).1 u;have d:=m.ok;unfold cA.ok at d;unfold at_ at e;have x:a.size=8*(a.size/8):=by omega
   have:i*a.size=8*(i*(a.size/8)):=by rw[Nat.mul_left_comm,←x]
   omega
 omega
theorem nL.write (h:HI H held s0){d:fo}{x:Int}(hd:d.kd=3)(v:Int):nL H d x {H with sp:=ZD H.sp x v}:=by
 refine⟨⟨_,_,h.write x v⟩,⟨rfl,rfl,rfl,rfl⟩,λe a b=>⟨a,λw j g=>?_,b.1⟩⟩;have m:=h.oP a;rw[(BO H.sp x v).2.2,zB];rintro⟨h0,hw⟩;have i:=El h0;exact b.2 ⟨.inl hd,O,O⟩
theorem nL.free (h:HI H held s0){d:fo}{x thread e:Int}(hd:d.kd=1)(o:fS H H')(hf:nQ H thread x H' e):nL H d x H':=by
 refine nL.op h o λi a g=>?_;have j:=h.oP a;rcases hf with⟨_,h2,_⟩|⟨_,_,_,h4⟩|⟨_,b,_,_,h4⟩
 ·rw[h2];exact a
 ·rw[h4];exact a
 ·rw[h4];refine Au.2 ⟨a,λm=>g.2 ⟨.inr (.inl hd),O,O⟩⟩
theorem nL.step (h:HI H held s0){d:fo}{x:Int}(hg:H.bR[t]?=some g){p:Ph}(hp:g.ph=some p):nL H d x (Q9 H t p):=by
 have J:=(cY.1 hg).1;have s:=h.Pv hg hp;have B:fF H t=some p:=by unfold fF;rw[hg];exact hp
 have live:∀e∈H.live,p≠.find e.1->e∈(Q9 H t p).live:=λe i A=>by
  by_cases hf:lI p
  ·obtain⟨_,_,_,G,r⟩:=rp h hg hp hf;by_cases u:∃y,p=.find y
   ·obtain⟨y,rfl⟩:=u;cases hm:bU H.live y with
    | none=>rw[((r y rfl).1 hm).2.2];exact i
    | some b=>
     rw[((r y rfl).2 b hm).2];exact Au.2 ⟨i,λa=>A (by rw[a])⟩
   ·rw[(G λy a=>u ⟨y,a⟩).2];exact i
  ·obtain⟨cl,K,E⟩:=Bz h hg hp hf;obtain⟨_,m⟩:=rE h hg hp E;rcases m with⟨_,_,_,e2,_⟩|⟨_,_,_,e4⟩|⟨_,_,e3,e4⟩
   ·rw[e2];exact i
   ·rw[e4];exact i
   ·rw[e4];exact(yI e3).2 (.inl i)
 have D:∀y,(WG H t p).2.1≠some (.find y):=λy a=>by
  by_cases hf:lI p
  ·obtain⟨_,_,m,_⟩:=rp h hg hp hf;rcases m with⟨p',z,e1,_,e3,_⟩|e1
   ·rw[e1]at a;exact e3 y (Option.some.inj a)
   ·rw[e1]at a;cases a
  ·obtain⟨cl,K,E⟩:=Bz h hg hp hf;obtain⟨_,m⟩:=rE h hg hp E;rcases m with⟨p',z,e1,_,_,e4,_⟩|⟨e1,_⟩|⟨e1,_⟩
   ·rw[e1]at a;cases a;exact e4.elim
   ·rw[e1]at a;cases a
   ·rw[e1]at a;cases a
 refine⟨s.hi,U0 H t p,λe i F=>⟨live e i λu=>F.1 t (by rw[B,u]),h.kl s.ks e i,λj=>?_⟩⟩;by_cases hj:j=t
 ·subst hj;obtain⟨z,C,w⟩:=HW (p:=p) J;unfold fF;rw[C];show z.ph≠_;rw[w];exact D _
 ·unfold fF;rw[UT p hj];exact F.1 j
end Go.Ar
namespace Go.Ar
open Go Go.Vc Go.Proofs
variable {U w w':Hp}{F P Q X:Rg}{L:dE}{H H':Hw}{held:List Pc}{s0:Sp}{t n:Nat}{g:Th}
structure fZ (σ0 U:Hp) (L:dE) (H:Hw) (held:List Pc) (s0:Sp) (P Q:Rg) (addrs:Sl) (ad:List Int):Prop where
 e:aG σ0 U
 h:HH U P L H
 hi:HI H held s0
 cf:iS H
 pg:H.cf.aF<=128
 pP:∀b,P b->σ0.size<=b/\b<U.size
 pQ:∀b,Q b->σ0.size<=b/\b<U.size/\¬P b
 row:bS addrs 1 (Wu ad) U Q
 al:ad.length<=60
 g0:jf (λb=>σ0.size<=b)/\¬σ0.size<=1
variable {σ0:Hp}{addrs:Sl}{ad:List Int}
theorem fZ.step (p:fZ σ0 U L H held s0 P Q addrs ad){ts':List eR}(e:Ext P U w)(h':HH w (Grow P U) {L with ts:=ts'} H'){held':List Pc}{s0':Sp}(hi':HI H' held' s0')(k:QW H' H) :
 fZ σ0 w {L with ts:=ts'} H' held' s0' (Cut (Grow P U) w) Q addrs ad:=by
 have j:=e.1;refine⟨Ext.dW p.e e λb a=>.inr (p.pP b a).1,h'.cut,hi',p.cf.bT k,by rw[k.2.1];exact p.pg,λb a=>⟨?_,a.2⟩,λb a=>?_,aI.bT p.row e λb _ g d=>(p.pQ b g).2.2 d,p.al,p.g0⟩
 ·have:=p.e.1;rcases a.1 with h1|h1
  ·exact(p.pP b h1).1
  ·omega
 ·obtain⟨q1,q2,q3⟩:=p.pQ b a;exact⟨q1,O,λi=>by
   rcases i.1 with h1|h1
   ·exact q3 h1
   ·omega⟩
theorem fZ.fr (p:fZ σ0 U L H held s0 P Q addrs ad)(e:aG U w):fZ σ0 w L H held s0 P Q addrs ad:=
 ⟨p.e.trans e,p.h.bP e,p.hi,p.cf,p.pg,λb a=>⟨(p.pP b a).1,by have:=(p.pP b a).2;have:=e.1;omega⟩,λb a=>⟨(p.pQ b a).1,by have:=(p.pQ b a).2.1;have:=e.1;omega,(p.pQ b a).2.2⟩,aI.bP p.row e,p.al,p.g0⟩
theorem fZ.out (p:fZ σ0 U L H held s0 P Q addrs ad){T:Rg}(e:Ext T U w)(hT:∀b,b<U.size->T b->¬P b/\¬Q b/\σ0.size<=b):fZ σ0 w L H held s0 P Q addrs ad:=by
 have r:=e.1;have g:Ext (λb=>T b/\b<U.size) U w:=⟨e.1,λb a j=>e.2 b a λd=>j ⟨d,a⟩⟩;refine⟨Ext.dW p.e g λb a=>.inr (hT b a.2 a.1).2.2,p.h.bT g (λb a i d=>(hT b a d.1).1 i) (λb a=>?_) (λa=>?_),p.hi,p.cf,p.pg,λb a=>⟨(p.pP b a).1,by have:=(p.pP b a).2;omega⟩,λb a=>⟨(p.pQ b a).1,by have:=(p.pQ b a).2.1;omega,(p.pQ b a).2.2⟩,aI.bT p.row g λb a m d=>(hT b a d.1).2.1 m,p.al,p.g0⟩
 ·exact p.g0.1 b (hT b a.2 a.1).2.2
 ·exact p.g0.2 (hT _ a.2 a.1).2.2
theorem xN (hr:bS addrs 1 (Wu ad) U Q)(hl:ad.length<=1000000)(x:Int){e t:Nat}{K:Sl->Hp->Prop}(hK:∀s' w,Ext Q U w->bS s' 1 (Wu (ad++[x])) w (λb=>Q b\/U.size<=b/\b<w.size)->K s' w) :
 Nw (.cells #[.int .i64 x] t (0,0)) U λn v=>App addrs 1 8 e [.int .i64 0] ⟨some n,1,1⟩ v K:=by
 have i:addrs.len=ad.length:=by have:=hr.1;simp[Wu]at this;omega
 refine bS.push (F:=λb=>Q b\/U.size<=b) (vs:=[.int .i64 x]) (aI.mono hr λb _ a=>.inl a) (λb a=>.inr a) rfl rfl (by simp[dU]) O O λs' w j g p=>hK s' w ⟨g.1,λb a m=>g.2 b a λd=>d.elim m λd=>O⟩ ?_;have:Wu (ad++[x])=Wu ad++[.int .i64 x]:=by simp[Wu]
 rw[this];refine aI.mono (aI.cut p) λb a d=>?_;rcases d.1 with h1|h1
 ·exact .inl h1
 ·exact .inr ⟨h1,a⟩
end Go.Ar
namespace Go.Ar
open Go.Vc (bU dA cO)
def i63 (x:Int):Bool:=decide (x<=9223372036854775807)
def qG (H:Hw)(t:Nat):Ph->Bool
 | .take k=>decide (k<H.tb.length)&&(match KI (H.cls k) ((H.jY t).li k)with
  | (some y,_)=>i63 y
  | (none,_)=>true)
 | .cI k _=>decide (k<H.tb.length)&&(Qz (H.eM t) (k:Int) != 0 || !(YM (H.eM t) (k:Int)).isEmpty)
 | .cL _ _=>true
 | .grow _ _=>true
 | .fill=>match (H.jY t).bQ with
  | (k,x::xs)::_=>decide (k<H.tb.length)&&(i63 x&&decide (((H.jY t).li k).os.length+xs.length<=256))
  | _=>false
 | .eP m=>decide (Qy (H.eM t) H.sp (m:Int) 1<=1000000)
 | .find x=>i63 x&&((bU H.live x).isSome&&decide (0<=x))
 | .put k _=>decide (k<H.tb.length) && !(H.jY t).bQ.isEmpty
 | .back=>match (H.jY t).bQ with
  | (_,xs)::_=>(xs.all λx=>i63 x&&decide (0<=Yd H.bY x))&&decide (xs.length<=1000000)
  | _=>false
 | .dG _ a=>decide (0<=a)&&(decide (a.toNat<H.bY.length)&&H.bY.all λA=>A.runs.all λr=>decide (r.1<=1000000))
 | .drain=>true
theorem yP {x:Int}(h:i63 x=true):iN x:=by
 unfold i63 at h;unfold iN;exact ue h
theorem θ {H:Hw}{t:Nat}{p:Ph}(h:qG H t p=true):vF H t p:=by
 cases p with
 | take k=>
  simp only[qG,zF,zV]at h;refine⟨h.1,λy l u=>?_⟩;have i:=h.2;rw[u]at i;exact yP i
 | cI k w=>
  simp only[qG,zF,zV,nI]at h;refine⟨h.1,λj d=>?_⟩;rw[j,d]at h;simp at h
 | cL k w=>trivial
 | grow k w=>trivial
 | fill=>
  simp only[qG]at h;split at h
  ·rename_i k x xs r hh;simp only[zF,zV]at h;exact⟨k,x,xs,r,hh,h.1,yP h.2.1,h.2.2⟩
  ·cases h
 | eP m=>
  simp only[qG,zV]at h;exact h
 | find x=>
  simp only[qG,zF,zV]at h;exact⟨yP h.1,λz=>by rw[z]at h;simp at h,λb _=>h.2.2⟩
 | put k x=>
  simp only[qG,zF,zV]at h;exact⟨h.1,λd=>by rw[d]at h;simp at h⟩
 | back=>
  simp only[qG]at h;split at h
  ·rename_i k xs r hh;simp only[zF,zV,kx]at h;exact⟨k,xs,r,hh,λx g=>⟨yP (h.1 x g).1,(h.1 x g).2⟩,h.2⟩
  ·cases h
 | dG s a=>
  simp only[qG,zF,zV,kx]at h;exact⟨h.1,h.2.1,h.2.2⟩
 | drain=>trivial
def pj:Nat->Hw->Nat->Ph->Option (Hw×Int×Int)
 | 0,_,_,_=>none
 | n+1,H,t,p=>if qG H t p&&decide ((H.jY t).bQ.length<=900)then(match (WG H t p).2.1 with
  | none=>some (Q9 H t p,(WG H t p).2.2.1,(WG H t p).2.2.2)
  | some p'=>pj n (Q9 H t p) t p')else none
theorem Ly:∀{n:Nat} {H:Hw} {t:Nat} {p:Ph} {r:Hw×Int×Int},pj n H t p=some r->∃m,iI m H t p r.1 r.2.1 r.2.2
 | 0,_,_,_,_,h=>by simp[pj]at h
 | n+1,H,t,p,r,h=>by
  rw[pj]at h;split at h
  ·rename_i hc;simp only[zF,zV]at hc;have hok:wj H t p:=⟨θ hc.1,λg a=>by rw[←GX a];exact hc.2⟩;split at h
   ·rename_i hn;cases h;exact⟨1,.done hok hn⟩
   ·rename_i p' hs;obtain⟨m,b⟩:=Ly h;exact⟨m+1,.next hok hs b⟩
  ·cases h
def UQ (H:Hw)(thread kind size align addr:Int):Option (Hw×Int×Int):=match KY H thread kind size align addr with
 | .inl e=>if e=0 then none else some (H,0,e)
 | .inr (t,p)=>pj 40 (eY H t (some p)) t p
theorem IU {H:Hw}{thread kind size align addr:Int}{r:Hw×Int×Int}(h:UQ H thread kind size align addr=some r):KG H thread kind size align addr r.1 r.2.1 r.2.2:=by
 unfold UQ at h;split at h
 ·rename_i e he;split at h
  ·cases h
  ·rename_i hne;cases h;exact .inl ⟨he,hne,rfl,rfl⟩
 ·rename_i t p he;obtain⟨m,a⟩:=Ly h;exact .inr ⟨t,p,m,he,a⟩
def Lz:List cA:=(rO 8).map QE
def w0:Hw:=Uv Lz ⟨64,1,1,1024,2⟩
theorem xM:Uv ((rO 8).map QE) ⟨(64:Int).toNat,(1:Int).toNat,(1:Int).toNat,(1024:Int).toNat,(2:Int).toNat⟩=w0:=rfl
end Go.Ar
namespace Go.Ar
open Go Go.Vc Go.Proofs
variable {U u u':Hp}{F:Rg}{L:dE}{H H':Hw}{N:Nat}
attribute [local irreducible] w0 Lz
theorem Ox (g:Gl U)(gd:Gd U){R:Option Addr->Hp->Prop}(hR:∀σ' L N,aG U σ'->U.size<=N->N<=σ'.size->HH σ' (λb=>N<=b) L w0->R (some ⟨L.p,0,none⟩) σ'):XN.c U R:=by
 refine XN.o ?_;unfold XN.v;refine WM.o ?_;unfold WM.v;refine nw (cs:=[.int .i64 8,.int .i64 64,.int .i64 1,.int .i64 1,.int .i64 1024,.int .i64 2]) λv y e j=>j.rI rfl ?_;refine Ev 8 aB aB λs u e1 x=>?_;have a:=e1.bV j id;have d:=e.trans e1;refine a.fM rfl (a.fM rfl (a.fM rfl (a.fM rfl (a.fM rfl ?_))));refine CI x (g.bP d) (gd.bP d) 64 1 1 1024 2 (λi=>?_) (λ_ r=>?_) λ_ _ w L e2 m=>?_
 ·have:=Gw 8 aB aB;rw[show((8:Nat):Int)=8 from rfl]at this;rw[this]at i;cases i
 ·exact absurd r aB
 ·rw[xM]at m;exact cD rfl (hR w L u.size (d.trans e2) d.1 e2.1 m)
end Go.Ar
namespace Go.Proofs
open Go.Vc
set_option maxRecDepth 100000
def Y8.h:Hn:=.q .o1 (.q (.q .o3 .aK) (.q .o1 (.q (.q .o8 (.k (.loop [(3,.one .s),(16,.I)] (.q .o1 (.q (.c .l .l) (.q (.k (.q .o3 (.o 11))) .o2)))))) .aL)))
def Y8.v (a:R2)(b:Hp)(c:Sl->Hp->Prop):Prop:=Xk.c a b λd e=>If (!d) (c ⟨none,0,0⟩ e) (bJ a 1 e λg=>Zz.c g e λh i=>V5.c h i λj k=>Yb [.s,bO] (λl=>l ⟨none,0,0⟩ 0 k) λm (n:Sl) (o:Int) p=>If (o<((j.len:Nat):Int)) (Ix j.a j.len o 1 λq=>bN q p λr=>bW a λs=>bC s 1 p λt=>Lk .i64 (.ag 5) t r p λu=>aV #[.I ((u.getD (0,0,0,0,0)).1),.I ((u.getD (0,0,0,0,0)).2.1),.I ((u.getD (0,0,0,0,0)).2.2.1),.I ((u.getD (0,0,0,0,0)).2.2.2.1)] 48 p λv w=>App n 4 32 48 [.I 0,.I 0,.I 0,.I 0] ⟨some v,1,1⟩ w λx y=>bM (o+1) λz=>m x z y) (c n p))
theorem Y8.o {a b c}(d:Y8.v a b c):Y8.c a b c:=Wa Tryz.func33 (x:=Y8.h) (R0 d)
def Ka.h:Hn:=.q .o2 (.q (.q .o3 .aJ) (.q .o7 .l))
def Ka.v (a:R2)(b:Hp)(c:Option Addr->Int->Hp->Prop):Prop:=Q2.c a b λd e=>If (!d) (c none 1 e) (Nw (.map #[] 0) e λf g=>Nw (.map #[] 0) g λh i=>aV #[.pointer a,.map (some f.block),.map (some h.block),.I 0] 75 i λj k=>c (some j) 0 k)
theorem Ka.o {a b c}(d:Ka.v a b c):Ka.c a b c:=Wa Tryz.func38 (x:=Ka.h) (R0 d)
def XE.h:Hn:=.q .o1 (.q (.q .o3 .aK) (.q .o5 .l))
def XE.v (a:R2)(b:Hp)(c:Option Addr->Hp->Prop):Prop:=Xk.c a b λd e=>If (!d) (c none e) (bG a 0 e λg=>c g e)
theorem XE.o {a b c}(d:XE.v a b c):XE.c a b c:=Wa Tryz.func43 (x:=XE.h) (R0 d)
def Ya.h:TX:=.nx (.o 3) (.nx (.seq (.o 3) (.cond (.seq (.o 2) (.leaf)) (.leaf))) (.nx (.seq (.cU (.seq [.op,.op,.op,.cW false 2 [.op,.op],.op,.cW false 2 [.op,.op],.op,.cW false 2 [.op,.op],.op,.cW false 5 [.op,.op,.op,.op,.op]])) (.cond (.seq (.o 2) (.leaf)) (.leaf))) (.nx (.o 3) (.nx (.o 5) (.nx (.cU (.held true [] (.take 0 (.take 1 (.take 2 (.take 3 (.take 4 (.take 5 (.take 6 (.take 10 (.all [(7,.take 8 (.take 9 (.all [(11,.take 12 (.take 13 (.take 14 (.take 15 (.take 16 (.done))))))])))]))))))))))) (.nx (.seq (.o 2) (.cond (.seq (.o 3) (.leaf)) (.leaf))) (.nx (.o 8) (.nx (.o 16) (.nx (.o 12) (.r1 (.o 2) bO (.block (.cU (.held true [] (.take 0 (.take 1 (.take 2 (.take 3 (.take 4 (.take 5 (.all [(6,.all [(7,.done)])])))))))))) (.seq (.o 3) (.seq (.cU (.held true [8] (.take 0 (.take 1 (.take 2 (.take 3 (.take 4 (.take 5 (.take 6 (.take 7 (.all [(8,.done)]))))))))))) (.seq (.o 5) (.leaf))))))))))))))
def Ya.v (a:R2)(b c d:Int)(e:Hp)(f:Int->Int->Hp->Prop):Prop:=aV #[.pointer a] 50 e λg h=>fY g h λi=>Xk.c i h λj k=>If (!j) (f 0 5 k) (bX (λl m=>bX (λn o=>bX (λp q=>bX (λr s=>If r (f 0 1 s) (aV #[.I 0,.I 0,.I 0,.I 0,.I 0] 106 s λt u=>aR t 0 (.I 0) u λv=>aR t 1 (.I c) v λw=>aR t 2 (.I 0) w λx=>aR t 3 (.I 0) x λy=>aR t 4 (.I 0) y λz=>dV z λaa=>gK aa .p g λ(ab:R2)=>bW ab λac=>aU aa ac 0 λad=>aS aa t 0 λae=>aS aa t 1 λaf=>aS aa t 2 λag=>aS aa t 3 λah=>aS aa t 4 λai=>XG.c ae af ag ah ai z λaj ak=>And (aa ak) <| bM ((if 16>d then 16 else d)+aj) λal=>bM (al+16) λam=>Y1.c ad b am (if 16>d then 16 else d) ak λan ao ap=>And (aa ap) <| If (ao != 0) (f 0 ao ap) (fY g ap λaq=>bE aq 3 ap λau=>bM (au+1) λav=>bW aq λaw=>aR aw 3 (.I av) ap λax=>fY g ax λay=>bE ay 3 ax λa0=>bM (an+(if 16>d then 16 else d)) λa1=>aR t 4 (.I a0) ax λa2=>dZ ((t.add 0).add 2) (.I an) a2 λa3=>dZ ((t.add 0).add 0) (.I a1) a3 λa4=>fY g a4 λa5=>bG a5 0 a4 λa7=>XR.c a7 an a4 λa8 a9 ba=>dZ ((t.add 0).add 3) (.I a8) ba λbb=>aQ t 0 bb λbc=>aQ t 1 bb λbd=>aQ t 2 bb λbe=>aQ t 3 bb λbf=>aQ t 4 bb λbg=>
 XZ.c bc bd be bf bg bb λbh bi=>DJ Tryz.prog (e1 bO) bh bi (λ(bj:Int) bk bl=>dV bl λbm=>gK bm .p g λ(bn:Option Addr)=>bW bn λbo=>aU bm bo 0 λbp=>Z0.c bj bl λbq br=>And (bm br) <| Xw.c bp bj bq br λbs bt=>And (bm bt) <| bk bt) λbu=>fY g bu λbv=>aQ t 0 bu λbw=>aQ t 1 bu λbx=>aQ t 2 bu λbz=>aQ t 3 bu λb0=>aQ t 4 bu λb1=>Yu.c bv bw bx bz b0 b1 0 bu λb2=>dV b2 λb3=>gK b3 .p g λ(b4:Option Addr)=>bW b4 λb5=>gK b3 .m (b5.add 1) λ(b6:Option Nat)=>gK b3 bO ((t.add 0).add 0) λ(b7:Int)=>aS b3 t 0 λb8=>aS b3 t 1 λb9=>aS b3 t 2 λca=>aS b3 t 3 λcb=>aS b3 t 4 λcc=>kQ .i64 (.ag 5) b6 b7 (b8,b9,ca,cb,cc) b2 λcd=>bN ((t.add 0).add 0) cd λce=>vf bi.size cd λcf=>f ce 0 cf))) λcg=>If p (cg true q) (bM (d-1) λch=>cg ((bits .and .i64 d ch) != 0) q)) λci=>If n (ci true o) (ci (decide (d>256)) o)) λcj=>If l (cj true m) (cj (decide (d<1)) m)) λck=>If (c<1) (ck true k) (ck (decide (c>1024)) k))
theorem Ya.o {a b c d e f}(g:Ya.v a b c d e f):Ya.c a b c d e f:=Lg Tryz.func56 (x:=Ya.h) (R0 g)
def Xk.h:Hn:=.q .o1 (.q (.cU (.seq [.op,.op,.op,.cW true 5 (RI.ops 5),.op])) .l)
def Xk.v (a:R2)(b:Hp)(c:aO):Prop:=bX (λd e=>c d e) λf=>If (!a.isNone) (bG a 0 b λh=>f (!h.isNone) b) (f false b)
theorem Xk.o {a b c}(d:Xk.v a b c):Xk.c a b c:=Wa Tryz.func58 (x:=Xk.h) (R0 d)
def ZG.h:Hn:=.q .o2 (.q .o1 (.q .o2 (.q (.q .o5 (.k (.loop [(9,.one .b),(10,.one .b)] (.q (.cU (.seq [.it .i64 (.ag 5),.op])) (.q (.c .l .l) (.k (.q (.cU (.seq [.it .i64 (.ag 5),.op,.op,.op])) (.q (.q (.cU (.gI true [] [(38,.one .b)] (.tk [0,1,2,3,4,5] (.split 28 (.tk [6,7,8,9,10,11,12,13,14,15] (.done)) (.tk [6,7,8,9,10,11] (.all [(12,.tk [13,14,15] (.done))])))))) (.c .l .l)) (.q .o5 (.q (.cU (.seq [.op,.op,.op,.cW false 5 [.op,.op,.cW true 2 [.op,.op]],.op,.cW false 10 [.op,.op,.op,.op,.cW true 5 (RI.ops 5)]])) (.c .o5 .l))))))))))) (.q .o4 .l))))
def ZG.v (a:R2)(b:Int)(c:Fv)(d:Hp)(e:Int->Int->Int->Int->Int->Bool->Hp->Prop):Prop:=aV #[.I 0,.I 0,.I 0,.I 0,.I 0] 106 d λf g=>aV #[.I 0,.I 0,.I 0,.I 0,.I 0] 106 g λh i=>bJ a 1 i λk=>pL .i64 (.ag 5) k i λl m=>Yb [.b,.b] (λn=>n false false m) λo (p:Bool) (q:Bool) r=>pJ .i64 (.ag 5) l r (aQ h 0 r λs=>aQ h 1 r λt=>aQ h 2 r λu=>aQ h 3 r λv=>aQ h 4 r λw=>aR f 0 (.I s) r λx=>aR f 1 (.I t) x λy=>aR f 2 (.I u) y λz=>aR f 3 (.I v) z λaa=>aR f 4 (.I w) aa λab=>aQ f 0 ab λac=>aQ f 1 ab λad=>aQ f 2 ab λae=>aQ f 3 ab λaf=>aQ f 4 ab λag=>e ac ad ae af ag p ab) (λah ai aj=>pY .i64 (.ag 5) l aj λak al=>aV #[.I 0,.I 0,.I 0,.I 0,.I 0] 106 aj λam an=>aR am 0 (.I al.1) an λao=>aR am 1 (.I al.2.1) ao λap=>aR am 2 (.I al.2.2.1) ap λaq=>aR am 3 (.I al.2.2.2.1) aq λar=>aR am 4 (.I al.2.2.2.2) ar λau=>Jn [.b] (λ(av:Bool) aw=>If av (o p q aw) (aQ am 0 aw λax=>aQ am 1 aw λay=>aQ am 2 aw λaz=>aQ am 3 aw λa0=>aQ am 4 aw λa1=>XC.c a ax ay az a0 a1 aw λa2 a3=>bX (λa4 a5=>bX (λa6 a7=>If a6 (aQ am 0 a7 λa8=>aQ am 1 a7 λa9=>aQ am 2 a7 λba=>aQ am 3 a7 λbb=>aQ am 4 a7 λbc=>aR h 0 (.I a8) a7 λbd=>
 aR h 1 (.I a9) bd λbe=>aR h 2 (.I ba) be λbf=>aR h 3 (.I bb) bf λbg=>aR h 4 (.I bc) bg λbh=>o true (!a2) bh) (o p q a7)) λbi=>If a4 (bi true a5) (bX (λbj bk=>bi bj bk) λbl=>If ((!a2)==q) (aQ am 4 a5 λbm=>aQ h 4 a5 λbn=>bl (decide (bm>bn)) a5) (bl false a5))) λbo=>If (!p) (bo true a3) (bX (λbp bq=>bo bp bq) λbr=>If (!a2) (br (!q) a3) (br false a3)))) λbs=>dV au λbt=>gK bt bO ((am.add 0).add 0) λ(bu:Int)=>If (b<bu) (bs true au) (gK bt bO ((am.add 0).add 0) λ(bv:Int)=>aS bt am 0 λbw=>aS bt am 1 λbx=>aS bt am 2 λbz=>aS bt am 3 λb0=>aS bt am 4 λb1=>VO Tryz.prog c [.agg #[.I bw,.I bx,.I bz,.I b0,.I b1]] [.I] au λb2 b3=>And (bt b3) <| bM (bv+b2) λb4=>bs (decide (b≥b4)) b3))
theorem ZG.o {a b c d e}(f:ZG.v a b c d e):ZG.c a b c d e:=Wa Tryz.func59 (x:=ZG.h) (R0 f)
def Zb.h:Hn:=.q .o1 (.q .o5 .l)
def Zb.v (a:R2)(b c:Int)(d:Hp)(e:aN):Prop:=XQ.c a b c true d λf g=>e f g
theorem Zb.o {a b c d e}(f:Zb.v a b c d e):Zb.c a b c d e:=Wa Tryz.func70 (x:=Zb.h) (R0 f)
def X3.h:Hn:=.q .o2 (.q (.q .o3 .aJ) (.q (.o 12) (.q (.q .o2 .aJ) (.q (.q .o3 .aJ) (.q .o5 .l)))))
def X3.v (a:R2)(b:Int)(c:Hp)(d:Sl->Int->Hp->Prop):Prop:=Xk.c a c λe f=>If (!e) (d ⟨none,0,0⟩ 5 f) (bJ a 1 f λh=>Lk .i64 (.ag 5) h b f λi=>aV #[.I 0,.I 0,.I 0,.I 0,.I 0] 106 f λj k=>aR j 0 (.I ((i.getD (0,0,0,0,0)).1)) k λl=>aR j 1 (.I ((i.getD (0,0,0,0,0)).2.1)) l λm=>aR j 2 (.I ((i.getD (0,0,0,0,0)).2.2.1)) m λn=>aR j 3 (.I ((i.getD (0,0,0,0,0)).2.2.2.1)) n λo=>aR j 4 (.I ((i.getD (0,0,0,0,0)).2.2.2.2)) o λp=>If (!i.isSome) (d ⟨none,0,0⟩ 8 p) (aQ j 0 p λq=>aQ j 1 p λr=>aQ j 2 p λs=>aQ j 3 p λt=>aQ j 4 p λu=>XC.c a q r s t u p λv w=>If v (d ⟨none,0,0⟩ 5 w) (aQ j 0 w λx=>aQ j 1 w λy=>aQ j 2 w λz=>aQ j 3 w λaa=>aQ j 4 w λab=>XK.c a x y z aa ab w λac ad=>d ac 0 ad)))
theorem X3.o {a b c d}(e:X3.v a b c d):X3.c a b c d:=Wa Tryz.func71 (x:=X3.h) (R0 e)
def Za.h:Hn:=.q .o2 (.q (.q .o4 (.q .o2 (.c (.q .o3 .l) .l))) (.q .gC .l))
def Za.v (a:R2)(b:Int)(c:Hp)(d:Int->Int->Hp->Prop):Prop:=Yq.c a b c λe f=>If (e != 0) (d 0 e f) (bG a 0 f λh=>YG.c h b f λi j k=>d i j k)
theorem Za.o {a b c d}(e:Za.v a b c d):Za.c a b c d:=Wa Tryz.func76 (x:=Za.h) (R0 e)
def Q2.h:Hn:=.q .o1 (.q (.cU (.seq [.op,.op,.op,.cW true 4 (RI.ops 4),.op])) .l)
def Q2.v (a:R2)(b:Hp)(c:aO):Prop:=bX (λd e=>c d e) λf=>If (!a.isNone) (XT.c a b λg h i j k l=>f (decide (g>0)) l) (f false b)
theorem Q2.o {a b c}(d:Q2.v a b c):Q2.c a b c:=Wa Tryz.func77 (x:=Q2.h) (R0 d)
def YA.h:Hn:=.q .o1 (.q (.q .o4 (.q .o2 .aJ)) (.q .o8 .l))
def YA.v (a:R2)(b c:Int)(d:Hp)(e:aN):Prop:=Yq.c a b d λf g=>If (f != 0) (e f g) (bG a 0 g λi=>Xw.c i b c g λj k=>e j k)
theorem YA.o {a b c d e}(f:YA.v a b c d e):YA.c a b c d e:=Wa Tryz.func78 (x:=YA.h) (R0 f)
def XG.h:Hn:=.q .o2 (.q .o8 .l)
def XG.v (a b c d e:Int)(f:Hp)(g:aN):Prop:=aV #[.I a,.I b,.I c,.I d,.I e] 106 f λh i=>bN ((h.add 0).add 1) i λj=>bM (j+8) λk=>bM (k-1) λl=>Nz 8<|bM (l.tdiv 8) λm=>bM (m*8) λn=>g n i
theorem XG.o {a b c d e f g}(h:XG.v a b c d e f g):XG.c a b c d e f g:=Wa Tryz.func98 (x:=XG.h) (R0 h)
def XZ.h:Hn:=.q .o2 .aL
def XZ.v (a b c d e:Int)(f:Hp)(g:Fv->Hp->Prop):Prop:=aV #[.I a,.I b,.I c,.I d,.I e] 106 f λh i=>g ⟨156,#[],#[.pointer (some h)]⟩ i
theorem XZ.o {a b c d e f g}(h:XZ.v a b c d e f g):XZ.c a b c d e f g:=Wa Tryz.func100 (x:=XZ.h) (R0 h)
def Z0.h:Hn:=.q .o1 (.q .o4 .l)
def Z0.v (a:Int)(b:Hp)(c:aN):Prop:=bM (0-a) λd=>bM (d-1) λe=>c e b
theorem Z0.o {a b c}(d:Z0.v a b c):Z0.c a b c:=Wa Tryz.func101 (x:=Z0.h) (R0 d)
def Yu.h:Hn:=.q .o1 (.q .o1 (.k (.loop [(6,.I)] (.q (.q .o4 (.c .l .l)) (.q (.k (.cU (.tail 10 (RI.ops 10) [.op]))) .o3)))))
def Yu.v (a:R2)(b c d e f g:Int)(h:Hp)(i:aP):Prop:=aV #[.I b,.I c,.I d,.I e,.I f] 106 h λj k=>Yb [bO] (λl=>l 0 k) λm (n:Int) o=>aQ j 0 o λp=>aQ j 1 o λq=>aQ j 2 o λr=>aQ j 3 o λs=>aQ j 4 o λt=>XG.c p q r s t o λu v=>If (n<u) (bG a 0 v λx=>bN ((j.add 0).add 0) v λy=>bM (y+n) λz=>Xw.c x z g v λaa ab=>bM (n+8) λac=>m ac ab) (i v)
theorem Yu.o {a b c d e f g h i}(j:Yu.v a b c d e f g h i):Yu.c a b c d e f g h i:=Wa Tryz.func102 (x:=Yu.h) (R0 j)
def XC.h:Hn:=.q .o2 (.q (.cU (.held true [7] (.tk [0,1,2,3,4,5,6] (.all [(7,.tk [8,9,10,11,12] (.done))])))) (.q (.cU (.seq [.op,.op,.op,.cW false 5 (RI.ops 5),.op])) .l))
def XC.v (a:R2)(b c d e f:Int)(g:Hp)(h:aO):Prop:=aV #[.I b,.I c,.I d,.I e,.I f] 106 g λi j=>dV j λk=>bW a λl=>aU k l 0 λm=>gK k bO ((i.add 0).add 2) λ(n:Int)=>XR.c m n j λo p q=>bX (λr s=>h r s) λt=>If (p != 0) (t true q) (bN ((i.add 0).add 3) q λu=>t (o != u) q)
theorem XC.o {a b c d e f g h}(i:XC.v a b c d e f g h):XC.c a b c d e f g h:=Wa Tryz.func103 (x:=XC.h) (R0 i)
def Zf.h:Hn:=.q .o1 (.q .o5 .l)
def Zf.v (a:R2)(b c:Int)(d:Hp)(e:aN):Prop:=XQ.c a b c false d λf g=>e f g
theorem Zf.o {a b c d e}(f:Zf.v a b c d e):Zf.c a b c d e:=Wa Tryz.func109 (x:=Zf.h) (R0 f)
def XQ.h:Hn:=.q .o1 (.q (.q .o3 .aK) (.q (.q .o4 (.q .o2 .aJ)) (.q (.o 12) (.q (.k (.q (.cU (.seq [.op,.op,.op,.cW true 6 (RI.ops 6),.op])) (.c .aM (.q .o3 (.c .aM (.q .o4 (.c .aM (.q (.cU (.seq [.op,.op,.cW true 5 (RI.ops 5),.op])) .aK)))))))) (.q .o3 (.q .o6 (.q .o6 (.q (.cU (.tail 8 (RI.ops 8) [.op])) .aM))))))))
def XQ.v (a:R2)(b c:Int)(d:Bool)(e:Hp)(f:aN):Prop:=Xk.c a e λg h=>If (!g) (f 5 h) (YB.c a b h λi j=>If (i != 0) (f i j) (bJ a 1 j λl=>Lk .i64 (.ag 5) l c j λm=>aV #[.I 0,.I 0,.I 0,.I 0,.I 0] 106 j λn o=>aR n 0 (.I ((m.getD (0,0,0,0,0)).1)) o λp=>aR n 1 (.I ((m.getD (0,0,0,0,0)).2.1)) p λq=>aR n 2 (.I ((m.getD (0,0,0,0,0)).2.2.1)) q λr=>aR n 3 (.I ((m.getD (0,0,0,0,0)).2.2.2.1)) r λs=>aR n 4 (.I ((m.getD (0,0,0,0,0)).2.2.2.2)) s λt=>bX (λu v=>If u (f 9 v) (If (!m.isSome) (f 8 v) (aQ n 0 v λw=>aQ n 1 v λx=>aQ n 2 v λy=>aQ n 3 v λz=>aQ n 4 v λaa=>XC.c a w x y z aa v λab ac=>If ab (f 5 ac) (bX (λad ae=>If ad (f 10 ae) (aQ n 0 ae λaf=>aQ n 1 ae λag=>aQ n 2 ae λah=>aQ n 3 ae λai=>aQ n 4 ae λaj=>Yu.c a af ag ah ai aj (-1234567) ae λak=>bJ a 1 ak λam=>l6 .i64 (.ag 5) am c ak λan=>bJ a 2 an λap=>kQ .i64 .b ap c true an λaq=>bG a 0 aq λau=>bN ((n.add 0).add 2) aq λav=>ZH.c au b av aq λaw ax=>f 0 ax)) λay=>If d (aQ n 0 ac λaz=>aQ n 1 ac λa0=>aQ n 2 ac λa1=>aQ n 3 ac λa2=>aQ n 4 ac λa3=>XK.c a az a0 a1 a2 a3 ac λa4 a5=>ay (decide (((a4.len:Nat):Int)>0)) a5) (ay false ac))))) λa6=>If (!m.isSome) (bJ a 2 t λa8=>
 Lk .i64 .b a8 c t λa9=>a6 (a9.getD false) t) (a6 false t)))
theorem XQ.o {a b c d e f}(g:XQ.v a b c d e f):XQ.c a b c d e f:=Wa Tryz.func118 (x:=XQ.h) (R0 g)
def XK.h:TX:=.nx (.o 3) (.nx (.o 1) (.r1 (.o 2) bO (.block (.seq (.o 11) (.seq (.cU (.seq [.op,.op,.op,.cW false 4 [.op,.op,.op,.op]])) (.cond (.o 5) (.leaf))))) (.seq (.o 2) (.leaf))))
def XK.v (a:R2)(b c d e f:Int)(g:Hp)(h:Sl->Hp->Prop):Prop:=aV #[.pointer a] 50 g λi j=>aV #[.I b,.I c,.I d,.I e,.I f] 106 j λk l=>aV #[.slice none 0 0] 31 l λm n=>aQ k 0 n λo=>aQ k 1 n λp=>aQ k 2 n λq=>aQ k 3 n λr=>aQ k 4 n λs=>XZ.c o p q r s n λt u=>DJ Tryz.prog (e1 bO) t u (λ(v:Int) w x=>fY i x λy=>bG y 0 x λaa=>YG.c aa v x λab ac ad=>bX (λae af=>If ae (jJ m af λag=>aV #[.I v] 3 af λah ai=>App ag 1 8 3 [.I 0] ⟨some ah,1,1⟩ ai λaj ak=>dZ m (.slice aj.a aj.len aj.cap) ak λal=>w al) (w af)) λam=>If (ac != 0) (am true ad) (Z0.c v ad λan ao=>am (ab != an) ao)) λap=>jJ m ap λaq=>vf u.size ap λar=>h aq ar
theorem XK.o {a b c d e f g h}(i:XK.v a b c d e f g h):XK.c a b c d e f g h:=Lg Tryz.func119 (x:=XK.h) (R0 i)
def Yq.h:Hn:=.q .o1 (.q (.q .o3 .aK) (.q .o9 (.q (.k (.q (.cU (.seq [.op,.op,.op,.cW false 3 (RI.ops 3),.op])) (.c .aM (.q .o4 .aK)))) .aM)))
def Yq.v (a:R2)(b:Int)(c:Hp)(d:aN):Prop:=Xk.c a c λe f=>If (!e) (d 5 f) (ZG.c a b ⟨98,#[],#[]⟩ f λg h i j k l m=>aV #[.I 0,.I 0,.I 0,.I 0,.I 0] 106 m λn o=>aR n 0 (.I g) o λp=>aR n 1 (.I h) p λq=>aR n 2 (.I i) q λr=>aR n 3 (.I j) r λs=>aR n 4 (.I k) s λt=>bX (λu v=>If u (d 7 v) (aQ n 0 v λw=>aQ n 1 v λx=>aQ n 2 v λy=>aQ n 3 v λz=>aQ n 4 v λaa=>XC.c a w x y z aa v λab ac=>If ab (d 5 ac) (d 0 ac))) λad=>If (!l) (ad true t) (Nz 8 <| ad ((b.tmod 8) != 0) t))
theorem Yq.o {a b c d}(e:Yq.v a b c d):Yq.c a b c d:=Wa Tryz.func123 (x:=Yq.h) (R0 e)
def cJ.sW (l:Nat)(cap0:Addr)(U:Hp)(R:aP):Prop:=DX Tryz.prog 156 #[.func (.yield l) #[] #[],.pointer (some cap0)] U R
def cJ.ym:Hn:=.seq (.seq (.o 4) (.block (.loop [(3,.one bO)] (.seq (.seq (.o 5) (.cond (.leaf) (.leaf))) (.seq (.block (.seq (.leaf) (.cond (.leaf) (.leaf)))) (.o 3)))))) (.seq (.cU (.held true [] (.tk [0,1,2,3] (.all [(4,.take 5 (.take 6 (.done)))])))) (.block (.loop [(4,.one bO)] (.seq (.seq (.o 10) (.cond (.leaf) (.leaf))) (.seq (.block (.seq (.leaf) (.cond (.leaf) (.leaf)))) (.o 3))))))
def cJ.wX (l:Nat)(cap0:Addr)(U:Hp)(R:aP):Prop:=
 gN .i64 ((cap0.add 0).add 2) U λvw=>
 Yb [bO] (λI=>I vw U) λJ (vw1:Int) v=>
 gN .i64 ((cap0.add 0).add 0) v λt11=>
 If (decide (vw1<t11)) (HC Tryz.prog l [.int .i64 vw1] v λmore v1=>
  If (!more) (R v1)
   (Ar .i64 (vw1+8) λvw2=>
   J vw2 v1))
  (dV v λS=>
  gK S bO ((cap0.add 0).add 0) λ(t21:Int)=>
  gK S bO (cap0.add 0) λ(t22:Int)=>
  gK S bO (cap0.add 1) λ(t221:Int)=>
  gK S bO (cap0.add 2) λ(t222:Int)=>
  gK S bO (cap0.add 3) λ(t223:Int)=>
  gK S bO (cap0.add 4) λ(t224:Int)=>
  XG.c t22 t221 t222 t223 t224 v λt23 v2=>
  And (S v2) <|
  Ar .i64 (t21+t23) λvw3=>
  Yb [bO] (λI1=>I1 vw3 v2) λJ1 (vw4:Int) v3=>
  Ar .i64 (vw4+8) λt26=>
  gN .i64 ((cap0.add 0).add 2) v3 λt29=>
  gN .i64 ((cap0.add 0).add 3) v3 λt32=>
  Ar .i64 (t29+t32) λt33=>
  If (decide (t26<=t33)) (HC Tryz.prog l [.int .i64 vw4] v3 λmore1 v4=>
   If (!more1) (R v4)
    (Ar .i64 (vw4+8) λvw5=>
    J1 vw5 v4))
   (R v3))
theorem cJ.uv {l:Nat}{cap0:Addr}{U:Hp}{R:aP}(hv:cJ.wX l cap0 U R):cJ.sW l cap0 U R:=
 NS Tryz.func156 (x:=cJ.ym) (args:=[.func (.yield l) #[] #[],.pointer (some cap0)]) (R:=R) (R0 hv)
def YB.h:Hn:=.q .o1 (.q (.q (.cU (.seq [.op,.op,.op,.cW false 8 (RI.ops 8)])) .aK) (.q (.q .o7 .aK) .aM))
def YB.v (a:R2)(b:Int)(c:Hp)(d:aN):Prop:=bX (λe f=>If e (d 1 f) (bG a 0 f λh=>YV.c h b f λi j=>If (!(i.toList==(ByteArray.mk #[]).toList)) (d 5 j) (d 0 j))) λk=>If (b<0) (k true c) (bG a 0 c λm=>XT.c m c λn o p q r s=>k (decide (b≥p)) s)
theorem YB.o {a b c d}(e:YB.v a b c d):YB.c a b c d:=Wa Tryz.func162 (x:=YB.h) (R0 e)
end Go.Proofs
namespace Go.Ar
open Go Go.Vc Go.Proofs
open Go.Vc (bU dA cO)
variable {U σ0 v w w':Hp}{F P Q X T:Rg}{L:dE}{H H':Hw}{held:List Pc}{s0 sp:Sp}{t n:Nat}{g:Th}{gb km fm m:Nat}
theorem gL {S:aP}{b i:Nat}{cs:List Value}{c:CK}{y:c.T}(hS:∀m,S m->bZ m b cs)(hc:cs[i]?=some (c.v y)){K:c.T->Prop}(hK:K y):gK S c (Addr.add ⟨b,0,none⟩ i) K:=
 ⟨y,λm a=>by rw[add_lit,(hS m a).cell,zH];exact hc,hK⟩
theorem rK {S:aP}{b:Nat}{cs:List Value}{c:CK}{y:c.T}(hS:∀m,S m->bZ m b cs)(hc:cs[0]?=some (c.v y)){K:c.T->Prop}(hK:K y):gK S c ⟨b,0,none⟩ K:=
 ⟨y,λm a=>by rw[(hS m a).cell];exact hc,hK⟩
theorem oV {S:aP}{b i j:Nat}{cs:List Value}{c:CK}{y:c.T}(hS:∀m,S m->bZ m b cs)(hc:cs[i+j]?=some (c.v y)){K:c.T->Prop}(hK:K y):gK S c (Addr.add (Addr.add ⟨b,0,none⟩ i) j) K:=
 ⟨y,λm a=>by rw[add_lit,add_lit,(hS m a).cell,zH];exact hc,hK⟩
abbrev B5:=Int×Int×Int×Int×Int
def fP (b:B5):List Value:=[.int .i64 b.1,.int .i64 b.2.1,.int .i64 b.2.2.1,.int .i64 b.2.2.2.1,.int .i64 b.2.2.2.2]
def ZB (n:Int):Int:=(n+7)/8*8
structure gS (b:B5):Prop where
 s:1<=b.2.1/\b.2.1<=1024
 base:0<=b.2.2.1/\b.2.2.1%8=0
 z:16<=b.1-b.2.2.1/\b.1-b.2.2.1<=256/\b.1%8=0
 t:b.1+ZB b.2.1+16<=b.2.2.1+b.2.2.2.1/\b.2.2.2.1%8=0
 m:b.2.2.1+b.2.2.2.1<=270000
theorem ZS {n:Int}(h:0<=n):n<=ZB n/\ZB n<=n+7/\ZB n%8=0:=by unfold ZB;omega
structure Gu where
 kn:List (Int×B5)
 fr:List (Int×Bool)
 no:Int
def pv:Gu:=⟨[],[],0⟩
def VL (b:B5):Nat:=(b.1-b.2.2.1).toNat/8
def oB (b:B5):Nat:=(b.2.2.1+b.2.2.2.1-b.1-ZB b.2.1).toNat/8
def Ze (b:B5):List Int:=((List.range (VL b)).map λ(i:Nat)=>b.2.2.1+8*(i:Int))++(List.range (oB b)).map λ(i:Nat)=>b.1+ZB b.2.1+8*(i:Int)
theorem Gs (b:B5):(Ze b).length=VL b+oB b:=by unfold Ze;simp
theorem Mx {b:B5}{i:Nat}(h:i<VL b):(Ze b)[i]?=some (b.2.2.1+8*(i:Int)):=by
 unfold Ze;rw[zd (by simpa using h)];simp[h]
theorem Oq {b:B5}{i:Nat}(h:i<oB b):(Ze b)[VL b+i]?=some (b.1+ZB b.2.1+8*(i:Int)):=by
 unfold Ze;rw[zp aA];simp[h]
theorem HZ {b:B5}(bi:gS b){z:Int}(hz:z∈Ze b):b.2.2.1<=z/\z%8=0/\z+8<=b.2.2.1+b.2.2.2.1/\(z+8<=b.1\/b.1+ZB b.2.1<=z):=by
 obtain⟨s,⟨a,r⟩,⟨d,u,g⟩,⟨t,j⟩,m⟩:=bi;have p:=ZS (n:=b.2.1) O;unfold Ze at hz;rcases zM.1 hz with h|h
 ·obtain⟨i,hi,rfl⟩:=zE.1 h;have:=zg.1 hi;unfold VL at this;exact⟨O,O,O,.inl O⟩
 ·obtain⟨i,hi,rfl⟩:=zE.1 h;have:=zg.1 hi;unfold oB at this;exact⟨O,O,O,.inr O⟩
def jv (z:Int):Int:=-z-1
def sr (hp km fm:Nat)(x:Gu):List Value:=[.pointer (some ⟨hp,0,none⟩),.map (some km),.map (some fm),.int .i64 x.no]
structure GP (σ0 U:Hp) (L:dE) (H:Hw) (held:List Pc) (s0:Sp) (P:Rg) (gb km fm:Nat) (x:Gu):Prop where
 e:aG σ0 U
 h:HH U P L H
 hi:HI H held s0
 cf:iS H
 pg:H.cf.aF<=128
 pP:∀b,P b->σ0.size<=b/\b<U.size
 q8:σ0.size<=gb/\¬P gb
 sC:σ0.size<=km/\¬P km
 su:σ0.size<=fm/\¬P fm
 n1:gb≠km
 n2:gb≠fm
 n3:km≠fm
 b:bZ U gb (sr L.p km fm x)
 m:dK U km .i64 (.ag 5) x.kn
 f:dK U fm .i64 .b x.fr
 g0:jf (λb=>σ0.size<=b)/\¬σ0.size<=1
variable {x y:Gu}
theorem GP.fr (p:GP σ0 U L H held s0 P gb km fm x)(e:aG U w):GP σ0 w L H held s0 P gb km fm x:=
 ⟨p.e.trans e,p.h.bP e,p.hi,p.cf,p.pg,λb a=>⟨(p.pP b a).1,by have:=(p.pP b a).2;have:=e.1;omega⟩,p.q8,p.sC,p.su,p.n1,p.n2,p.n3,e.bV p.b id,e.fX p.m id,e.fX p.f id,p.g0⟩
theorem GP.out (p:GP σ0 U L H held s0 P gb km fm x)(e:Ext T U w)(hT:∀b,b<U.size->T b->¬P b/\b≠gb/\b≠km/\b≠fm/\σ0.size<=b):GP σ0 w L H held s0 P gb km fm x:=by
 have s:=e.1;have a:=p.b.lt;have r:=p.m.lt;have g:=p.f.lt;have i:Ext (λb=>T b/\b<U.size) U w:=⟨e.1,λb a g=>e.2 b a λd=>g ⟨d,a⟩⟩;refine⟨Ext.dW p.e i λb a=>.inr (hT b a.2 a.1).2.2.2.2,p.h.bT i (λb a j d=>(hT b a d.1).1 j) (λb a=>?_) (λa=>?_),p.hi,p.cf,p.pg,λb a=>⟨(p.pP b a).1,by have:=(p.pP b a).2;omega⟩,p.q8,p.sC,p.su,p.n1,p.n2,p.n3,e.bV p.b λd=>(hT gb a d).2.1 rfl,e.fX p.m λd=>(hT km r d).2.2.1 rfl,e.fX p.f λd=>(hT fm g d).2.2.2.1 rfl,p.g0⟩
 ·exact p.g0.1 b (hT b a.2 a.1).2.2.2.2
 ·exact p.g0.2 (hT _ a.2 a.1).2.2.2.2
theorem GP.step (p:GP σ0 U L H held s0 P gb km fm x){ts':List eR}(e:Ext P U w)(h':HH w (Grow P U) {L with ts:=ts'} H'){held':List Pc}{s0':Sp}(hi':HI H' held' s0')(k:QW H' H) :
 GP σ0 w {L with ts:=ts'} H' held' s0' (Cut (Grow P U) w) gb km fm x:=by
 have u:=e.1;have a:=p.b.lt;have s:=p.m.lt;have r:=p.f.lt;have g:∀b,b<U.size->¬P b->¬Cut (Grow P U) w b:=λb d i j=>by
  rcases j.1 with h3|h3
  ·exact i h3
  ·omega
 refine⟨Ext.dW p.e e λb a=>.inr (p.pP b a).1,h'.cut,hi',p.cf.bT k,by rw[k.2.1];exact p.pg,λb a=>⟨?_,a.2⟩,⟨p.q8.1,g gb a p.q8.2⟩,⟨p.sC.1,g km s p.sC.2⟩,⟨p.su.1,g fm r p.su.2⟩,p.n1,p.n2,p.n3,e.bV p.b p.q8.2,e.fX p.m p.sC.2,e.fX p.f p.su.2,p.g0⟩;have:=p.e.1;rcases a.1 with d|d
 ·exact(p.pP b d).1
 ·omega
theorem GP.fD (p:GP σ0 U L H held s0 P gb km fm x)(e:Ext (λb=>b=gb\/b=km\/b=fm) U w)(hb:bZ w gb (sr L.p km fm y))(hm:dK w km .i64 (.ag 5) y.kn)(hf:dK w fm .i64 .b y.fr):GP σ0 w L H held s0 P gb km fm y:=by
 have i:=e.1;have a:∀b,(b=gb\/b=km\/b=fm)->σ0.size<=b/\¬P b:=λb hb=>by
  rcases hb with rfl|rfl|rfl
  ·exact p.q8
  ·exact p.sC
  ·exact p.su
 exact⟨Ext.dW p.e e λb hb=>.inr (a b hb).1,p.h.bT e (λb _ d g=>(a b g).2 d) (λb hb=>p.g0.1 b (a b hb).1) (λhb=>p.g0.2 (a _ hb).1),p.hi,p.cf,p.pg,λb hb=>⟨(p.pP b hb).1,by have:=(p.pP b hb).2;omega⟩,p.q8,p.sC,p.su,p.n1,p.n2,p.n3,hb,hm,hf,p.g0⟩
theorem U7 (p:GP σ0 U L H held s0 P gb km fm x){R:aO}(hR:R true U):Xk.c (aW gb) U R:=by
 refine Xk.o ?_;unfold Xk.v;exact bX.intro (cF rfl (bL (p.b.rP rfl hR)))
theorem Hx (b:B5)(h0:0<=b.2.1)(h1:b.2.1<=1000000){R:aN}(hR:∀σ',aG U σ'->R (ZB b.2.1) σ'):XG.c b.1 b.2.1 b.2.2.1 b.2.2.2.1 b.2.2.2.2 U R:=by
 refine XG.o ?_;unfold XG.v;refine nw (cs:=fP b) λv d e a=>a.fM rfl (ar O O (ar O O (nz aB (ar (by rw[YO O];omega) (by rw[YO O];omega) ?_))));rw[YO O];refine ar O O ?_;have:(b.2.1+8-1)/8*8=ZB b.2.1:=by unfold ZB;omega
 rw[this];exact hR v e
theorem IF (z:Int)(h0:0<=z)(h1:z<=1000000){R:aN}(hR:R (jv z) U):Z0.c z U R:=by
 refine Z0.o ?_;unfold Z0.v;refine ar O O (ar O O ?_);have:0-z-1=jv z:=by unfold jv;omega
 rw[this];exact hR
theorem Fg (b:B5){R:Fv->Hp->Prop}(hR:∀σ',σ'.size=U.size+1->aG U σ'->bZ σ' U.size (fP b)->R ⟨156,#[],#[.pointer (some ⟨U.size,0,none⟩)]⟩ σ'):XZ.c b.1 b.2.1 b.2.2.1 b.2.2.2.1 b.2.2.2.2 U R:=by
 refine XZ.o ?_;unfold XZ.v;exact nw (cs:=fP b) λv a e d=>hR v a e d
theorem IT {P:Program}{l:Nat}{args:List Value}{h:Hp}{R R':Bool->Hp->Prop}(hy:HC P l args h R)(hm:∀b w,R b w->R' b w):HC P l args h R':=λw r=>by
 obtain⟨g,a,d,u,p,j⟩:=hy w r;exact⟨g,a,d,u,p,j.mono λe x ⟨m,b,s,i⟩=>⟨m,b,s,hm _ _ i⟩⟩
theorem FO {b:B5}(bi:gS b):wM Tryz.prog ⟨156,#[],#[.pointer (some ⟨n,0,none⟩)]⟩ ((Ze b).map (e1 bO)) (λs=>bZ s n (fP b)):=by
 intro l J hst hKp hy h h0;obtain⟨s,⟨N,K⟩,⟨P,L,M⟩,⟨t,Q⟩,R⟩:=bi;have H:=ZS (n:=b.2.1) O;have C:(VL b:Int)*8=b.1-b.2.2.1:=by unfold VL;omega
 have F:(oB b:Int)*8=b.2.2.1+b.2.2.2.1-b.1-ZB b.2.1:=by unfold oB;omega
 show cJ.sW l ⟨n,0,none⟩ h λG=>J ((Ze b).map (e1 bO)).length G;rw[zj,Gs];refine cJ.uv ?_;unfold cJ.wX;refine(hKp 0 h h0).fM rfl (Qp (a:=bO) (λ(z:Int) s=>∃i:Nat,z=b.2.2.1+8*(i:Int)/\i<=VL b/\J i s) (λz _=>(b.1-z).toNat) ⟨0,O,O,h0⟩ ?_);rintro(z:Int) s ⟨i,rfl,hi,hJ⟩;have B:=hKp i s hJ;refine B.fM rfl (cP (λA=>?_) λw=>?_)
 ·have d:i<VL b:=by omega
  have x:((Ze b).map (e1 bO))[i]?=some [Value.int .i64 (b.2.2.1+8*(i:Int))]:=by rw[za,Mx d];rfl
  refine IT (hy i _ x s hJ) λE D ⟨j,g⟩=>?_;subst j;exact cD rfl (ar O O ⟨⟨i+1,O,O,g⟩,O⟩)
 ·have d:i=VL b:=by omega
  subst d;have p:∀m,aG s m->bZ m n (fP b):=λm e=>e.bV B id;refine⟨λm=>aG s m,Ext.refl _ _,oV (c:=bO) (y:=b.1) p rfl (gL (c:=bO) (y:=b.1) p rfl (gL (c:=bO) (y:=b.2.1) p rfl (gL (c:=bO) (y:=b.2.2.1) p rfl (gL (c:=bO) (y:=b.2.2.2.1) p rfl (gL (c:=bO) (y:=b.2.2.2.2) p rfl ?_)))))⟩;refine Hx b O O λs1 u=>⟨u,ar O O ?_⟩;refine Qp (a:=bO) (λ(z:Int) s=>∃i:Nat,z=b.1+ZB b.2.1+8*(i:Int)/\i<=oB b/\J (VL b+i) s) (λz _=>(b.2.2.1+b.2.2.2.1-z).toNat) ⟨0,O,O,hst _ _ _ hJ u⟩ ?_;rintro(z:Int) s2 ⟨i,rfl,hi,hJ2⟩;have r:=hKp _ s2 hJ2;refine ar O O (r.fM rfl (r.fM rfl (ar O O (cP (λA=>?_) λw=>?_))))
  ·have d:i<oB b:=by omega
   have x:((Ze b).map (e1 bO))[VL b+i]?=some [Value.int .i64 (b.1+ZB b.2.1+8*(i:Int))]:=by rw[za,Oq d];rfl
   refine IT (hy _ _ x s2 hJ2) λE D ⟨j,g⟩=>?_;subst j;exact cD rfl (ar O O ⟨⟨i+1,O,O,g⟩,O⟩)
  ·have d:i=oB b:=by omega
   subst d;exact hJ2
def UC (H:Hw)(b:B5):Bool:=!(Kt H b.2.2.1==some b.2.2.2.1)
theorem AN (p:GP σ0 U L H held s0 P gb km fm x)(b:B5){R:aO}(hR:∀σ',aG U σ'->R (UC H b) σ'):XC.c (aW gb) b.1 b.2.1 b.2.2.1 b.2.2.2.1 b.2.2.2.2 U R:=by
 refine XC.o ?_;unfold XC.v;refine nw (cs:=fP b) λv s e g=>?_;have j:=p.fr e;refine⟨λm=>aG v m,Ext.refl _ _,bL (gL (c:=.p) (y:=some ⟨L.p,0,none⟩) (λm e=>e.bV j.b id) rfl (oV (c:=bO) (y:=b.2.2.1) (λm e=>e.bV g id) rfl (Ib j.h b.2.2.1 λr e1=>?_)))⟩;have d:=e1.bV g id;have a:=hR r (e.trans e1);refine bX.intro ?_;cases hu:Kt H b.2.2.1 with
 | none=>
  unfold UC at a;rw[hu]at a;exact cF rfl a
 | some u=>
  unfold UC at a;rw[hu]at a;refine cD rfl (d.fM rfl ?_);have:(!(some u==some b.2.2.2.1))=((some u).getD 0 != b.2.2.2.1):=by simp[bne]
  rw[this]at a;exact a
def ZA (H:Hw)(thread:Int):Int:=if thread<0\/thread≥(H.cf.threads:Int)then 1 else if(Uz H thread).isSome then 5 else 0
theorem T4 (p:GP σ0 U L H held s0 P gb km fm x)(thread:Int){R:aN}(hR:∀σ',aG U σ'->R (ZA H thread) σ'):YB.c (aW gb) thread U R:=by
 refine YB.o ?_;unfold YB.v;refine Kd (λr u=>aG U u/\r=decide (thread<0\/thread≥(H.cf.threads:Int))) (λr u ⟨d,j⟩=>?_) λJ g=>?_
 ·by_cases hc:thread<0\/thread≥(H.cf.threads:Int)
  ·have a:=hR u d;unfold ZA at a;rw[zC hc]at a;exact cF (by rw[j];exact zI hc) a
  ·have i:=p.fr d;refine cD (by rw[j];exact zJ hc) (bL (i.b.rP rfl (F0 i.h thread λs m e2 y=>?_)));have a:=hR m (d.trans e2);unfold ZA at a;rw[zB hc]at a;rw[y];cases hp:Uz H thread with
   | none=>rw[hp]at a;exact cD rfl a
   | some q=>rw[hp]at a;exact cF rfl a
 ·refine cP (λh=>g _ _ ⟨Ext.refl _ _,by rw[zI];exact .inl h⟩) λh=>bL (p.b.rP rfl (Gh p.h λu e=>g _ _ ⟨e,?_⟩));rw[kA,decide_eq_true_iff,decide_eq_true_iff];exact⟨.inr,λw=>w.resolve_left h⟩
theorem SI (h:HH U F L H)(hp:1<=H.cf.aF){R:aO}(hR:∀σ',aG U σ'->R true σ'):Q2.c (aW L.p) U R:=by
 refine Q2.o ?_;unfold Q2.v;refine bX.intro (cF rfl (Gh h λw e=>?_));have:decide ((H.cf.aF:Int)>0)=true:=zI O;rw[this];exact hR w e
theorem F4 (e0:aG σ0 U)(h:HH U P L H)(hi:HI H held s0)(hc:iS H)(hpg:H.cf.aF<=128)(hP:∀b,P b->σ0.size<=b/\b<U.size)(hg:jf (λb=>σ0.size<=b)/\¬σ0.size<=1){R:Option Addr->Int->Hp->Prop}
 (hR:∀w gb km fm,aG U w->U.size<=gb/\U.size<=km/\U.size<=fm->GP σ0 w L H held s0 P gb km fm pv->R (some ⟨gb,0,none⟩) 0 w):Ka.c (aW L.p) U R:=by
 refine Ka.o ?_;unfold Ka.v;refine SI h hc.1 λv e=>cD rfl (tE λj x e1 y=>tE λA r e2 m=>nw (cs:=sr L.p v.size j.size pv) λv3 z g u=>?_);have D:=e.1;have C:=e0.1;have a:=((e.trans e1).trans e2).trans g;have d:∀b,U.size<=b->¬P b:=λb B s=>by have:=(hP b s).2;omega
 exact hR v3 A.size v.size j.size a ⟨O,O,O⟩ ⟨e0.trans a,h.bP a,hi,hc,hpg,λb i=>⟨(hP b i).1,by have:=(hP b i).2;have:=a.1;omega⟩,⟨O,d _ O⟩,⟨O,d _ O⟩,⟨O,d _ O⟩,O,O,O,u,(e2.trans g).fX (y _ _) id,g.fX (m _ _) id,hg⟩
end Go.Ar
namespace Go.Ar
open Go Go.Vc Go.Proofs
open Go.Vc (bU dA cO)
variable {U σ0 v w w':Hp}{F P Q X T:Rg}{L:dE}{H H':Hw}{held:List Pc}{s0 sp:Sp}{t n:Nat}{g:Th}{gb km fm m:Nat}{x y:Gu}{b:B5}
def iL (sp:Sp)(l:List Int)(f:Int->Int):Sp:=l.foldl (λs z=>ZD s z (f z)) sp
theorem WkZ (sp:Sp)(z:Int)(l:List Int)(f:Int->Int):iL sp (z::l) f=iL (ZD sp z (f z)) l f:=rfl
theorem BM (sp:Sp)(l:List Int)(z:Int)(f:Int->Int):iL sp (l++[z]) f=ZD (iL sp l f) z (f z):=by unfold iL;rw[vE];rfl
theorem U2 {sp:Sp}{x:Nat}:eO sp ((8*x:Nat):Int)=0↔gf sp.st (x/32)≠0:=by
 unfold eO;rw[zB O,show((8*x:Nat):Int).toNat/256=x/32 by omega];unfold gf;split
 ·rename_i h;rw[h];simp
 ·rename_i h;exact⟨λ_=>h,λ_=>rfl⟩
theorem Ae (sp:Sp)(x:Nat):QV sp ((8*x:Nat):Int)=if gf sp.st (x/32)≠0 then sp.wd x else 0:=by
 unfold QV;by_cases h:gf sp.st (x/32)≠0
 ·rw[zC (U2.2 h),zC h];congr 1;omega
 ·rw[zB (λa=>h (U2.1 a)),zB h]
theorem Ak (f:Int->Int):∀(l:List Int) (sp:Sp),(∀z∈l,0<=z/\z%8=0)->(iL sp l f).st.length=sp.st.length/\(∀p,gf (iL sp l f).st p=0↔gf sp.st p=0) ∧
 ∀w:Nat,(iL sp l f).wd w=if((8*w:Nat):Int)∈l/\gf sp.st (w/32)≠0 then f ((8*w:Nat):Int)else sp.wd w
 | [],sp,_=>⟨rfl,λ_=>Iff.rfl,λw=>by rw[zB aA];rfl⟩
 | z::l,sp,hl=>by
  obtain⟨i1,i2,i3⟩:=Ak f l (ZD sp z (f z)) λz a=>hl z (mg _ a);obtain⟨d,b,g⟩:=BO sp z (f z);have r:=hl z mD;obtain⟨zn,rfl⟩:∃c:Nat,z=((8*c:Nat):Int):=⟨z.toNat/8,O⟩;rw[WkZ];refine⟨i1.trans d,λp=>(i2 p).trans (b p),λw=>?_⟩;rw[i3,g];have a:=b (w/32);by_cases hm:gf sp.st (w/32)≠0
  ·by_cases hw:((8*w:Nat):Int)∈l
   ·rw[zC ⟨hw,λh=>hm (a.1 h)⟩,zC ⟨mg _ hw,hm⟩]
   ·rw[zB λh=>hw h.1];by_cases he:w=zn
    ·subst he;rw[zC ⟨U2.2 hm,O⟩,zC ⟨mD,hm⟩]
    ·rw[zB λh=>he (by have:=h.2;omega),zB λh=>(zW.1 h.1).elim (λh=>he O) hw]
  ·have key:¬(eO sp ((8*zn:Nat):Int)=0/\w=((8*zn:Nat):Int).toNat/8):=λh=>by
    have j:=U2.1 h.1;have i:w=zn:=by omega
    subst i;exact hm j
   rw[zB λh=>hm λm=>h.2 (a.2 m),zB key,zB λh=>hm h.2]
theorem HI.iL (f:Int->Int):∀(l:List Int) {H:Hw} {s0:Sp},HI H held s0->∃s0',HI {H with sp:=Go.Ar.iL H.sp l f} held s0'
 | [],H,s0,h=>⟨s0,h⟩
 | z::l,H,s0,h=>HI.iL f l (h.write z (f z))
theorem KN {f:Int->Int}{l:List Int}{sp:Sp}(hl:∀z∈l,0<=z/\z%8=0)(w:Nat):QV (iL sp l f) ((8*w:Nat):Int)=if((8*w:Nat):Int)∈l/\gf sp.st (w/32)≠0 then f ((8*w:Nat):Int)else QV sp ((8*w:Nat):Int):=by
 obtain⟨_,a,b⟩:=Ak f l sp hl;rw[Ae,Ae];by_cases hm:gf sp.st (w/32)≠0
 ·rw[zC λh=>hm ((a _).1 h),b];by_cases hw:((8*w:Nat):Int)∈l
  ·rw[zC ⟨hw,hm⟩,zC ⟨hw,hm⟩]
  ·rw[zB λh=>hw h.1,zB λh=>hw h.1,zC hm]
 ·rw[zB λh=>hm λd=>h ((a _).2 d),zB λh=>hm h.2,zB hm]
def QF (b:B5):Nat:=(ZB b.2.1/8).toNat
def XO (b:B5):List Int:=(List.range (QF b)).map λ(i:Nat)=>b.1+8*(i:Int)
theorem Hy (bi:gS b){z:Int}(hz:z∈XO b):b.1<=z/\z%8=0/\z+8<=b.1+ZB b.2.1:=by
 obtain⟨s,⟨a,r⟩,⟨d,u,g⟩,⟨t,j⟩,m⟩:=bi;have p:=ZS (n:=b.2.1) O;obtain⟨i,hi,rfl⟩:=zE.1 hz;have:=zg.1 hi;unfold QF at this;omega
theorem GP.write (p:GP σ0 U L H held s0 P gb km fm x)(gc:Gc σ0)(z u:Int)(hz:z<=9223372036854775807){R:aN}
 (hR:∀w s0' P',Ext P U w->GP σ0 w L {H with sp:=ZD H.sp z u} held s0' P' gb km fm x->(∀c,P' c->P c\/U.size<=c)->R (eO H.sp z) w):Xw.c (aW L.p) z u U R:=by
 refine MZ p.h (gc.bP p.e) z u hz λw e a=>?_;exact hR w _ _ e (p.step (ts':=L.ts) e a (p.hi.write z u) ⟨rfl,rfl,rfl,rfl⟩) λc b=>b.1
theorem FL {D:Nat}{s:Hp}{K:aP}(h:s[D]?=some (.deferred (some [])))(hK:∀w,Ext (· = D) s w->K w):vf D s K:=
 ⟨h,hK _ ⟨by simp,λb d a=>by rw[Array.getElem?_setIfInBounds,zB λh=>a h.symm]⟩⟩
set_option maxRecDepth 8000 in
theorem EC (p:GP σ0 U L H held s0 P gb km fm x)(gc:Gc σ0)(bi:gS b)(val:Int){R:aP}
 (hR:∀w s0' P',Ext P U w->GP σ0 w L {H with sp:=iL H.sp (XO b) λ_=>val} held s0' P' gb km fm x->(∀c,P' c->P c\/U.size<=c)->R w):Yu.c (aW gb) b.1 b.2.1 b.2.2.1 b.2.2.2.1 b.2.2.2.2 val U R:=by
 obtain⟨⟨s1,s2⟩,⟨X,N⟩,⟨Y,V,W⟩,⟨t,Z⟩,hm⟩:=bi;have M:=ZS (n:=b.2.1) O;have S:(QF b:Int)*8=ZB b.2.1:=by unfold QF;omega
 refine Yu.o ?_;unfold Yu.v;refine nw (cs:=fP b) λv Q e J=>?_;refine Qp (a:=bO) (λ(z:Int) u=>∃(i:Nat) (s0':Sp) (P':Rg),z=8*(i:Int)/\i<=QF b/\Ext P v u/\bZ u U.size (fP b)/\GP σ0 u L {H with sp:=iL H.sp ((List.range i).map λ(j:Nat)=>b.1+8*(j:Int)) λ_=>val} held s0' P' gb km fm x/\∀c,P' c->P c\/v.size<=c) (λz _=>(ZB b.2.1-z).toNat)
  ⟨0,s0,P,O,O,Ext.refl _ _,J,p.fr e,λc g=>.inl g⟩ ?_
 rintro(z:Int) u ⟨i,s0',P',rfl,hi,eu,hbu,pu,hP⟩;refine hbu.rI rfl (hbu.rI rfl (hbu.rI rfl (hbu.rI rfl (hbu.rI rfl (Hx b O O λB e1=>?_)))));have m:=e1.bV hbu id;have y:=pu.fr e1;refine cP (λG=>?_) λD=>?_
 ·refine bL (y.b.rP rfl (m.fM rfl (ar O O (y.write gc _ val O λK d P'' e2 A s=>?_))));have C:=e1.1;have F:=eu.1;refine ar O O ⟨⟨i+1,d,P'',O,O,Ext.dW (eu.gp e1) e2 hP,e2.bV m λE=>?_,?_,λc g=>?_⟩,O⟩
  ·rcases hP _ E with h|h
   ·have:=(p.pP _ h).2;omega
   ·omega
  ·rw[qF,zm,List.map_singleton,BM];exact A
  ·rcases s c g with h|h
   ·exact hP c h
   ·exact .inr O
 ·have r:i=QF b:=by omega
  subst r;refine hR B _ _ ((aG.to e).trans (eu.gp e1)) y λc g=>?_;have:=e.1;exact(hP c g).imp id λh=>by omega
def jM (sp:Sp)(z:Int):Bool:=eO sp z != 0||QV sp z != jv z
def QN (sp:Sp)(b:B5):List Int:=(Ze b).filter (jM sp)
set_option maxRecDepth 16000 in
theorem En (p:GP σ0 U L H held s0 P gb km fm x)(bi:gS b){R:Sl->Hp->Prop}
 (hR:∀s w Q,aG U w->bS s 1 (Wu (QN H.sp b)) w Q->(∀c,Q c->U.size<=c/\c<w.size)->R s w):XK.c (aW gb) b.1 b.2.1 b.2.2.1 b.2.2.2.1 b.2.2.2.2 U R:=by
 refine XK.o ?_;unfold XK.v;refine nw (cs:=[.pointer (some ⟨gb,0,none⟩)]) λv1 hz1 e1 b1=>nw (cs:=fP b) λM hz2 e2 b2=>nw (cs:=[.slice none 0 0]) λv3 hz3 e3 b3=>?_;have y:=e3.bV b2 id;have S:=(e2.trans e3).bV b1 id;refine y.rI rfl (y.rI rfl (y.rI rfl (y.rI rfl (y.rI rfl (Fg b λX hz4 e4 b4=>?_)))));have Z:=((e1.trans e2).trans e3).trans e4;have hzs:(Ze b).length<=100000:=by
  obtain⟨⟨s1,s2⟩,⟨b1,b2⟩,⟨z1,z2,z3⟩,⟨t,t2⟩,hm⟩:=bi;have hw:=ZS (n:=b.2.1) O;rw[Gs];unfold VL oB;omega
 refine⟨rfl,by kernel_rfl,Ze b,_,λk s=>aG U s/\bZ s U.size [.pointer (some ⟨gb,0,none⟩)]/\bZ s v3.size (fP b)/\∃(sl:Sl) (Q:Rg),bZ s M.size [.slice sl.a sl.len sl.cap]/\bS sl 1 (Wu (((Ze b).take k).filter (jM H.sp))) s Q/\∀c,Q c->X.size+2<=c/\c<s.size,FO bi,?_,λk s h=>h.2.2.1,?_,?_,?_⟩
 ·rintro k s s' ⟨B,D,F,sl,Q,C,E,A⟩ e;have hz:=e.1;refine⟨Ext.dW B e λc d=>.inr O,e.bV D O,e.bV F O,sl,Q,e.bV C O,aI.bT E e λc _ V d=>?_,λc d=>?_⟩
  ·have:=A c V;omega
  ·have:=A c d;omega
 ·exact⟨Z,(e4).bV S id,b4,⟨none,0,0⟩,λ_=>False,e4.bV b3 id,⟨rfl,.inl ⟨rfl,rfl⟩⟩,λc d=>d.elim⟩
 ·rintro k z hk s ⟨B,D,F,sl,Q,C,E,A⟩ hsz;have zi:=HZ bi (zG hk);have N:=bi.base;have hm:=bi.m;have hkl:=(cY.1 hk).1;have ps:=p.fr B;have G:(Ze b).take (k+1)=(Ze b).take k++[z]:=by rw[kz,hk];rfl
  refine D.qC rfl (bL (ps.b.rP rfl (Ct ps.h z O λv5 g=>?_)));have hz5:=g.1;refine Kd (λr u=>u=v5/\r=jM H.sp z) (λr u ⟨hu,hr⟩=>?_) λJ hJ=>?_
  ·subst hu;have K:=aI.bP E g;have i:∀c,Q c->c≠X.size/\c≠X.size+1/\c≠U.size/\c≠v3.size/\c≠M.size:=λc d=>by have:=A c d;omega
   refine cN (λN=>?_) λN=>?_
   ·refine(g.bV C id).wq rfl (xN K ?_ z λs' v8 W h8=>?_)
    ·have B:=pN (jM H.sp) ((Ze b).take k);rw[zY]at B;omega
    have hz8:=W.1;have h48:=W.bV (g.bV C id) λd=>(i _ d).2.2.2.2 rfl;refine h48.s0 aA λv9 o9 h9=>?_;have e9:=o9.ext;have hz9:=o9.1;have j:Ext (λc=>Q c\/c=M.size) u v9:=(W.sub λc d=>.inl d).trans (e9.sub λc d=>.inr d);refine⟨⟨Ext.dW (B.trans g) j λc d=>?_,j.bV (g.bV D id) ?_,j.bV (g.bV F id) ?_,s',λc=>Q c\/u.size<=c/\c<v8.size,h9,?_,λc d=>?_⟩,?_,?_⟩
    ·rcases d with d|d
     ·have:=A c d;exact .inr O
     ·exact .inr O
    ·rintro(d|d)
     ·exact(i _ d).2.2.1 rfl
     ·omega
    ·rintro(d|d)
     ·exact(i _ d).2.2.2.1 rfl
     ·omega
    ·have:((Ze b).take (k+1)).filter (jM H.sp)=((Ze b).take k).filter (jM H.sp)++[z]:=by
      rw[G,wA,vn (by rw[←hr];exact N)];rfl
     rw[this];refine aI.bT h8 e9 λc _ d (hx:c=M.size)=>?_;rcases d with d|d
     ·exact(i _ d).2.2.2.2 hx
     ·omega
    ·rcases d with d|d
     ·have:=A c d;omega
     ·omega
    ·rw[j.2 _ O (by rintro(d|d);exact(i _ d).1 rfl;omega)];exact g.2 _ O id
    ·rw[j.2 _ O (by rintro(d|d);exact(i _ d).2.1 rfl;omega)];exact g.2 _ O id
   ·refine⟨⟨B.trans g,g.bV D id,g.bV F id,sl,Q,g.bV C id,?_,λc d=>?_⟩,g.2 _ O id,g.2 _ O id⟩
    ·have:((Ze b).take (k+1)).filter (jM H.sp)=((Ze b).take k).filter (jM H.sp):=by
      rw[G,wA,vq (by rw[←hr,N];decide),List.filter_nil,kD]
     rw[this];exact K
    ·have:=A c d;omega
  ·refine cN (λh=>hJ _ _ ⟨rfl,by unfold jM;rw[h];rfl⟩) λh=>IF z O O (hJ _ _ ⟨rfl,by unfold jM;rw[h];rfl⟩)
 ·rintro s ⟨B,D,F,sl,Q,C,E,A⟩ hD;rw[lW]at E;refine C.wq rfl (FL hD λw Y=>?_);have hz:=Y.1;refine hR sl w Q (Ext.dW B Y λc d=>.inr O) (aI.bT E Y λc _ V d=>?_) λc d=>?_
  ·have:=A c V;omega
  ·have:=A c d;omega
end Go.Ar
namespace Go.Ar
open Go Go.Vc Go.Proofs
open Go.Vc (bU dA cO)
variable {U w w':Hp}{F P Q X:Rg}{L:dE}{H H':Hw}{held:List Pc}{s0:Sp}{t n:Nat}{g:Th}{σ0:Hp}{addrs:Sl}{ad:List Int}{l:Sl}{ds:List fo}
theorem fZ.push (p:fZ σ0 U L H held s0 P Q addrs ad){s':Sl}{x:Int}(e:Ext Q U w)(hr:bS s' 1 (Wu (ad++[x])) w (λb=>Q b\/U.size<=b/\b<w.size))(hl:(ad++[x]).length<=60):fZ σ0 w L H held s0 P (λb=>Q b\/U.size<=b/\b<w.size) s' (ad++[x]):=by
 have j:=e.1;have i:=p.e.1;refine⟨Ext.dW p.e e λb a=>.inr (p.pQ b a).1,p.h.bT e (λb a d g=>(p.pQ b g).2.2 d) (λb a=>p.g0.1 b (p.pQ b a).1) (λa=>p.g0.2 (p.pQ _ a).1),p.hi,p.cf,p.pg,λb a=>⟨(p.pP b a).1,by have:=(p.pP b a).2;omega⟩,λb a=>?_,hr,hl,p.g0⟩;rcases a with a|a
 ·exact⟨(p.pQ b a).1,by have:=(p.pQ b a).2.1;omega,(p.pQ b a).2.2⟩
 ·exact⟨O,a.2,λd=>by have:=(p.pP b d).2;omega⟩
theorem Lt {tb:List cA}{size align:Int}{k:Nat}(h:ia tb size align=some k):∃c,tb[k]?=some c/\size<=(c.size:Int)/\(c.size:Int)%align=0:=by
 unfold ia at h;obtain⟨b,a,_⟩:=nE.1 h;simp only[zF,zV,zT]at a;exact⟨tb[k],cX b,a.1,a.2⟩
theorem Ss {tb:List cA}{size align:Int}(h:size<=16384/\He size align=true):size<=(oL tb size align).1/\(oL tb size align).2=0:=by
 unfold oL;rw[zC h];refine⟨?_,rfl⟩;cases hc:ia tb size align with
 | some k=>
  obtain⟨c,b,a,_⟩:=Lt hc;simp only;rw[zQ,b];exact a
 | none=>simp only;unfold yG;omega
theorem DZ {live:List (Int×Bk)}{x:Int}(b:Bk):bU (dA live x b) x=some b:=by rw[UJ,zC rfl]
end Go.Ar
namespace Go.Ar
open Go Go.Vc Go.Proofs
open Go.Vc (bU dA cO)
open Go.Bu (fB VG Hk)
variable {size align:Int}{U σ0 v w w':Hp}{F P Q X T:Rg}{L:dE}{H H' H1:Hw}{held:List Pc}{s0 sp:Sp}{t n:Nat}{g:Th}{gb km fm m:Nat}{x y:Gu}{b:B5}
theorem _root_.Go.Vc.bZ.s2 {U:Hp}{b o i j:Nat}{cs:List Value}(hb:bZ U b cs){v:Value}(ho:o+i+j<cs.length){K:aP}(hK:∀h',Q3 U h' b->bZ h' b (cs.set (o+i+j) v)->K h'):dZ (Addr.add (Addr.add ⟨b,o,none⟩ i) j) v U K:=by
 rw[add_lit];exact hb.s1 ho hK
def Mg (P:Rg)(gb km fm:Nat):Rg:=λb=>P b\/b=gb\/b=km\/b=fm
def mw (size align:Int):Bool:=decide (1<=size/\size<=1024/\1<=align/\align<=256)&&fB align
def zA (align:Int):Int:=if 16>align then 16 else align
theorem xf {align:Int}(h:align<=256):16<=zA align/\zA align<=256:=by unfold zA;split<;>omega
structure wb (H:Hw) (x:Gu) (size align:Int) (b:B5) (H1:Hw):Prop where
 me:rU H (zA align+ZB size+16) (zA align) H1 b.2.2.1 0
 a:b.1=b.2.2.1+zA align
 s:b.2.1=size
 u:Kt H1 b.2.2.1=some b.2.2.2.1
 n:b.2.2.2.2=x.no+1
 ok:mw size align=true
 bi:gS b
def jT (sp:Sp)(b:B5):Sp:=iL (iL sp (Ze b) jv) (XO b) λ_=>0
def Gu.dX (x:Gu)(b:B5):Gu:=⟨dA x.kn b.1 b,x.fr,x.no+1⟩
theorem Ci {a:Int}(h1:1<=a)(h2:a<=256)(hp:fB a=true):a%8=0\/a<8:=by
 by_cases h:a<8
 ·exact .inr h
 ·left;obtain⟨a,rfl⟩:=zc (show 0<=a by omega);rw[VG]at hp;have key:∀a:Nat,a<=256->8<=a->(a &&& (a-1)=0)->a%8=0:=by decide +kernel
  have:=key a O O (by have:=Hk (a:=a) O O;rw[hp]at this;simpa using this);omega
theorem PS (hi:HI H1 held s0)(hok:mw size align=true){base:Int}(me:rU H (zA align+ZB size+16) (zA align) H1 base 0):∃u,Kt H1 base=some u/\gS (base+zA align,size,base,u,x.no+1):=by
 unfold mw at hok;rw[zF,zV]at hok;obtain⟨⟨j,k2,k3,k4⟩,kp⟩:=hok;have r:=xf k4;have s:=ZS (n:=size) O;rcases me with⟨h,_⟩|⟨_,hm,hok,cl,hl,hcl⟩
 ·exact absurd rfl h
 have g:Kt H1 base=some (oL H.tb (zA align+ZB size+16) (zA align)).1:=by unfold Kt;rw[hl,DZ];rfl
 have m:=(Ss (tb:=H.tb) ⟨hok.2.1,hok.2.2⟩).1;obtain⟨p,b,d⟩:=od.1 g;have a:=hi.oP (Z8 b);simp only at a;rw[d]at a;have i:zA align%8=0:=by
  unfold zA;split
  ·decide
  ·rcases Ci k3 k4 kp with h|h
   ·exact h
   ·omega
 exact⟨_,g,⟨⟨j,k2⟩,⟨a.2.1,a.2.2.1⟩,⟨by simp only;omega,by simp only;omega,by simp only;omega⟩,⟨by simp only;omega,a.2.2.2.1⟩,by simp only;omega⟩⟩
set_option maxRecDepth 16000 in
theorem MU (p:GP σ0 U L H held s0 P gb km fm x)(gc:Gc σ0)(x0:0<=x.no/\x.no<=100000)(thread size align:Int){R:Int->Int->Hp->Prop}
 (h0:∀w,mw size align=false->aG U w->R 0 1 w)
 (h1:∀e w ts H' held' s0' P',mw size align=true->e≠0->KG H thread 0 (zA align+ZB size+16) (zA align) 0 H' 0 e->fS H H'->H'.live=H.live->Ext P U w->GP σ0 w {L with ts:=ts} H' held' s0' P' gb km fm x->(∀c,P' c->P c\/U.size<=c)->R 0 e w)
 (h2:∀b w ts H1 held' s0' P',wb H x size align b H1->KG H thread 0 (zA align+ZB size+16) (zA align) 0 H1 b.2.2.1 0->fS H H1->Ext (Mg P gb km fm) U w->GP σ0 w {L with ts:=ts} {H1 with sp:=jT H1.sp b} held' s0' P' gb km fm (x.dX b)->(∀c,P' c->P c\/U.size<=c)->R b.1 0 w) :
 Ya.c (aW gb) thread size align U R:=by
 refine Ya.o ?_;unfold Ya.v;rw[show(if(16:Int)>align then(16:Int)else align)=zA align from rfl]
 refine nw (cs:=[.pointer (some ⟨gb,0,none⟩)]) λv hz e hn4=>hn4.qC rfl (U7 (p.fr e) (cD rfl ?_));refine Kd (λr u=>u=v/\r = !decide (1<=size/\size<=1024)) (λr u ⟨hu,hr⟩=>?_) λJ hJ=>cP (λh=>hJ _ _ ⟨rfl,by rw[zJ O];rfl⟩) λh=>hJ _ _ ⟨rfl,?_⟩
 ·rw[hu];refine Kd (λr u=>u=v/\r = !decide (1<=size/\size<=1024/\1<=align)) (λr1 u1 ⟨hu1,hr1⟩=>?_) λJ1 hJ1=>?_
  ·rw[hu1];refine Kd (λr u=>u=v/\r = !decide (1<=size/\size<=1024/\1<=align/\align<=256)) (λr2 u2 ⟨hu2,hr2⟩=>?_) λJ2 hJ2=>?_
   ·rw[hu2];refine Kd (λr u=>u=v/\r = !mw size align) (λr3 u3 ⟨hu3,hr3⟩=>?_) λJ3 hJ3=>?_
    ·rw[hu3];clear hr hr1 hr2 hu hu1 hu2 hu3;by_cases hgk:mw size align=true
     ·refine cD (by rw[hr3,hgk];rfl) ?_;have hk:=hgk;unfold mw at hk;rw[zF,zV]at hk;obtain⟨⟨k1,k2,k3,k4⟩,kp⟩:=hk;have hzz:=xf k4;have hww:=ZS (n:=size) O;refine nw (cs:=[.int .i64 0,.int .i64 0,.int .i64 0,.int .i64 0,.int .i64 0]) λv6 hz6 e6 b6=>?_;refine b6.s1 aA λv7 o7 b7=>b7.s1 aA λv8 o8 b8=>b8.s1 aA λv9 o9 b9=>b9.s1 aA λv10 gC b10=>b10.s1 aA λv11 o11 b11=>?_;have bb:bZ v11 v.size (fP (0,size,0,0,0)):=b11;have eo:Ext (· = v.size) v6 v11:=(((o7.ext.trans o8.ext).trans o9.ext).trans gC.ext).trans o11.ext;have e11:aG v v11:=Ext.fresh e6 eo λi (hi:i=v.size)=>by omega
      have p11:=(p.fr e).fr e11;have N:=e11.bV hn4 id;have zv:U.size<v.size:=by omega
      have zb:=bb.lt;refine⟨λm=>bZ m U.size [.pointer (some ⟨gb,0,none⟩)]/\bZ m gb (sr L.p km fm x)/\bZ m v.size (fP (0,size,0,0,0)),⟨N,p11.b,bb⟩,?_⟩;refine rK (c:=.p) (y:=some ⟨gb,0,none⟩) (λm K=>K.1) rfl (bL (gL (c:=.p) (y:=some ⟨L.p,0,none⟩) (λm K=>K.2.1) rfl ?_));refine gL (c:=bO) (y:=0) (λm K=>K.2.2) rfl (gL (c:=bO) (y:=size) (λm K=>K.2.2) rfl (gL (c:=bO) (y:=0) (λm K=>K.2.2) rfl (gL (c:=bO) (y:=0) (λm K=>K.2.2) rfl (gL (c:=bO) (y:=0) (λm K=>K.2.2) rfl ?_))));refine Hx (0,size,0,0,0) aC aC λv12 A=>⟨⟨A.bV N id,A.bV p11.b id,A.bV bb id⟩,?_⟩;refine ar aC aC (ar aC aC ?_);have p12:=p11.fr A;have e012:=(e.trans e11).trans A;have z1112:=A.1;obtain⟨H',a,er,hw,o,me⟩:=Oh p.hi thread (zA align+ZB size+16) (zA align);obtain⟨held',s0',hi'⟩:=o.hi;refine LH Ep p12.h p12.cf.2.2 hw λv13 ts G h13=>?_;have B:=p12.step G h13 hi' o.kp;have z12:=e012.1;have z13:=G.1;have nP:∀c,U.size<=c->¬P c:=λc h1 h2=>by have:=(p.pP c h2).2;omega
      have V:=G.bV (A.bV N id) (nP _ (zD _));have bb13:=G.bV (A.bV bb id) (nP _ O);refine⟨⟨V,G.bV p12.b p.q8.2,bb13⟩,?_⟩;generalize hP1:Cut (Grow P v12) v13=P1 at B;have E:∀c,P1 c->P c\/U.size<=c:=λc d=>by
       rw[←hP1]at d;exact d.1.imp id λh=>by omega
      have M:∀c,P1 c->c<v13.size:=λc d=>by rw[←hP1]at d;exact d.2
      have F:∀c,c<v12.size->¬P c->¬P1 c:=λc h1 h2 C=>by
       rw[←hP1]at C;rcases C.1 with h4|h4
       ·exact h2 h4
       ·omega
      have E13:Ext P U v13:=(aG.to e012).trans G;refine cN (λhne=>?_) λheq=>?_
      ·have hne':er≠0:=by simpa using hne
       rcases me with⟨_,ha,hl⟩|⟨h,_⟩
       ·subst ha;exact h1 er v13 ts H' held' s0' P1 hgk hne' hw o hl E13 B E
       ·exact absurd h hne'
      ·have he0:er=0:=by simpa using heq
       subst he0;obtain⟨u,hu,bi⟩:=PS (x:=x) (size:=size) (align:=align) hi' hgk me;obtain⟨b,g⟩:∃b:B5,b=(a+zA align,size,a,u,x.no+1):=⟨_,rfl⟩;rw[←g]at bi;have hbs:=bi.base;have hbm:=bi.m;have hbz:=bi.z;have hbt:=bi.t;have hb1:b.1=a+zA align:=by rw[g]
       have hb2:b.2.1=size:=by rw[g]
       rw[hb2]at hbt;have Q:b.2.2.1=a:=by rw[g]
       have hb4:b.2.2.2.1=u:=by rw[g]
       rw[Q]at hbs;have gr:wb H x size align b H':=⟨by rw[Q];exact me,by rw[hb1,Q],by rw[g],by rw[Q,hb4];exact hu,by rw[g],hgk,bi⟩;have hgb13:=B.b.lt;have hvg:v.size≠gb:=λh=>by have:=p.b.lt;omega
       have hsg:U.size≠gb:=λh=>by have:=p.b.lt;omega
       have hvk:v.size≠km:=λh=>by have:=p.m.lt;omega
       have hsk:U.size≠km:=λh=>by have:=p.m.lt;omega
       have hvf:v.size≠fm:=λh=>by have:=p.f.lt;omega
       refine V.qC rfl (bL (B.b.rI rfl (ar O O (bL (B.b.s1 (by simp[sr]) λS D b14=>?_)))));have p14:GP σ0 S {L with ts:=ts} H' held' s0' P1 gb km fm {x with no:=x.no+1}:=B.fD (D.ext.sub λc d=>.inl d) b14 (D.ext.fX B.m λ(h:km=gb)=>p.n1 h.symm) (D.ext.fX B.f λ(h:fm=gb)=>p.n2 h.symm);have hn14:=D.ext.bV V hsg;have bb14:=D.ext.bV bb13 hvg;refine hn14.qC rfl (bL (p14.b.rI rfl (ar O O ?_)));refine bb14.s1 (by simp[fP]) λv15 o15 b15=>b15.s2 (by simp[fP]) λv16 o16 b16=>b16.s2 (by simp[fP]) λv17 o17 b17=>?_;have e17:Ext (· = v.size) S v17:=(o15.ext.trans o16.ext).trans o17.ext;have hout:∀c,c<S.size->c=v.size->¬P1 c/\c≠gb/\c≠km/\c≠fm/\σ0.size<=c:=λc _ d=>by
        subst d;have:=p.e.1;exact⟨F _ O (nP _ O),hvg,hvk,hvf,O⟩
       have p17:=p14.out e17 hout;have hn17:=e17.bV hn14 (show ¬U.size=v.size by omega);refine hn17.qC rfl (bL (p17.b.rP rfl (Ib p17.h a λv18 X=>?_)));rw[hu];refine(X.bV b17 id).s2 (by simp[fP]) λv19 o19 b19=>?_;have j:bZ v19 v.size (fP b):=by rw[g];exact b19
       have p18:=p17.fr X;have z17:=o17.1;have z16:=o16.1;have z15:=o15.1;have z14:=D.1;have z18:=X.1;have z19:=o19.1;have p19:=p18.out o19.ext λc hc1 (d:c=v.size)=>by
        subst d;have:=p.e.1;exact⟨F _ O (nP _ O),hvg,hvk,hvf,O⟩
       have hn19:=o19.ext.bV (X.bV hn17 id) (show ¬U.size=v.size by omega);have E19:Ext (Mg P gb km fm) U v19:=by
        refine Ext.dW (((((E13.sub λc d=>.inl d).trans (D.ext.sub λc d=>.inr (.inl d))))):Ext (Mg P gb km fm) U S) (((e17.trans (aG.to X)).trans o19.ext):Ext (· = v.size) S v19) λc (d:c=v.size)=>.inr O
       refine j.rI rfl (j.rI rfl (j.rI rfl (j.rI rfl (j.rI rfl (Fg b λv20 hz20 W b20=>?_)))));have p20:=p19.fr W;have hn20:=W.bV hn19 id;have bb20:=W.bV j id;have z20:=W.1;have E20:Ext (Mg P gb km fm) U v20:=E19.gp W;refine⟨rfl,by kernel_rfl,Ze b,_,λk s=>Ext (Mg P gb km fm) U s/\v20.size<=s.size/\bZ s U.size [.pointer (some ⟨gb,0,none⟩)]/\bZ s v.size (fP b)/\bZ s v19.size (fP b)/\∃(s0':Sp) (P':Rg),GP σ0 s {L with ts:=ts} {H' with sp:=iL H'.sp ((Ze b).take k) jv} held' s0' P' gb km fm {x with no:=x.no+1}/\∀c,P' c->P1 c\/v20.size+2<=c,FO bi,?_,λk s h=>h.2.2.2.2.1,?_,?_,?_⟩
       ·rintro k s s' ⟨i1,i2,i3,i4,i5,s1',P',i6,Z⟩ es;have zs:=es.1;have nn:∀c,c<v20.size->¬(c=v20.size\/c=v20.size+1):=λc h=>by omega
        refine⟨Ext.dW i1 es λc d=>.inr O,O,es.bV i3 (nn _ O),es.bV i4 (nn _ O),es.bV i5 (nn _ O),s1',P',i6.out es λc _ d=>?_,Z⟩;have:=p.e.1;have g1:=p.b.lt;have g2:=p.m.lt;have g3:=p.f.lt;refine⟨λhx=>?_,O,O,O,O⟩;rcases Z c hx with h|h
        ·have:=M c h;omega
        ·omega
       ·exact⟨E20,zD _,hn20,bb20,b20,s0',P1,p20,λc d=>.inl d⟩
       ·rintro k (z:Int) hk s ⟨i1,i2,i3,i4,i5,s1',P',i6,Z⟩ hsz;have zi:=HZ bi (zG hk);have hzk:0<=z/\z<=1000000:=by
         have z1:=zi.1;have z2:=zi.2.2.1;have h0:=bi.base.1;omega
        have htk:(Ze b).take (k+1)=(Ze b).take k++[z]:=by rw[kz,hk];rfl
        have Y:∀c,c<v20.size+2->(¬P1 c)->¬P' c:=λc h1 h2 C=>(Z c C).elim h2 λh=>by omega
        have q1:¬P1 U.size:=F _ O (nP _ (zD _));have q2:¬P1 v.size:=F _ O (nP _ O);have q3:∀c,v13.size<=c->¬P1 c:=λc h1 h2=>by have:=M c h2;omega
        refine⟨λm=>bZ m U.size [.pointer (some ⟨gb,0,none⟩)]/\bZ m gb (sr L.p km fm {x with no:=x.no+1}),⟨i3,i6.b⟩,rK (c:=.p) (y:=some ⟨gb,0,none⟩) (λm h=>h.1) rfl (bL (gL (c:=.p) (y:=some ⟨L.p,0,none⟩) (λm h=>h.2) rfl ?_))⟩;refine IF z hzk.1 hzk.2 ⟨⟨i3,i6.b⟩,?_⟩;refine i6.write gc z (jv z) O λs2 s2' P2 e2 p2 hP2=>?_;have zs2:=e2.1;have i3':=e2.bV i3 (Y _ O q1);refine⟨⟨i3',p2.b⟩,⟨Ext.dW i1 e2 λc d=>?_,O,i3',e2.bV i4 (Y _ O q2),e2.bV i5 (Y _ O (q3 _ O)),s2',P2,?_,λc d=>?_⟩,e2.2 _ O (Y _ O (q3 _ O)),e2.2 _ O (Y _ O (q3 _ O))⟩
        ·rcases Z c d with h|h
         ·exact(E c h).imp .inl id
         ·exact .inr O
        ·rw[htk,BM];exact p2
        ·rcases hP2 c d with h|h
         ·exact Z c h
         ·exact .inr O
       ·rintro s ⟨i1,i2,i3,i4,i5,s1',P',i6,Z⟩ hD;rw[lW]at i6;have Y:∀c,c<v20.size+2->(¬P1 c)->¬P' c:=λc h1 h2 C=>(Z c C).elim h2 λh=>by omega
        have q1:¬P1 U.size:=F _ O (nP _ (zD _));have q2:¬P1 v.size:=F _ O (nP _ O);have q3:∀c,v13.size<=c->¬P1 c:=λc h1 h2=>by have:=M c h2;omega
        refine i3.qC rfl (i4.rI rfl (i4.rI rfl (i4.rI rfl (i4.rI rfl (i4.rI rfl (EC i6 gc bi 0 λs2 s2' P2 e2 p2 hP2=>?_))))));have zs2:=e2.1;have hlt:=(j9.1 hD).1;have i3':=e2.bV i3 (Y _ O q1);have i4':=e2.bV i4 (Y _ O q2);have hS:∀m,(bZ m U.size [.pointer (some ⟨gb,0,none⟩)]/\bZ m gb (sr L.p km fm {x with no:=x.no+1})/\bZ m v.size (fP b))->bZ m v.size (fP b):=λm h=>h.2.2;refine⟨λm=>bZ m U.size [.pointer (some ⟨gb,0,none⟩)]/\bZ m gb (sr L.p km fm {x with no:=x.no+1})/\bZ m v.size (fP b),⟨i3',p2.b,i4'⟩,rK (c:=.p) (y:=some ⟨gb,0,none⟩) (λm h=>h.1) rfl (bL (gL (c:=.m) (y:=some km) (λm h=>h.2.1) rfl ?_))⟩;refine oV (c:=bO) (y:=b.1) hS rfl (gL (c:=bO) (y:=b.1) hS rfl (gL (c:=bO) (y:=b.2.1) hS rfl (gL (c:=bO) (y:=b.2.2.1) hS rfl (gL (c:=bO) (y:=b.2.2.2.1) hS rfl (gL (c:=bO) (y:=b.2.2.2.2) hS rfl ⟨km,x.kn,rfl,p2.m,λs3 o3 m3=>?_⟩)))));have p3:GP σ0 s3 {L with ts:=ts} {H' with sp:=jT H'.sp b} held' s2' P2 gb km fm (x.dX b):=p2.fD (y:=x.dX b) (o3.ext.sub λc d=>.inr (.inl d)) (o3.ext.bV p2.b p.n1) m3 (o3.ext.fX p2.f λ(h:fm=km)=>p.n3 h.symm);have zs3:=o3.1;have hkm:=p.m.lt;have hfm:=p.f.lt;have hgb:=p.b.lt;have hD3:s3[v20.size]?=some (.deferred (some [])):=(o3.2 _ O).trans ((e2.2 _ hlt (Y _ O (q3 _ O))).trans hD);refine(o3.ext.bV i4' hvk).fM rfl (FL hD3 λs4 e4=>?_);have hP2':∀c,P2 c->P c\/U.size<=c:=λc d=>by
         rcases hP2 c d with h|h
         ·rcases Z c h with h|h
          ·exact E c h
          ·exact .inr O
         ·exact .inr O
        refine h2 b s4 ts H' held' s2' P2 gr (by rw[Q];exact hw) o ?_ (p3.out e4 λc _ (d:c=v20.size)=>?_) hP2'
        ·have E1:Ext (Mg P gb km fm) U s2:=Ext.dW i1 e2 λc d=>by
          rcases Z c d with h|h
          ·exact(E c h).imp .inl id
          ·exact .inr O
         have E2:Ext (Mg P gb km fm) U s3:=E1.trans (o3.ext.sub λc d=>.inr (.inr (.inl d)));exact Ext.dW E2 e4 λc (d:c=v20.size)=>.inr O
        ·subst d;have:=p.e.1;refine⟨λhx=>?_,O,O,O,O⟩;rcases hP2 _ hx with h|h
         ·exact Y _ O (q3 _ O) h
         ·omega
     ·exact cF (by rw[hr3];simp[hgk]) (h0 v (by simpa using hgk) e)
    ·by_cases g:1<=size/\size<=1024/\1<=align/\align<=256
     ·refine cD (by rw[hr2,zI g];rfl) (ar O O (hJ3 _ _ ⟨rfl,?_⟩));rw[WjB g.2.2.1 g.2.2.2];unfold mw;rw[zI g];rfl
     ·refine cF (by rw[hr2,zJ g];rfl) (hJ3 _ _ ⟨rfl,?_⟩);unfold mw;rw[zJ g];rfl
   ·by_cases g:1<=size/\size<=1024/\1<=align
    ·refine cD (by rw[hr1,zI g];rfl) (hJ2 _ _ ⟨rfl,?_⟩);by_cases C:align>256
     ·rw[zI C,zJ O];rfl
     ·rw[zJ C,zI O];rfl
    ·exact cF (by rw[hr1,zJ g];rfl) (hJ2 _ _ ⟨rfl,by rw[zJ O];rfl⟩)
  ·by_cases g:1<=size/\size<=1024
   ·refine cD (by rw[hr,zI g];rfl) (hJ1 _ _ ⟨rfl,?_⟩);by_cases C:align<1
    ·rw[zI C,zJ O];rfl
    ·rw[zJ C,zI O];rfl
   ·exact cF (by rw[hr,zJ g];rfl) (hJ1 _ _ ⟨rfl,by rw[zJ O];rfl⟩)
 ·by_cases C:size>1024
  ·rw[zI C,zJ O];rfl
  ·rw[zJ C,zI O];rfl
end Go.Ar
namespace Go.Ar
open Go Go.Vc Go.Proofs Go.RowKit Go.Sort Go.Shelf Go.Lib
variable {U:Hp}{F Q:Rg}{s:Sl}{xs:List Int}
end Go.Ar
namespace Go.Ar
open Go Go.Vc Go.Proofs
open Go.Vc (bU dA cO)
variable {size align:Int}{U σ0 v w w':Hp}{F P Q X T:Rg}{L:dE}{H H' H1:Hw}{held:List Pc}{s0 sp:Sp}{t n:Nat}{g:Th}{gb km fm m:Nat}{x y:Gu}{b:B5}
def Ga:Int:=-1234567
def lQ (H:Hw)(x:Gu)(thread addr:Int)(whole:Bool):Int:=
 if ZA H thread≠0 then ZA H thread else match bU x.kn addr with
 | none=>if(bU x.fr addr).getD false then 9 else 8
 | some b=>if UC H b then 5 else if whole&&decide (0<(QN H.sp b).length)then 10 else 0
def Gu.gone (x:Gu)(addr:Int):Gu:=⟨cO x.kn addr,dA x.fr addr true,x.no⟩
def dP (H:Hw)(b:B5):Hw:={H with sp:=iL H.sp (XO b) λ_=>Ga}
set_option maxRecDepth 16000 in
theorem Is (p:GP σ0 U L H held s0 P gb km fm x)(gc:Gc σ0)(xi:∀e∈x.kn,e.1=e.2.1/\gS e.2)(thread addr:Int)(whole:Bool){R:aN}
 (h0:∀w,lQ H x thread addr whole≠0->aG U w->R (lQ H x thread addr whole) w)
 (h1:∀b w ts H1 held' s0' P' e,bU x.kn addr=some b->lQ H x thread addr whole=0->KG (dP H b) thread 1 0 0 b.2.2.1 H1 0 e->fS (dP H b) H1->nQ (dP H b) thread b.2.2.1 H1 e->Ext (Mg P gb km fm) U w->GP σ0 w {L with ts:=ts} H1 held' s0' P' gb km fm (x.gone addr)->(∀c,P' c->P c\/U.size<=c)->R 0 w) :
 XQ.c (aW gb) thread addr whole U R:=by
 refine XQ.o ?_;unfold XQ.v;refine U7 p (cD rfl (T4 p thread λC e1=>?_));have p1:=p.fr e1;refine cN (λhne=>?_) λheq=>?_
 ·have hn:ZA H thread≠0:=by simpa using hne
  have he:lQ H x thread addr whole=ZA H thread:=by unfold lQ;rw[zC hn]
  have:=h0 C (by rw[he];exact hn) e1;rw[he]at this;exact this
 have hrd:ZA H thread=0:=by simpa using heq
 have a:lQ H x thread addr whole=match bU x.kn addr with
  | none=>if(bU x.fr addr).getD false then 9 else 8
  | some b=>if UC H b then 5 else if whole&&decide (0<(QN H.sp b).length)then 10 else 0:=by
  unfold lQ;rw[zB (by rw[hrd];decide)]
 refine bL (p1.b.rM rfl ⟨x.kn,p1.m,?_⟩);refine nw (cs:=[.int .i64 0,.int .i64 0,.int .i64 0,.int .i64 0,.int .i64 0]) λv2 hz2 e2 b2=>b2.s1 aA λv3 o3 b3=>b3.s1 aA λv4 o4 b4=>b4.s1 aA λv5 o5 b5=>b5.s1 aA λv6 o6 b6=>b6.s1 aA λv7 o7 b7=>?_;have eo:Ext (· = C.size) v2 v7:=(((o3.ext.trans o4.ext).trans o5.ext).trans o6.ext).trans o7.ext;have e17:aG C v7:=Ext.fresh e2 eo λi (hi:i=C.size)=>by omega
 have D:=e1.trans e17;have p7:=p.fr D;have d:bZ v7 C.size (fP ((bU x.kn addr).getD (0,0,0,0,0))):=b7;cases hk:bU x.kn addr with
 | none=>
  rw[hk]at a;simp only at a;refine Kd (λr u=>u=v7/\r=(bU x.fr addr).getD false) (λr u ⟨hu,K⟩=>?_) λJ N=>cF rfl (bL (p7.b.rM rfl ⟨x.fr,p7.f,N _ _ ⟨rfl,rfl⟩⟩));rw[hu];refine cN (λh=>?_) λh=>cF rfl ?_
  ·rw[←K,h]at a;have:=h0 v7 (by rw[a];decide) D;rw[a]at this;exact this
  ·rw[←K,h]at a;have:=h0 v7 (by rw[a];decide) D;rw[a]at this;exact this
 | some b=>
  rw[hk]at a d;simp only at a;have d:bZ v7 C.size (fP b):=d;have F:gS b:=(xi _ (Z8 hk)).2;refine Kd (λr u=>u=v7/\r=false) (λr u ⟨hu,K⟩=>?_) λJ N=>cD rfl (N _ _ ⟨rfl,rfl⟩);rw[hu];refine cD K (cD rfl (d.rI rfl (d.rI rfl (d.rI rfl (d.rI rfl (d.rI rfl (AN p7 b λv9 e9=>?_)))))));have E:=D.trans e9;have p9:=p.fr E;have j:=e9.bV d id;refine cN (λhl=>?_) λhl=>?_
  ·rw[zC hl]at a;have:=h0 v9 (by rw[a];decide) E;rw[a]at this;exact this
  rw[zB (by rw[hl];decide)]at a;refine Kd (λr u=>aG U u/\bZ u C.size (fP b)/\r=(whole&&decide (0<(QN H.sp b).length))) (λr u ⟨G,A,K⟩=>?_) λJ N=>cN (λM=>?_) λM=>N _ _ ⟨E,j,by rw[M];rfl⟩
  ·refine cN (λh=>?_) λh=>?_
   ·rw[←K,zC h]at a;have:=h0 u (by rw[a];decide) G;rw[a]at this;exact this
   ·rw[←K,zB (by rw[h];decide)]at a;have pu:=p.fr G;have zu:=G.1;have z1:=e1.1;refine A.rI rfl (A.rI rfl (A.rI rfl (A.rI rfl (A.rI rfl (EC pu gc F (-1234567) λu1 S P1 ef Y V=>?_)))));have nP:¬P C.size:=λhx=>by have:=(p.pP _ hx).2;omega
    have hb1:=ef.bV A nP;have zf:=ef.1;refine bL (Y.b.rM rfl ⟨x.kn,Y.m,λu2 o2 _ m2=>?_⟩);have o2:=o2 km rfl;have X:GP σ0 u2 L (dP H b) held S P1 gb km fm ⟨cO x.kn addr,x.fr,x.no⟩:=Y.fD (y:=⟨cO x.kn addr,x.fr,x.no⟩) (o2.ext.sub λc g=>.inr (.inl g)) (o2.ext.bV Y.b p.n1) m2 (o2.ext.fX Y.f λ(h:fm=km)=>p.n3 h.symm);refine bL (X.b.rM rfl ⟨fm,x.fr,rfl,X.f,λu3 B m3=>?_⟩);have W:GP σ0 u3 L (dP H b) held S P1 gb km fm (x.gone addr):=X.fD (y:=x.gone addr) (B.ext.sub λc g=>.inr (.inr g)) (B.ext.bV X.b p.n2) (B.ext.fX X.m p.n3) m3;have hkm:=p.m.lt;have hfm:=p.f.lt;have hb3:=B.ext.bV (o2.ext.bV hb1 (show ¬C.size=km by omega)) (show ¬C.size=fm by omega);obtain⟨H',er,M,o,fe⟩:=Ro W.hi thread b.2.2.1 (by have:=F.base;have:=F.m;have:=F.t;have:=F.z;have:=F.s;have:=ZS (n:=b.2.1) O;unfold iN;omega);obtain⟨held',s0',Z⟩:=o.hi;refine bL (W.b.rP rfl (hb3.fM rfl (Tr Ep W.h W.cf.2.2 M λu4 ts e4 h4=>?_)));have p5:=W.step e4 h4 Z o.kp;have z2:=o2.1;have z3:=B.1;have z4:=e4.1;refine h1 b u4 ts H' held' s0' _ er hk a M o fe ?_ p5 λc g=>?_
    ·have E1:Ext (Mg P gb km fm) U u1:=(aG.to G).trans (ef.sub λc g=>.inl g);have E3:Ext (Mg P gb km fm) U u3:=(E1.trans (o2.ext.sub λc g=>.inr (.inr (.inl g)))).trans (B.ext.sub λc g=>.inr (.inr (.inr g)));exact Ext.dW E3 e4 λc g=>(V c g).imp .inl λh=>by omega
    ·rcases g.1 with g|g
     ·exact(V c g).imp id λh=>by omega
     ·exact .inr O
  ·refine j.rI rfl (j.rI rfl (j.rI rfl (j.rI rfl (j.rI rfl (En p9 F λs u Q G hs hQ=>N _ _ ⟨E.trans G,G.bV j id,?_⟩)))));have:s.len=(QN H.sp b).length:=by have:=hs.1;simp[Wu]at this;omega
   rw[M,this,qU,kA,decide_eq_true_iff,decide_eq_true_iff];omega
def kZ (H:Hw)(x:Gu)(addr:Int):Int:=match bU x.kn addr with
 | none=>8
 | some b=>if UC H b then 5 else 0
def vK (H:Hw)(x:Gu)(addr:Int):List Int:=match bU x.kn addr with
 | none=>[]
 | some b=>if UC H b then[]else QN H.sp b
set_option maxRecDepth 16000 in
theorem JD (p:GP σ0 U L H held s0 P gb km fm x)(xi:∀e∈x.kn,e.1=e.2.1/\gS e.2)(addr:Int){R:Sl->Int->Hp->Prop}
 (hR:∀s w Q,aG U w->bS s 1 (Wu (vK H x addr)) w Q->(∀c,Q c->U.size<=c/\c<w.size)->R s (kZ H x addr) w):X3.c (aW gb) addr U R:=by
 refine X3.o ?_;unfold X3.v;refine U7 p (cD rfl (bL (p.b.rM rfl ⟨x.kn,p.m,?_⟩)));refine nw (cs:=[.int .i64 0,.int .i64 0,.int .i64 0,.int .i64 0,.int .i64 0]) λS V e2 K=>K.s1 aA λv3 o3 M=>M.s1 aA λY o4 b4=>b4.s1 aA λv5 o5 N=>N.s1 aA λZ o6 C=>C.s1 aA λv7 o7 E=>?_;have W:Ext (· = U.size) S v7:=(((o3.ext.trans o4.ext).trans o5.ext).trans o6.ext).trans o7.ext;have j:aG U v7:=Ext.fresh e2 W λi (hi:i=U.size)=>by omega
 have z:=p.fr j;have a:bZ v7 U.size (fP ((bU x.kn addr).getD (0,0,0,0,0))):=E;have nil:∀w,bS ⟨none,0,0⟩ 1 (Wu []) w (λ_=>False):=λw=>⟨rfl,.inl ⟨rfl,rfl⟩⟩;unfold kZ vK at hR;cases hk:bU x.kn addr with
 | none=>
  rw[hk]at hR;exact cF rfl (hR _ v7 _ j (nil _) λc h=>h.elim)
 | some b=>
  rw[hk]at a hR;simp only at hR;have a:bZ v7 U.size (fP b):=a;have G:gS b:=(xi _ (Z8 hk)).2;refine cD rfl (a.rI rfl (a.rI rfl (a.rI rfl (a.rI rfl (a.rI rfl (AN z b λB y=>?_))))));have g:=j.trans y;have D:=p.fr g;have d:=y.bV a id;refine cN (λr=>?_) λr=>?_
  ·rw[r]at hR;exact hR _ B _ g (nil _) λc h=>h.elim
  ·rw[r]at hR;refine d.rI rfl (d.rI rfl (d.rI rfl (d.rI rfl (d.rI rfl (En D G λs u Q J X F=>?_)))));have:=g.1;exact hR s u Q (g.trans J) X λc A=>by have:=F c A;omega
def JC (H:Hw)(e:Int×B5):List Int:=if UC H e.2 then[]else QN H.sp e.2
def JO (H:Hw)(x:Gu):List Int:=x.kn.flatMap (JC H)
end Go.Ar
namespace Go.Proofs
open Go.Shelf
end Go.Proofs
namespace Go.Ar
open Go Go.Vc Go.Proofs Go.RowKit Go.Maps Go.Sort Go.Shelf
open Go.Vc (bU dA cO)
open Go.Bu (lu HM V6 HQ VI yF)
variable {U w w':Hp}{F P Q X S:Rg}{L:dE}{H H':Hw}{held:List Pc}{s0 sp:Sp}{t n:Nat}{g:Th}{σ0:Hp}
def lJ (b:Bk):List Value:=[.int .i64 b.1,.int .i64 b.2.1,.int .i64 b.2.2.1,.int .i64 b.2.2.2]
def ju (bs:List Bk):List Value:=bs.flatMap lJ
theorem Dr (bs:List Bk):(ju bs).length=bs.length*4:=by
 unfold ju
 induction bs with
 | nil=>rfl
 | cons b bs ih=>rw[pE,zK,ih];simp[lJ];omega
theorem DV:∀{bs:List Bk} {i:Nat} {b:Bk},bs[i]?=some b->∀{j:Nat} {v:Value},(lJ b)[j]?=some v->(ju bs)[4*i+j]?=some v
 | [],i,b,h,_,_,_=>by simp at h
 | a::bs,0,b,h,j,v,hv=>by
  simp only[yL,Option.some.injEq]at h;subst h;have hj:=(cY.1 hv).1;show(lJ a++ju bs)[4*0+j]?=_;rw[show 4*0+j=j by omega,zd hj];exact hv
 | a::bs,i+1,b,h,j,v,hv=>by
  have d:=DV (bs:=bs) (i:=i) (b:=b) (by simpa using h) hv;show(lJ a++ju bs)[4*(i+1)+j]?=_;rw[zp (by simp[lJ];omega)];have:4*(i+1)+j-(lJ a).length=4*i+j:=by simp[lJ];omega
  rw[this];exact d
theorem cV.tV {B:Nat}{s:Sl}{xs:List Value}(h:lu B U s xs):cV s 1 xs U (λb=>B<=b):=by
 refine⟨by have:=h.1;omega,?_⟩;rcases h.2 with⟨h0,_⟩|⟨b,cs,hb,ha,hk,hc⟩
 ·exact .inl h0
 ·exact .inr ⟨b,0,cs,hb,ha,hk.q,λj a=>by rw[zH];exact hc j a⟩
theorem DB {s:Sl}{bs:List Bk}(hs:cV s 4 (ju bs) U F){i:Nat}{b:Bk}(hb:bs[i]?=some b){K:Addr->Prop}(hK:∀bb o,(∀(j:Nat) v,(lJ b)[j]?=some v->cell U ⟨bb,o+j,none⟩=some v)->K ⟨bb,o,none⟩):Ix s.a s.len (i:Int) 4 K:=by
 have r:=(cY.1 hb).1;have y:s.len=bs.length:=by have:=hs.1;rw[Dr]at this;omega
 obtain⟨bb,o,g,u⟩:=hs.cell (DV hb (j:=0) rfl);rw[g];refine ix O O ?_;rw[add_lit,dH];refine hK bb _ λj v m=>?_;obtain⟨x,w,d,p⟩:=hs.cell (DV hb m);rw[g]at d;cases d;rw[←p];congr 2;omega
end Go.Ar
namespace Go.Proofs
open Go.Shelf
def Tryz.ik:Go.Shelf.Ren:=⟨fun|7=>67|10=>113|n=>n,fun|23=>72|26=>3|3=>106|28=>116|0=>0|27=>115|33=>118|4=>4|n=>n,fun|n=>n⟩
theorem Tryz.lH:Go.Proofs.SlLaysZI.n7 Tryz.prog Tryz.ik:={
 mixed:=by kernel_rfl
 f7:=⟨Tryz.f67.name,by decide,Tryz.func67.trans (congrArg some (by kernel_rfl))⟩
 f10:=⟨Tryz.f113.name,by decide,Tryz.func113.trans (congrArg some (by kernel_rfl))⟩
 t0:=Tryz.underlying0
 a0:=Tryz.isAgg0
 z0:=Tryz.sizeOf0
 v0:=Tryz.zeroValue0
 t4:=Tryz.underlying4
 a4:=Tryz.isAgg4
 z4:=Tryz.sizeOf4
 v4:=Tryz.zeroValue4
 t23:=Tryz.underlying72
 a23:=Tryz.isAgg72
 z23:=Tryz.sizeOf72
 v23:=Tryz.zeroValue72
 t26:=Tryz.underlying3
 a26:=Tryz.isAgg3
 z26:=Tryz.sizeOf3
 v26:=Tryz.zeroValue3
 t27:=Tryz.underlying115
 a27:=Tryz.isAgg115
 z27:=Tryz.sizeOf115
 v27:=Tryz.zeroValue115
 t28:=Tryz.underlying116
 a28:=Tryz.isAgg116
 z28:=Tryz.sizeOf116
 v28:=Tryz.zeroValue116
 t33:=Tryz.underlying118
 a33:=Tryz.isAgg118
 z33:=Tryz.sizeOf118
 v33:=Tryz.zeroValue118}
end Go.Proofs
namespace Go.Proofs
open Go.Vc
set_option maxRecDepth 100000
def WY.h:Hn:=.q .o1 (.q (.q .o5 .aK) (.q (.q .o1 (.k (.loop [(5,.I)] (.q (.q .o4 (.c .l .l)) (.q (.k (.q (.oq 9) .aK)) .o3))))) .aM))
def WY.v (a b:Sl)(c:Hp)(d:aO):Prop:=If (((a.len:Nat):Int) != ((b.len:Nat):Int)) (d false c) (Yb [bO] (λe=>e 0 c) λf (g:Int) h=>If (g<((a.len:Nat):Int)) (Ix a.a a.len g 1 λi=>bN i h λj=>Ix b.a b.len g 1 λk=>bN k h λl=>If (j != l) (d false h) (bM (g+1) λm=>f m h)) (d true h))
theorem WY.o {a b c d}(e:WY.v a b c d):WY.c a b c d:=Wa Tryz.func19 (x:=WY.h) (R0 e)
end Go.Proofs
namespace Go.Ar
open Go Go.Vc Go.Proofs Go.RowKit Go.Maps Go.Sort Go.Shelf
open Go.Vc (bU dA cO)
open Go.Bu (lu HM V6 HQ VI yF)
variable {size align:Int}{U σ0 v w w':Hp}{F P Q X T:Rg}{L:dE}{H H' H1:Hw}{held:List Pc}{s0 sp:Sp}{t n:Nat}{g:Th}{gb km fm m:Nat}{x y:Gu}{b:B5}
theorem D6 {k:IntKind}{c:CK}{l:List (Int×c.T)}{r:Nat}{a a':CK}{x0:a.T}{y0:a'.T}{A:a.T->a'.T->Hp->Prop}{body:Int->c.T->a.T->a'.T->Hp->(a.T->a'.T->Hp->Prop)->Prop}(hm:dK U r k c l)(I:List (Int×c.T)->a.T->a'.T->Hp->Prop)
 (h0:∀v,v.size=U.size+1->aG U v->I l x0 y0 v)
 (hend:∀z y v,I [] z y v->A z y v)
 (hstep:∀todo n x z y v v' (J:a.T->a'.T->Hp->Prop),I todo z y v->(n,x)∈todo->Q3 v v' U.size->U.size<v.size->(∀z' y' w,w[U.size]?=v'[U.size]?->w[r]?=v'[r]?->I (todo.filter λy=>!(y.1==n)) z' y' w->J z' y' w)->body n x z y v' J) :
 pL k c (some r) U λit v3=>Yb [a,a'] (λI=>I x0 y0 v3) λJ1 z y v4=>pJ k c it v4 (A z y v4) λ_ _ v5=>pY k c it v5 λkey1 val1=>body key1 val1 z y v5 J1:=by
 refine⟨l,hm,λv N P hi=>?_⟩;have Q:aG U v:=⟨O,λb m _=>P b m⟩;refine UD (a:=a) (bb:=a') (λz y w=>∃todo g,It w U.size k c (some r) l todo g/\I todo z y w/\U.size<w.size) (λ_ _ w=>xj w U.size r) ⟨l,none,hi,h0 v N Q,O⟩ ?_;rintro z y w ⟨todo,g,j,D,B⟩;refine⟨rfl,some r,l,todo,g,j,λK=>?_,λn x E M H i=>?_⟩
 ·subst K;exact hend z y w D
 ·refine⟨rfl,some r,l,_,n,x,i,hstep todo n x z y w M _ D E H B λz' y' u C s p=>?_⟩;have d:=i.bT C s;refine⟨⟨_,_,d,p,?_⟩,?_⟩
  ·obtain⟨R,G,F,L,_⟩:=d;exact(j9.1 L).1
  ·rw[d.num,j.num];exact Bi.2 ⟨(n,x),E,by simp⟩
def mC (ofV:B5->Int)(addr:Int)(b:B5):Prop:=b.1<=addr/\addr<b.1+ofV b
instance (ofV:B5->Int) (addr:Int) (b:B5):Decidable (mC ofV addr b):=by unfold mC;infer_instance
set_option maxRecDepth 16000 in
theorem OW (p:GP σ0 U L H held s0 P gb km fm x)(xi:∀e∈x.kn,e.1=e.2.1/\gS e.2)(addr:Int){ofv:Fv}{ofV:B5->Int}(hov:∀b,gS b->0<=ofV b/\ofV b<=100000)
 (hof:∀(b:B5) (u:Hp) (K:aN),gS b->(∀u',aG u u'->K (ofV b) u')->VO Tryz.prog ofv [.agg #[.int .i64 b.1,.int .i64 b.2.1,.int .i64 b.2.2.1,.int .i64 b.2.2.2.1,.int .i64 b.2.2.2.2]] [.one bO] u K)
 {R:Int->Int->Int->Int->Int->Bool->Hp->Prop}
 (h0:∀(b:B5) w,aG U w->(∀e∈x.kn,¬mC ofV addr e.2)->R b.1 b.2.1 b.2.2.1 b.2.2.2.1 b.2.2.2.2 false w)
 (h1:∀e w,aG U w->e∈x.kn->mC ofV addr e.2->R e.2.1 e.2.2.1 e.2.2.2.1 e.2.2.2.2.1 e.2.2.2.2.2 true w) :
 ZG.c (aW gb) addr ofv U R:=by
 refine ZG.o ?_;unfold ZG.v;refine nw (cs:=fP (0,0,0,0,0)) λv hz e b6=>nw (cs:=fP (0,0,0,0,0)) λv1 hz1 e1 b8=>?_;have e01:=e.trans e1;have p1:=p.fr e01;refine bL (p1.b.rM rfl ?_);refine D6 (a:=.b) (a':=.b) p1.m (λj (d F:Bool) u=>aG U u/\v1.size<u.size/\bZ u U.size (fP (0,0,0,0,0))/\(∀e∈j,e∈x.kn)/\∃iP:B5,bZ u v.size (fP iP)/\(d=false->∀e∈x.kn,e∈j\/¬mC ofV addr e.2)/\(d=true->∃e∈x.kn,e.2=iP/\mC ofV addr e.2))
  (λu hu Z=>⟨e01.trans Z,O,Z.bV (e1.bV b6 id) id,λe E=>E,(0,0,0,0,0),Z.bV b8 id,λ_ e E=>.inl E,λh=>by cases h⟩) ?_ ?_
 ·rintro(d:Bool) (F:Bool) u ⟨Z,hlt,hb6,_,iP,C,hf0,hf1⟩;refine C.rI rfl (C.rI rfl (C.rI rfl (C.rI rfl (C.rI rfl ?_))));refine hb6.s1 (by simp[fP]) λv3 o3 b3=>b3.s1 (by simp[fP]) λv4 o4 b4=>b4.s1 (by simp[fP]) λv5 o5 b5=>b5.s1 (by simp[fP]) λv6 o6 b6=>b6.s1 (by simp[fP]) λv7 o7 b7=>?_;have eo:Ext (· = U.size) u v7:=(((o3.ext.trans o4.ext).trans o5.ext).trans o6.ext).trans o7.ext;have e7:aG U v7:=Ext.fresh Z eo λi (hi:i=U.size)=>by omega
  have A:bZ v7 U.size (fP iP):=b7;refine A.rI rfl (A.rI rfl (A.rI rfl (A.rI rfl (A.rI rfl ?_))));cases d with
  | false=>exact h0 iP v7 e7 λe E=>(hf0 rfl e E).resolve_left aA
  | true=>
   obtain⟨e,E,rfl,G⟩:=hf1 rfl;exact h1 e v7 e7 E G
 ·rintro j k (b:B5) (d:Bool) (F:Bool) u u' J ⟨Z,hlt,hb6,D,iP,C,hf0,hf1⟩ Q o1 hs1 hJ;have bi:gS b:=(xi _ (D _ Q)).2;have ov:=hov b bi;have zu:=Z.1;have hz':=o1.1;have hbm:=bi.m;have hbz:=bi.z;have hbb:=bi.base;have hbt:=bi.t;have hbs:=bi.s;have hww:=ZS (n:=b.2.1) O;have ac:aG U u':=Ext.fresh Z o1.ext λc (hc:c=v1.size)=>by omega
  have aa:=o1.ext.bV hb6 (show ¬U.size=v1.size by omega);have Y:=o1.ext.bV C (show ¬v.size=v1.size by omega);have hkm:=p.m.lt;refine nw (cs:=fP (0,0,0,0,0)) λv2 hz2 e2 b2=>b2.s1 (by simp[fP]) λv3 o3 b3=>b3.s1 (by simp[fP]) λv4 o4 b4=>b4.s1 (by simp[fP]) λv5 o5 b5=>b5.s1 (by simp[fP]) λv6 o6 b6=>b6.s1 (by simp[fP]) λv7 o7 b7=>?_;have eo:Ext (· = u'.size) v2 v7:=(((o3.ext.trans o4.ext).trans o5.ext).trans o6.ext).trans o7.ext;have e7:aG u' v7:=Ext.fresh e2 eo λi (hi:i=u'.size)=>by omega
  have A:bZ v7 u'.size (fP b):=b7;have W:∀{w:Hp},aG u' w->w[v1.size]?=u'[v1.size]?/\w[km]?=u'[km]? := λe=>⟨e.2 _ O id,e.2 _ O id⟩;have S:∀e∈j.filter (λy=>!(y.1==k)),e∈x.kn:=λe E=>D e (zL.1 E).1;have hkb:∀e∈x.kn,e∈j->e∈j.filter (λy=>!(y.1==k))\/e=(k,b):=λe E ht=>by
   by_cases hk:e.1=k
   ·right;have h1:=Z6 p.m.nodup (show(e.1,e.2)∈x.kn from E);have h2:=Z6 p.m.nodup (D _ Q);rw[hk,h2]at h1;exact Prod.ext hk (Option.some.inj h1).symm
   ·exact .inl (zL.2 ⟨ht,by simpa using hk⟩)
  have same:∀w,aG u' w->(d=false->¬mC ofV addr b)->J d F w:=λw ew hnb=>by
   have zw:=ew.1;refine hJ d F w (W ew).1 (W ew).2 ⟨ac.trans ew,O,ew.bV aa id,S,iP,ew.bV Y id,λB e E=>?_,hf1⟩;rcases hf0 B e E with h|h
   ·rcases hkb e E h with h|rfl
    ·exact .inl h
    ·exact .inr (hnb B)
   ·exact .inr h
  refine yo (λr u2=>aG u' u2/\bZ u2 u'.size (fP b)/\r = !decide (mC ofV addr b)) (λr u2 ⟨eu2,M,hr⟩=>?_) λJ1 hJ1=>?_
  ·by_cases G:mC ofV addr b
   ·refine cD (by rw[hr,zI G];rfl) ?_;have pu:=(p.fr ac).fr eu2;refine M.rI rfl (M.rI rfl (M.rI rfl (M.rI rfl (M.rI rfl (AN pu b λV e17=>?_)))));have E17:=eu2.trans e17;have g:=e17.bV M id;have h617:=E17.bV aa id;have X:=E17.bV Y id;refine Kd (λr u3=>u3=V/\(d=false->r=true)) (λr u3 ⟨hu3,hr3⟩=>?_) λJ2 ab=>?_
    ·rw[hu3];refine Kd (λr1 u4=>u4=V/\(d=false->r1=true)) (λr1 u4 ⟨hu4,hr4⟩=>?_) λJ3 hJ3=>?_
     ·rw[hu4];refine cN (λh1=>?_) λh1=>same V E17 λB=>by rw[hr4 B]at h1;cases h1
      refine g.rI rfl (g.rI rfl (g.rI rfl (g.rI rfl (g.rI rfl ?_))));refine X.s1 (by simp[fP]) λw3 q3 c3=>c3.s1 (by simp[fP]) λw4 q4 c4=>c4.s1 (by simp[fP]) λw5 q5 c5=>c5.s1 (by simp[fP]) λw6 q6 c6=>c6.s1 (by simp[fP]) λw7 q7 c7=>?_;have qo:Ext (· = v.size) V w7:=(((q3.ext.trans q4.ext).trans q5.ext).trans q6.ext).trans q7.ext;have c7':bZ w7 v.size (fP b):=c7;have z17:=E17.1;have zq:=qo.1;refine hJ true _ w7 ?_ ?_ ⟨Ext.fresh (ac.trans E17) qo λc (hc:c=v.size)=>O,O,qo.bV h617 (show ¬U.size=v.size by omega),S,b,c7',λh=>(by cases h),λ_=>⟨(k,b),D _ Q,rfl,G⟩⟩
      ·rw[qo.2 _ O (show ¬v1.size=v.size by omega)];exact(W E17).1
      ·rw[qo.2 _ O (show ¬km=v.size by omega)];exact(W E17).2
     ·refine cN (λh=>hJ3 _ _ ⟨rfl,λ_=>rfl⟩) λh=>?_;have N:¬d=false:=λB=>by rw[hr3 B]at h;cases h
      exact bX.intro (cN (λ_=>g.rI rfl (X.rI rfl (hJ3 _ _ ⟨rfl,λB=>(N B).elim⟩))) λ_=>hJ3 _ _ ⟨rfl,λB=>(N B).elim⟩)
    ·refine cN (λh=>ab _ _ ⟨rfl,λ_=>rfl⟩) λh=>?_;have N:¬d=false:=λB=>by rw[B]at h;cases h
     exact bX.intro (cN (λ_=>ab _ _ ⟨rfl,λB=>(N B).elim⟩) λ_=>ab _ _ ⟨rfl,λB=>(N B).elim⟩)
   ·exact cF (by rw[hr,zJ G];rfl) (same u2 eu2 λ_=>G)
  ·have hS:∀m,aG v7 m->bZ m u'.size (fP b):=λm e=>e.bV A id;refine⟨λm=>aG v7 m,Ext.refl _ _,oV (c:=bO) (y:=b.1) hS rfl (cP (λh=>hJ1 _ _ ⟨e7,A,?_⟩) λh=>?_)⟩
   ·rw[zJ];rfl;rintro⟨h1,_⟩;exact absurd h O
   ·refine oV (c:=bO) (y:=b.1) hS rfl (gL (c:=bO) (y:=b.1) hS rfl (gL (c:=bO) (y:=b.2.1) hS rfl (gL (c:=bO) (y:=b.2.2.1) hS rfl (gL (c:=bO) (y:=b.2.2.2.1) hS rfl (gL (c:=bO) (y:=b.2.2.2.2) hS rfl (hof b v7 _ bi λu3 e3=>⟨e3,ar O O (hJ1 _ _ ⟨e7.trans e3,e3.bV A id,?_⟩)⟩))))));rw[kA,mI,decide_eq_true_iff,decide_eq_false_iff_not];unfold mC;omega
theorem Tt (b:B5)(u:Hp)(K:aN)(bi:gS b)(hK:∀u',aG u u'->K (ZB b.2.1) u'):VO Tryz.prog ⟨98,#[],#[]⟩ [.agg #[.int .i64 b.1,.int .i64 b.2.1,.int .i64 b.2.2.1,.int .i64 b.2.2.2.1,.int .i64 b.2.2.2.2]] [.one bO] u K:=by
 have:=bi.s;refine G5 (all := #[.agg #[.int .i64 b.1,.int .i64 b.2.1,.int .i64 b.2.2.1,.int .i64 b.2.2.2.1,.int .i64 b.2.2.2.2]]) (by kernel_rfl) aA ?_;exact Hx b O O hK
def Eh (addr:Int)(b:B5):Prop:=mC (λb=>ZB b.2.1) addr b
def pI (H:Hw)(x:Gu)(addr e:Int):Prop:=(e=7/\((∀k∈x.kn,¬Eh addr k.2)\/addr%8≠0))\/(∃k∈x.kn,Eh addr k.2/\addr%8=0/\e=if UC H k.2 then 5 else 0)
set_option maxRecDepth 16000 in
theorem JF (p:GP σ0 U L H held s0 P gb km fm x)(xi:∀e∈x.kn,e.1=e.2.1/\gS e.2)(addr:Int){R:aN}(hR:∀e w,aG U w->pI H x addr e->R e w):Yq.c (aW gb) addr U R:=by
 refine Yq.o ?_;unfold Yq.v;have S:∀b,gS b->0<=ZB b.2.1/\ZB b.2.1<=100000:=λb A=>by have:=A.s;have:=ZS (n:=b.2.1) O;omega
 have box:∀{Z:Nat} {w:Hp} {N G F D E:Int} {K:Addr->Hp->Prop},(∀d,aG w d->bZ d w.size (fP (N,G,F,D,E))->K ⟨w.size,0,none⟩ d) →
  Nw (.cells #[.int .i64 0,.int .i64 0,.int .i64 0,.int .i64 0,.int .i64 0] Z (0,0)) w λm Y=>dZ (m.add 0) (.int .i64 N) Y λv3=>dZ (m.add 1) (.int .i64 G) v3 λv4=>dZ (m.add 2) (.int .i64 F) v4 λX=>dZ (m.add 3) (.int .i64 D) X λv6=>dZ (m.add 4) (.int .i64 E) v6 λv7=>K m v7:=λ{Z w N G F D E K} hK=>
  nw (cs:=fP (0,0,0,0,0)) λY hz2 e2 b2=>b2.s1 (by simp[fP]) λv3 o3 b3=>b3.s1 (by simp[fP]) λv4 o4 b4=>b4.s1 (by simp[fP]) λX o5 b5=>b5.s1 (by simp[fP]) λv6 o6 b6=>b6.s1 (by simp[fP]) λv7 o7 g=>
   hK v7 (Ext.fresh e2 ((((o3.ext.trans o4.ext).trans o5.ext).trans o6.ext).trans o7.ext) λi (hi:i=w.size)=>O) g
 refine U7 p (cD rfl (OW p xi addr S Tt (λb w B hn=>?_) λk w B C j=>?_))
 ·refine box λd M g=>bX.intro (cF rfl (cF rfl (hR 7 d (B.trans M) (.inl ⟨rfl,.inl hn⟩))))
 ·refine box λd M g=>?_;have A:gS k.2:=(xi _ C).2;have h0:0<=addr:=by have:=j.1;have:=A.z;have:=A.base;omega
  have a:=B.trans M;refine Kd (λr u=>u=d/\r=decide (addr%8≠0)) (λr u ⟨hu,hr⟩=>?_) λJ hJ=>cD rfl (nz aB (hJ _ _ ⟨rfl,?_⟩))
  ·rw[hu];by_cases h8:addr%8≠0
   ·exact cF (by rw[hr];exact zI h8) (hR 7 d a (.inl ⟨rfl,.inr h8⟩))
   ·refine cD (by rw[hr];exact zJ h8) (g.rI rfl (g.rI rfl (g.rI rfl (g.rI rfl (g.rI rfl (AN (p.fr a) k.2 λV W=>?_))))));have y:addr%8=0:=by omega
    refine cN (λQ=>hR 5 V (a.trans W) (.inr ⟨k,C,j,y,by rw[Q];rfl⟩)) λQ=>hR 0 V (a.trans W) (.inr ⟨k,C,j,y,by rw[Q];rfl⟩)
  ·rw[Kg h0];by_cases h8:addr%8=0
   ·rw[h8];decide
   ·rw[zI h8];simpa using h8
theorem R3 (p:GP σ0 U L H held s0 P gb km fm x)(xi:∀e∈x.kn,e.1=e.2.1/\gS e.2)(addr:Int)(ha:addr<=9223372036854775807){R:Int->Int->Hp->Prop}(h0:∀e w,e≠0->aG U w->pI H x addr e->R 0 e w)(h1:∀w,aG U w->pI H x addr 0->R (QV H.sp addr) (eO H.sp addr) w):Za.c (aW gb) addr U R:=by
 refine Za.o ?_;unfold Za.v;refine JF p xi addr λe w a j=>cN (λg=>h0 e w (by simpa using g) a j) λd=>?_;have r:e=0:=by simpa using d
 subst r;have i:=p.fr a;exact bL (i.b.rP rfl (Ct i.h addr ha λm e2=>h1 m (a.trans e2) j))
theorem Pw (p:GP σ0 U L H held s0 P gb km fm x)(gc:Gc σ0)(xi:∀e∈x.kn,e.1=e.2.1/\gS e.2)(addr u:Int)(ha:addr<=9223372036854775807){R:aN}(h0:∀e w,e≠0->aG U w->pI H x addr e->R e w)
 (h1:∀w s0' P',pI H x addr 0->Ext P U w->GP σ0 w L {H with sp:=ZD H.sp addr u} held s0' P' gb km fm x->(∀c,P' c->P c\/U.size<=c)->R (eO H.sp addr) w):YA.c (aW gb) addr u U R:=by
 refine YA.o ?_;unfold YA.v;refine JF p xi addr λe w a m=>cN (λd=>h0 e w (by simpa using d) a m) λi=>?_;have y:e=0:=by simpa using i
 subst y;have j:=p.fr a;have A:=a.1;exact bL (j.b.rP rfl (j.write gc addr u ha λr s2 P2 e2 s g=>h1 r s2 P2 m ((aG.to a).trans e2) s λc z=>(g c z).imp id λh=>O))
theorem AX (p:GP σ0 U L H held s0 P gb km fm x){R:Option Addr->Hp->Prop}(hR:R (some ⟨L.p,0,none⟩) U):XE.c (aW gb) U R:=by
 refine XE.o ?_;unfold XE.v;exact U7 p (cD rfl (bL (p.b.rP rfl hR)))
end Go.Ar
namespace Go.Ar
open Go Go.Vc Go.Proofs
open Go.Vc (bU dA cO)
variable {size align:Int}{U σ0 v w w':Hp}{F P Q X T:Rg}{L:dE}{H H' H1:Hw}{held:List Pc}{s0 sp:Sp}{t n:Nat}{g:Th}{gb km fm m:Nat}{x y:Gu}{b:B5}
theorem iI.xX {n m:Nat}{H H1 H2:Hw}{t:Nat}{p:Ph}{a1 e1 a2 e2:Int}(h:iI n H t p H1 a1 e1)(h':iI m H t p H2 a2 e2):H1=H2/\a1=a2/\e1=e2:=by
 induction h generalizing m with
 | done h1 h2=>
  cases h' with
  | done=>exact⟨rfl,rfl,rfl⟩
  | next _ h3 _=>rw[h2]at h3;cases h3
 | next h1 h2 _ ih=>
  cases h' with
  | done _ h3=>rw[h2]at h3;cases h3
  | next _ h3 h4=>rw[h2]at h3;cases h3;exact ih h4
theorem KG.xX {thread kind size align addr a1 e1 a2 e2:Int}{H1 H2:Hw}(h:KG H thread kind size align addr H1 a1 e1)(h':KG H thread kind size align addr H2 a2 e2):H1=H2/\a1=a2/\e1=e2:=by
 rcases h with⟨h1,_,rfl,rfl⟩|⟨t,p,n,h1,h2⟩
 ·rcases h' with⟨g1,_,rfl,rfl⟩|⟨_,_,_,g1,_⟩
  ·rw[h1]at g1;cases g1;exact⟨rfl,rfl,rfl⟩
  ·rw[h1]at g1;cases g1
 ·rcases h' with⟨g1,_⟩|⟨_,_,_,g1,g2⟩
  ·rw[h1]at g1;cases g1
  ·rw[h1]at g1;cases g1;exact h2.xX g2
theorem RC:uC w0 64:=by
 have h:=JY (xs:=rO 8) (p:=64) (a:=1) (t:=1) (b:=1024) (r:=2) (Gw 8 aB aB) aB;rw[xM]at h;exact h
theorem Ξ {a:Option Addr}{thread addr:Int}{R:aN}(h:XQ.c a thread addr true U R):Zb.c a thread addr U R:=Zb.o (by unfold Zb.v;exact h)
theorem UW (H:Hw)(thread:Int):Uz H thread=if 0<=thread/\thread<(H.bR.length:Int)then fF H thread.toNat else none:=by
 unfold Uz fF;split
 ·cases H.bR[thread.toNat]?<;>rfl
 ·rfl
theorem Ns (o:fS H H')(thread:Int):ZA H' thread=ZA H thread:=by
 unfold ZA;rw[UW,UW,o.kp.2.1,o.kp.2.2.1,o.ph]
theorem HY {a b:Sl}{xs ys:List Int}{G:Rg}(ha:cV a 1 (Wu xs) U F)(hb:cV b 1 (Wu ys) U G)(hl:xs.length<=1000000000){R:aO}(hR:R (decide (xs=ys)) U):WY.c a b U R:=by
 refine WY.o ?_;unfold WY.v;have B:a.len=xs.length:=by have:=ha.1;simp[Wu]at this;omega
 have z:b.len=ys.length:=by have:=hb.1;simp[Wu]at this;omega
 rw[B,z,r8];refine cN (λw=>?_) λw=>?_
 ·have d:xs.length≠ys.length:=by simpa using w
  rw[zJ λe=>d (by rw[e])]at hR;exact hR
 have J:xs.length=ys.length:=by simpa using w
 refine Qp (a:=bO) (λ(t:Int) v=>∃i:Nat,t=(i:Int)/\i<=xs.length/\v=U/\xs.take i=ys.take i) (λt _=>xs.length-t.toNat) ⟨0,rfl,O,rfl,rfl⟩ ?_;rintro t v ⟨i,rfl,hi,rfl,g⟩;refine cP (λH=>?_) λD=>?_
 ·have u:i<xs.length:=by omega
  have j:xs[i]?=some xs[i]:=cX u;have p:ys[i]?=some (ys[i]' O):=cX _;generalize xs[i]=x at j;generalize ys[i]' O=y at p;rw[←B,←z];refine ha.lV j (hb.lV p (cN (λd=>?_) λs=>?_))
  ·have C:x≠y:=by simpa using d
   rw[zJ]at hR
   ·exact hR
   ·intro e;rw[e,p]at j;exact C (Option.some.inj j).symm
  ·have r:x=y:=by simpa using s
   refine cT (m:=i+1) O O ⟨⟨i+1,rfl,O,rfl,?_⟩,O⟩;rw[kz,kz,g,j,p,r]
 ·have E:i=xs.length:=by omega
  have:xs=ys:=by
   have A:=g;rw[lh O,lh O]at A;exact A
  rw[zI this]at hR;exact hR
def gm:Hw×Int×Int:=(UQ w0 0 0 56 16 0).getD (w0,0,99)
theorem CO:gm.2=(4096,0):=by decide +kernel
theorem Bq:KG w0 0 0 56 16 0 gm.1 4096 0:=by
 have a:=CO;unfold gm at *;cases hw:UQ w0 0 0 56 16 0 with
 | none=>rw[hw]at a;exact absurd (congrArg Prod.snd a) aB
 | some r=>
  rw[hw]at a;have:=IU hw;have e1:r.2=(4096,0):=a;rw[e1]at this;exact this
def gB:B5:=(4112,24,4096,64,1)
theorem CM:Kt gm.1 4096=some 64:=by decide +kernel
def gX:Gu:=pv.dX gB
def vZ:Hw:={gm.1 with sp:=jT gm.1.sp gB}
attribute [local irreducible] w0 gm vZ
end Go.Ar
namespace Go.Ar
open Go.Vc (bU dA cO)
variable {size align thread addr:Int}{H H' H1:Hw}{held held1:List Pc}{s0 s1 sp:Sp}{x y:Gu}{b:B5}
theorem EZ {α:Type}{l:List (Int×α)}{n:Int}(h:bU l n=none)(v:α):dA l n v=l++[(n,v)]:=by
 unfold dA;rw[zB];intro hx;obtain⟨y,a,e⟩:=zy.1 hx;unfold bU at h;rw[tx,og]at h;exact h y a e
theorem HT {α:Type}{l:List (Int×α)}{n:Int}:bU l n=none↔∀e∈l,e.1≠n:=by
 unfold bU;rw[tx,og];simp only[zT]
theorem UH {α β:Type}{f:α->β}:∀{l:List α},(l.map f).Nodup->∀{a b:α},a∈l->b∈l->f a=f b->a=b
 | [],_,_,_,h,_,_=>by simp at h
 | z::l,hn,a,b,ha,hb,e=>by
  simp only[zR,zr]at hn;rcases zW.1 ha with h1|h1
  ·rcases zW.1 hb with h2|h2
   ·rw[h1,h2]
   ·exact absurd (zE.2 ⟨b,h2,by rw[←e,h1]⟩) hn.1
  ·rcases zW.1 hb with h2|h2
   ·exact absurd (zE.2 ⟨a,h1,by rw[e,h2]⟩) hn.1
   ·exact UH hn.2 h1 h2 e
theorem CV (h:HI H held s0){e:Int×Bk}(he:e∈H.live){w:Nat}(h1:e.1<=((8*w:Nat):Int))(h2:((8*w:Nat):Int)<e.1+e.2.2.1):gf H.sp.st (w/32)≠0:=by
 obtain⟨_,p,a,_,_,d,b,_⟩:=h.lv e he;have:=h.mapped a (x:=8*w) O O
 rwa [show 8*w/256=w/32 by omega]at this
structure dR (H:Hw) (x:Gu):Prop where
 live:H.live.map (λe=>(e.1,e.2.2.1))=x.kn.map (λe=>(e.2.2.2.1,e.2.2.2.2.1))
 can:∀e∈x.kn,∀z∈Ze e.2,QV H.sp z=jv z
 ph:∀j,fF H j=none
 i:∀e∈x.kn,e.1=e.2.1/\gS e.2
 nd:(x.kn.map (·.1)).Nodup
theorem ED (hi:HI H held s0){e e':Int×Bk}(he:e∈H.live)(he':e'∈H.live){z:Int}(h1:e.1<=z)(h2:z<e.1+e.2.2.1)(h3:e'.1<=z)(h4:z<e'.1+e'.2.2.1):e=e':=by
 obtain⟨_,p,a,_,_,b,j,_⟩:=hi.lv e he;obtain⟨_,q,g,_,_,d,i,_⟩:=hi.lv e' he';have:p=q:=hi.apart a g (x:=z.toNat) O O O O;subst this;exact UH hi.lk he he' (by rw[←b,←d])
theorem dR.of (g:dR H x){e:Int×B5}(he:e∈x.kn):∃l∈H.live,l.1=e.2.2.2.1/\l.2.2.1=e.2.2.2.2.1:=by
 have:(e.2.2.2.1,e.2.2.2.2.1)∈H.live.map (λe=>(e.1,e.2.2.1)):=by rw[g.live];exact zE.2 ⟨e,he,rfl⟩
 obtain⟨l,a,h⟩:=zE.1 this;simp only[Prod.mk.injEq]at h;exact⟨l,a,h.1,h.2⟩
theorem dR.sD (g:dR H x)(hi:HI H held s0):(x.kn.map λe=>e.2.2.2.1).Nodup:=by
 have a:=congrArg (List.map Prod.fst) g.live;rw[lK,lK]at a;have b:(x.kn.map λe=>e.2.2.2.1)=H.live.map (·.1):=a.symm;rw[b];exact hi.lk
theorem dR.apart (g:dR H x)(hi:HI H held s0){e e':Int×B5}(he:e∈x.kn)(he':e'∈x.kn){z:Int}(h1:e.2.2.2.1<=z)(h2:z<e.2.2.2.1+e.2.2.2.2.1)(h3:e'.2.2.2.1<=z)(h4:z<e'.2.2.2.1+e'.2.2.2.2.1):e=e':=by
 obtain⟨l,i,b,m⟩:=g.of he;obtain⟨p,a,d,j⟩:=g.of he';have:=ED hi i a (z:=z) O O O O;subst this;exact UH (g.sD hi) he he' (by rw[←b,←d])
theorem dR.usable (g:dR H x)(hi:HI H held s0){e:Int×B5}(he:e∈x.kn):Kt H e.2.2.2.1=some e.2.2.2.2.1:=by
 obtain⟨l,d,a,b⟩:=g.of he;unfold Kt;rw[←a,Z6 hi.lk (show(l.1,l.2)∈H.live from d)];exact congrArg some b
theorem dR.lost (g:dR H x)(hi:HI H held s0){e:Int×B5}(he:e∈x.kn):UC H e.2=false:=by
 unfold UC;rw[g.usable hi he];simp
theorem dR.map (g:dR H x)(hi:HI H held s0){e:Int×B5}(he:e∈x.kn){w:Nat}(h1:e.2.2.2.1<=((8*w:Nat):Int))(h2:((8*w:Nat):Int)<e.2.2.2.1+e.2.2.2.2.1):gf H.sp.st (w/32)≠0:=by
 obtain⟨l,a,b,d⟩:=g.of he;exact CV hi a O O
theorem gS.word (bi:gS b){z:Int}(h:z∈Ze b\/z∈XO b):(∃w:Nat,z=((8*w:Nat):Int))/\b.2.2.1<=z/\z<b.2.2.1+b.2.2.2.1:=by
 have g:=bi.base;have a:=bi.z;have d:=bi.t;rcases h with h|h
 ·have:=HZ bi h;exact⟨⟨z.toNat/8,O⟩,O,O⟩
 ·have:=Hy bi h;exact⟨⟨z.toNat/8,O⟩,O,O⟩
theorem gS.nw (bi:gS b){z:Int}(h:z∈Ze b):z∉XO b:=λa=>by
 have g:=HZ bi h;have d:=Hy bi a;omega
theorem dR.acc (g:dR H x)(hi:HI H held s0){e:Int×B5}(he:e∈x.kn){z:Int}(h:z∈Ze e.2\/z∈XO e.2):eO H.sp z=0:=by
 obtain⟨⟨w,rfl⟩,b,a⟩:=(g.i e he).2.word h;exact U2.2 (g.map hi he b a)
theorem dR.broken (g:dR H x)(hi:HI H held s0){e:Int×B5}(he:e∈x.kn):QN H.sp e.2=[]:=by
 unfold QN;rw[List.filter_eq_nil_iff];intro z hz;unfold jM;rw[g.acc hi he (.inl hz),g.can e he z hz];simp
theorem dR.cK (g:dR H x)(hi:HI H held s0):JO H x=[]:=by
 unfold JO;rw[List.flatMap_eq_nil_iff];intro e he;unfold JC;rw[g.lost hi he,g.broken hi he];rfl
theorem dR.jq (bi:gS b){z:Int}(h1:b.1<=z)(h2:z<b.1+ZB b.2.1)(h8:z%8=0):z∈XO b:=by
 have:=bi.z;have a:=ZS (n:=b.2.1) (by have:=bi.s;omega);refine zE.2 ⟨((z-b.1)/8).toNat,zg.2 ?_,O⟩;unfold QF;omega
theorem Cn (hi:HI H held s0)(ks:KS H.sp sp){l:Int×Bk}(hl:l∈H.live){w:Nat}(h1:l.1<=((8*w:Nat):Int))(h2:((8*w:Nat):Int)<l.1+l.2.2.1):QV sp ((8*w:Nat):Int)=QV H.sp ((8*w:Nat):Int)/\gf sp.st (w/32)≠0:=by
 have a:=CV hi hl h1 h2;have:=ks.k _ a;rw[Ae,Ae,zC a,zC this.1,this.2 w rfl];exact⟨rfl,this.1⟩
def Kept (H:Hw)(x:Gu)(H':Hw)(x':Gu)(e:Int×B5):Prop:=e∈x'.kn/\∀z∈XO e.2,QV H'.sp z=QV H.sp z
theorem Pq (bi:gS b):∀z∈Ze b,0<=z/\z%8=0:=λz a=>by
 have:=HZ bi a;have:=bi.base;omega
theorem DU (bi:gS b):∀z∈XO b,0<=z/\z%8=0:=λz a=>by
 have:=Hy bi a;have:=bi.base;have:=bi.z;omega
theorem dR.dX (g:dR H x)(hi:HI H held s0)(gr:wb H x size align b H1)(o:fS H H1)(hi1:HI H1 held1 s1) :
 dR {H1 with sp:=jT H1.sp b} (x.dX b)/\(x.dX b).kn=x.kn++[(b.1,b)]/\(∀e∈x.kn,Kept H x {H1 with sp:=jT H1.sp b} (x.dX b) e)/\(∀z∈XO b,QV (jT H1.sp b) z=0)/\eO (jT H1.sp b) b.1=0:=by
 have bi:=gr.bi;obtain⟨C,cl,y,_⟩:bU H.live b.2.2.1=none/\∃cl,H1.live=dA H.live b.2.2.1 (b.2.2.1,(oL H.tb (zA align+ZB size+16) (zA align)).1,cl,Yd H1.bY b.2.2.1)/\True:=by
  rcases gr.me with⟨h,_⟩|⟨_,F,_,cl,E,_⟩
  ·exact absurd rfl h
  ·exact⟨F,cl,E,trivial⟩
 have U:=gr.u;unfold Kt at U;rw[y,DZ]at U;have L:(oL H.tb (zA align+ZB size+16) (zA align)).1=b.2.2.2.1:=Option.some.inj U;rw[L]at y;rw[EZ C]at y;have P:∃l∈H1.live,l.1=b.2.2.1/\l.2.2.1=b.2.2.2.1:=⟨(b.2.2.1,(b.2.2.1,b.2.2.2.1,cl,Yd H1.bY b.2.2.1)),by rw[y];simp,rfl,rfl⟩;obtain⟨ln,S,W,aa⟩:=P;have M:∀l∈H.live,l∈H1.live:=λl K=>by rw[y];exact kL _ K
 have J:∀e∈x.kn,∀z,e.2.2.2.1<=z->z<e.2.2.2.1+e.2.2.2.2.1->b.2.2.1<=z->z<b.2.2.1+b.2.2.2.1->False:=λe d z F E h3 h4=>by
  obtain⟨l,K,a1,a2⟩:=g.of d;have:=ED hi1 (M l K) S (z:=z) O O O O;subst this;have:=HT.1 C l K;exact this W
 have hb1:=bi.base;have hb2:=bi.z;have hb3:=bi.t;have Z:=ZS (n:=b.2.1) (by have:=bi.s;omega);have N:bU x.kn b.1=none:=HT.2 λe d h=>by
  have r:=(g.i e d);have q0:=r.1;have q4:=r.2.s;have ab:=bi.s;have q1:=r.2.base;have q2:=r.2.z;have q3:=r.2.t;have qw:=ZS (n:=e.2.2.1) (by have:=r.2.s;omega);exact J e d b.1 O O O O
 have A:(x.dX b).kn=x.kn++[(b.1,b)]:=EZ N b;have p:∀z,(z∈Ze b\/z∈XO b)->∃w:Nat,z=((8*w:Nat):Int)/\gf H1.sp.st (w/32)≠0:=λz m=>by
  obtain⟨⟨w,rfl⟩,F,E⟩:=bi.word m;exact⟨w,rfl,CV hi1 S O O⟩
 have G:=Pq bi;have D:=DU bi;obtain⟨_,Y,_⟩:=Ak jv (Ze b) H1.sp G;have Q:∀w:Nat,((8*w:Nat):Int)∉Ze b->((8*w:Nat):Int)∉XO b->QV (jT H1.sp b) ((8*w:Nat):Int)=QV H1.sp ((8*w:Nat):Int):=λw F E=>by
  unfold jT;rw[KN D,zB λh=>E h.1,KN G,zB λh=>F h.1]
 have B:∀e∈x.kn,∀z,(z∈Ze e.2\/z∈XO e.2)->QV (jT H1.sp b) z=QV H.sp z:=λe d z m=>by
  obtain⟨l,K,a1,a2⟩:=g.of d;obtain⟨⟨w,rfl⟩,F,E⟩:=(g.i e d).2.word m;have:=Cn (H:=H) hi o.ks K (w:=w) O O;rw[Q w (λm=>by have:=bi.word (.inl m);exact J e d _ F E this.2.1 this.2.2) (λm=>by have:=bi.word (.inr m);exact J e d _ F E this.2.1 this.2.2)];exact this.1
 refine⟨⟨?_,λe d z m=>?_,λj=>(o.ph j).trans (g.ph j),λe d=>?_,?_⟩,A,λe d=>⟨by rw[A];exact kL _ d,λz m=>B e d z (.inr m)⟩,λz m=>?_,?_⟩
 ·show H1.live.map _=_;rw[y,A,zm,zm,g.live];rfl
 ·show QV (jT H1.sp b) z=jv z;rw[A]at d;rcases zM.1 d with d|d
  ·rw[B e d z (.inl m)];exact g.can e d z m
  ·rw[zN]at d;subst d;obtain⟨w,rfl,R⟩:=p z (.inl m);unfold jT;rw[KN D,zB λh=>bi.nw m h.1,KN G,zC ⟨m,R⟩]
 ·rw[A]at d;rcases zM.1 d with d|d
  ·exact g.i e d
  ·rw[zN]at d;subst d;exact⟨rfl,bi⟩
 ·rw[A,zm,nr];refine⟨g.nd,by simp,λa ha c X=>?_⟩;simp only[zR,qh,zN]at X;subst X;obtain⟨e,d,rfl⟩:=zE.1 ha;exact HT.1 N e d
 ·obtain⟨w,rfl,R⟩:=p z (.inr m);unfold jT;rw[KN D,zC ⟨m,λh=>R ((Y _).1 h)⟩]
 ·have V:b.1∈XO b:=dR.jq bi (wY _) (by have:=bi.s;omega) bi.z.2.2;obtain⟨w,hw,R⟩:=p b.1 (.inr V);obtain⟨_,k2,_⟩:=Ak (λ_=>0) (XO b) (iL H1.sp (Ze b) jv) D;rw[hw];unfold jT;exact U2.2 λh=>R ((Y _).1 ((k2 _).1 h))
theorem dR.same (g:dR H x)(hi:HI H held s0)(o:fS H H')(hl:H'.live=H.live):dR H' x/\∀e∈x.kn,Kept H x H' x e:=by
 have a:∀e∈x.kn,∀z,(z∈Ze e.2\/z∈XO e.2)->QV H'.sp z=QV H.sp z:=λe b z d=>by
  obtain⟨l,hl,p,m⟩:=g.of b;obtain⟨⟨w,rfl⟩,r,s⟩:=(g.i e b).2.word d;exact(Cn (H:=H) hi o.ks hl (w:=w) O O).1
 exact⟨⟨by rw[hl];exact g.live,λe b z d=>by rw[a e b z (.inl d)];exact g.can e b z d,λj=>(o.ph j).trans (g.ph j),g.i,g.nd⟩,λe b=>⟨b,λz d=>a e b z (.inr d)⟩⟩
theorem dR.write (g:dR H x)(hi:HI H held s0){k:Int×B5}(hk:k∈x.kn){z v:Int}(hz:z∈XO k.2):dR {H with sp:=ZD H.sp z v} x/\(∀e∈x.kn,e≠k->Kept H x {H with sp:=ZD H.sp z v} x e)/\(∀u∈XO k.2,QV (ZD H.sp z v) u=if u=z then v else QV H.sp u):=by
 obtain⟨⟨a,rfl⟩,B,C⟩:=(g.i k hk).2.word (.inr hz);have p:=g.map hi hk B C;have m:∀w:Nat,QV (ZD H.sp ((8*a:Nat):Int) v) ((8*w:Nat):Int)=if w=a/\gf H.sp.st (w/32)≠0 then v else QV H.sp ((8*w:Nat):Int):=λw=>by
  have:=KN (f:=λ_=>v) (l:=[((8*a:Nat):Int)]) (sp:=H.sp) (λz hz=>by rw[zN]at hz;subst hz;omega) w;have e:iL H.sp [((8*a:Nat):Int)] (λ_=>v)=ZD H.sp ((8*a:Nat):Int) v:=rfl;rw[e]at this;rw[this];by_cases hw:w=a
  ·subst hw;by_cases hm:gf H.sp.st (w/32)≠0
   ·rw[zC ⟨zN.2 rfl,hm⟩,zC ⟨rfl,hm⟩]
   ·rw[zB λh=>hm h.2,zB λh=>hm h.2]
  ·rw[zB λh=>hw (by have:=zN.1 h.1;omega),zB λh=>hw h.1]
 have j:∀e∈x.kn,∀u,(u∈Ze e.2\/u∈XO e.2)->(e=k->u∈Ze e.2)->QV (ZD H.sp ((8*a:Nat):Int) v) u=QV H.sp u:=λe d u b s=>by
  obtain⟨⟨w,rfl⟩,A,y⟩:=(g.i e d).2.word b;rw[m,zB];rintro⟨rfl,_⟩;have:=g.apart hi d hk A y B C;subst this;exact(g.i e d).2.nw (s rfl) hz
 refine⟨⟨g.live,λe d u b=>?_,g.ph,g.i,g.nd⟩,λe d r=>⟨d,λu b=>j e d u (.inr b) λh=>absurd h r⟩,λu b=>?_⟩
 ·show QV (ZD H.sp ((8*a:Nat):Int) v) u=jv u;rw[j e d u (.inl b) λ_=>b];exact g.can e d u b
 ·obtain⟨⟨w,rfl⟩,A,y⟩:=(g.i k hk).2.word (.inr b);rw[m];by_cases hw:w=a
  ·subst hw;rw[zC ⟨rfl,p⟩,zC rfl]
  ·rw[zB λh=>hw h.1,zB λh=>hw O]
theorem dR.free (g:dR H x)(hi:HI H held s0){b:B5}(hk:bU x.kn addr=some b){e:Int}(hw:KG (dP H b) thread 1 0 0 b.2.2.1 H1 0 e)(o:fS (dP H b) H1)(fe:nQ (dP H b) thread b.2.2.1 H1 e)(hrd:ZA H thread=0)(hcf:H.cf.threads=H.bR.length) :
 dR H1 (x.gone addr)/\∀k∈x.kn,k.1≠addr->Kept H x H1 (x.gone addr) k:=by
 have a:(addr,b)∈x.kn:=Z8 hk;have B:=g.i _ a;have Q:addr=b.1:=B.1;have K:gS b:=B.2;obtain⟨l,U,L,R⟩:=g.of a;simp only at L R;have F:(dP H b).live=H.live:=rfl;have J:bU H.live b.2.2.1=some l.2:=by rw[←L];exact Z6 hi.lk (show(l.1,l.2)∈H.live from U)
 have p:H1.live=cO H.live b.2.2.1:=by
  rcases fe with⟨_,_,h⟩|⟨_,h,_⟩|⟨_,_,_,_,h⟩
  ·exfalso;unfold ZA at hrd;rw[UW]at hrd;split at hrd
   ·cases hrd
   ·rename_i hth;have s:=g.ph thread.toNat;unfold KY at h;have D:thread.toNat<H.bR.length:=by omega
    rw[zC (show 0<=thread/\thread<((dP H b).bR.length:Int)from⟨O,by show thread<(H.bR.length:Int);omega⟩)]at h;have P:(dP H b).bR[thread.toNat]?=some H.bR[thread.toNat]:=cX D;rw[P]at h;simp only at h;unfold fF at s;rw[cX D]at s;rw[zC (show H.bR[thread.toNat].ph=none from s)]at h;unfold iT at h;rw[zB aB,zC rfl]at h;cases h
  ·rw[F,J]at h;cases h
  ·exact h
 have E:=DU K;have r:∃s1,HI (dP H b) held s1:=HI.iL _ _ hi;obtain⟨s1,r⟩:=r;have d:∀k∈x.kn,k.1≠addr->∀z,(z∈Ze k.2\/z∈XO k.2)->QV H1.sp z=QV H.sp z:=λk hk m z A=>by
  obtain⟨S,G,V,W⟩:=g.of hk;obtain⟨⟨w,rfl⟩,N,M⟩:=(g.i k hk).2.word A;rw[(Cn r o.ks (l:=S) G (w:=w) O O).1];show QV (iL H.sp (XO b) λ_=>Ga) _=_;rw[KN E,zB];rintro⟨hw,_⟩;have C:=K.word (.inr hw);have:=g.apart hi hk a N M C.2.1 C.2.2;subst this;exact m rfl
 have u:∀k,k∈(x.gone addr).kn↔k∈x.kn/\k.1≠addr:=λk=>by
  show k∈cO x.kn addr↔_;unfold cO;rw[zL];simp
 refine⟨⟨?_,λk hk z A=>?_,λj=>(o.ph j).trans (g.ph j),λk hk=>g.i k ((u k).1 hk).1,?_⟩,λk hk m=>⟨(u k).2 ⟨hk,m⟩,λz A=>d k hk m z (.inr A)⟩⟩
 ·rw[p];show(cO H.live b.2.2.1).map _=(cO x.kn addr).map _;unfold cO;have e1:(H.live.filter λy=>!(y.1==b.2.2.1)).map (λe=>(e.1,e.2.2.1))=(H.live.map λe=>(e.1,e.2.2.1)).filter λq=>!(q.1==b.2.2.1):=by rw[wZ];rfl
  rw[e1,g.live,wZ]
  congr 1
  apply vX;intro k hk;simp only[Function.comp]
  congr 1
  rw[kA,zT,zT];constructor
  ·intro h;have:=UH (g.sD hi) hk a h;rw[this]
  ·intro h;have:=UH g.nd hk a h;rw[this]
 ·have:=(u k).1 hk;rw[d k this.1 this.2 z (.inl A)];exact g.can k this.1 z A
 ·show((cO x.kn addr).map _).Nodup;exact g.nd.sublist (List.filter_sublist.map _)
end Go.Ar
namespace Go.Ar
open Go Go.Vc Go.Proofs
open Go.Vc (bU dA cO)
variable {size align:Int}{U σ0 v w w':Hp}{F P Q X T:Rg}{L:dE}{H H' H1:Hw}{held:List Pc}{s0 sp:Sp}{t n:Nat}{g:Th}{gb km fm m xb:Nat}{x y:Gu}{b:B5}
def D0 (gb:Nat)(addrs ls:Sl):List Value:=[.pointer (some ⟨gb,0,none⟩),.slice addrs.a addrs.len addrs.cap,.slice ls.a ls.len ls.cap]
structure nZ (σ0 U:Hp) (xb:Nat) (L:dE) (H:Hw) (held:List Pc) (s0:Sp) (P:Rg) (gb km fm:Nat) (x:Gu) (Qa Ql:Rg) (addrs:Sl) (ad:List Int) (ls:Sl) (la:List T3):Prop where
 p:GP σ0 U L H held s0 P gb km fm x
 b:bZ U xb (D0 gb addrs ls)
 ra:bS addrs 1 (Wu ad) U Qa
 rl:bS ls 3 (lM la) U Ql
 qI:σ0.size<=xb/\¬Mg P gb km fm xb/\¬Qa xb/\¬Ql xb
 qa:∀b,Qa b->σ0.size<=b/\b<U.size/\¬Mg P gb km fm b
 ql:∀b,Ql b->σ0.size<=b/\b<U.size/\¬Mg P gb km fm b
 qq:∀b,Qa b->¬Ql b
variable {Qa Ql:Rg}{addrs ls:Sl}{ad:List Int}{la:List T3}
theorem nZ.fr (o:nZ σ0 U xb L H held s0 P gb km fm x Qa Ql addrs ad ls la)(e:aG U w):nZ σ0 w xb L H held s0 P gb km fm x Qa Ql addrs ad ls la:=
 ⟨o.p.fr e,e.bV o.b id,aI.bP o.ra e,aI.bP o.rl e,o.qI,λb a=>by have h:=o.qa b a;have:=e.1;exact⟨h.1,O,h.2.2⟩,λb a=>by have h:=o.ql b a;have:=e.1;exact⟨h.1,O,h.2.2⟩,o.qq⟩
theorem FH {P':Rg}(hg:gb<n/\km<n/\fm<n)(hP:∀b,P' b->P b\/n<=b):∀b,Mg P' gb km fm b->Mg P gb km fm b\/n<=b:=by
 rintro b (h|h)
 ·exact(hP b h).imp .inl id
 ·exact .inl (.inr h)
theorem nZ.fD (o:nZ σ0 U xb L H held s0 P gb km fm x Qa Ql addrs ad ls la){L':dE}{held':List Pc}{s0':Sp}{P':Rg}(e:Ext (Mg P gb km fm) U w)(p':GP σ0 w L' H' held' s0' P' gb km fm y)(hP:∀b,P' b->P b\/U.size<=b) :
 nZ σ0 w xb L' H' held' s0' P' gb km fm y Qa Ql addrs ad ls la:=by
 have C:=e.1;have g:=o.b.lt;obtain⟨B,r,A,s⟩:=o.qI;have i:∀b,b<U.size->¬Mg P gb km fm b->¬Mg P' gb km fm b:=λb D z u=>by
  rcases FH ⟨o.p.b.lt,o.p.m.lt,o.p.f.lt⟩ hP b u with h4|h4
  ·exact z h4
  ·omega
 exact⟨p',e.bV o.b r,aI.bT o.ra e λb _ d j=>(o.qa b d).2.2 j,aI.bT o.rl e λb _ d j=>(o.ql b d).2.2 j,⟨B,i _ g r,A,s⟩,λb a=>by have h:=o.qa b a;exact⟨h.1,O,i b h.2.1 h.2.2⟩,λb a=>by have h:=o.ql b a;exact⟨h.1,O,i b h.2.1 h.2.2⟩,o.qq⟩
theorem Vz {c:Nat}(h:¬Mg P gb km fm c):¬P c/\c≠gb/\c≠km/\c≠fm:=⟨λa=>h (.inl a),λe=>h (.inr (.inl e)),λe=>h (.inr (.inr (.inl e))),λe=>h (.inr (.inr (.inr e)))⟩
theorem uA (p:GP σ0 U L H held s0 P gb km fm x){c:Nat}(h:Mg P gb km fm c):c<U.size:=by
 rcases h with h|rfl|rfl|rfl
 ·exact(p.pP c h).2
 ·exact p.b.lt
 ·exact p.m.lt
 ·exact p.f.lt
theorem nZ.cE (o:nZ σ0 U xb L H held s0 P gb km fm x Qa Ql addrs ad ls la){s':Sl}{ad':List Int}(e:Ext Qa U w)(hr:bS s' 1 (Wu ad') w λb=>Qa b\/U.size<=b/\b<w.size){K:aP}
 (hK:∀u,Ext (· = xb) w u->nZ σ0 u xb L H held s0 P gb km fm x (λb=>Qa b\/U.size<=b/\b<w.size) Ql s' ad' ls la->K u):dZ (Addr.add ⟨xb,0,none⟩ 1) (.slice s'.a s'.len s'.cap) w K:=by
 have J:=e.1;have G:=o.b.lt;obtain⟨A,B,s,z⟩:=o.qI;have F:=o.p.out e λb _ d=>by have h:=o.qa b d;have i:=Vz h.2.2;exact⟨i.1,i.2.1,i.2.2.1,i.2.2.2,h.1⟩
 have r:=aI.bT o.rl e λb _ m D=>o.qq b D m;refine(e.bV o.b s).s1 (by simp[D0]) λu y b=>?_;have j:=y.ext;have E:=y.1;have i:=Vz B;refine hK u j ⟨F.out j λb _ (d:b=xb)=>by subst d;exact⟨i.1,i.2.1,i.2.2.1,i.2.2.2,A⟩,b,aI.bT hr j λb _ g (d:b=xb)=>?_,aI.bT r j λb _ g (d:b=xb)=>z (d▸g),⟨A,B,?_,z⟩,λb d=>?_,λb d=>by have h:=o.ql b d;exact⟨h.1,O,h.2.2⟩,λb d m=>?_⟩
 ·subst d;rcases g with g|g
  ·exact s g
  ·omega
 ·rintro(g|g)
  ·exact s g
  ·omega
 ·rcases d with d|d
  ·have h:=o.qa b d;exact⟨h.1,O,h.2.2⟩
  ·have:=o.p.e.1;exact⟨O,O,λC=>by have:=uA o.p C;omega⟩
 ·rcases d with d|d
  ·exact o.qq b d m
  ·have:=(o.ql b m).2.1;omega
theorem nZ.il (o:nZ σ0 U xb L H held s0 P gb km fm x Qa Ql addrs ad ls la){s':Sl}{la':List T3}{Ql':Rg}(e:Ext Ql U w)(hr:bS s' 3 (lM la') w Ql')(hQ:∀b,Ql' b->Ql b\/U.size<=b/\b<w.size){K:aP}
 (hK:∀u,Ext (· = xb) w u->nZ σ0 u xb L H held s0 P gb km fm x Qa Ql' addrs ad s' la'->K u):dZ (Addr.add ⟨xb,0,none⟩ 2) (.slice s'.a s'.len s'.cap) w K:=by
 have M:=e.1;have J:=o.b.lt;obtain⟨z,B,C,y⟩:=o.qI;have G:=o.p.out e λb _ d=>by have h:=o.ql b d;have g:=Vz h.2.2;exact⟨g.1,g.2.1,g.2.2.1,g.2.2.2,h.1⟩
 have m:=aI.bT o.ra e λb _ E i=>o.qq b E i;refine(e.bV o.b y).s1 (by simp[D0]) λu s b=>?_;have j:=s.ext;have F:=s.1;have g:=Vz B;have A:¬Ql' xb:=λh=>by
  rcases hQ xb h with h|h
  ·exact y h
  ·omega
 refine hK u j ⟨G.out j λb _ (d:b=xb)=>by subst d;exact⟨g.1,g.2.1,g.2.2.1,g.2.2.2,z⟩,b,aI.bT m j λb _ r (d:b=xb)=>C (d▸r),aI.bT hr j λb _ r (d:b=xb)=>A (d▸r),⟨z,B,C,A⟩,λb d=>by have h:=o.qa b d;exact⟨h.1,O,h.2.2⟩,λb d=>?_,λb d i=>?_⟩
 ·rcases hQ b d with d|d
  ·have h:=o.ql b d;exact⟨h.1,O,h.2.2⟩
  ·have:=o.p.e.1;exact⟨O,O,λD=>by have:=uA o.p D;omega⟩
 ·rcases hQ b i with i|i
  ·exact o.qq b d i
  ·have:=(o.qa b d).2.1;omega
inductive nN (H:Hw) (x:Gu) (d:fo) (a:Int):Hw->Gu->Int->Option Int->Bool->Prop where
 | same (e:Int):(e=0->d.kd≠20/\d.kd≠21/\d.kd≠22)->nN H x d a H x e none false
 | full {H':Hw} {e:Int}:d.kd=20->mw d.a d.b=true->e≠0->KG H d.th 0 (zA d.b+ZB d.a+16) (zA d.b) 0 H' 0 e->fS H H'->H'.live=H.live->nN H x d a H' x e none false
 | dX {b:B5} {H1:Hw}:d.kd=20->wb H x d.a d.b b H1->KG H d.th 0 (zA d.b+ZB d.a+16) (zA d.b) 0 H1 b.2.2.1 0->fS H H1->nN H x d a {H1 with sp:=jT H1.sp b} (x.dX b) 0 (some b.1) false
 | kV {b:B5} {H1:Hw} {e:Int}:(d.kd=21\/d.kd=22)->bU x.kn a=some b->lQ H x d.th a true=0->KG (dP H b) d.th 1 0 0 b.2.2.1 H1 0 e->fS (dP H b) H1->nQ (dP H b) d.th b.2.2.1 H1 e->nN H x d a H1 (x.gone a) 0 none true
 | wrote:d.kd=26->pI H x a 0->nN H x d a {H with sp:=ZD H.sp a d.va} x (eO H.sp a) none false
def OC (d:fo)(add:Option Int)(del:Bool)(a:Int)(la:List T3):List T3:=match add with
 | some b=>la++[(b,d.a,d.b)]
 | none=>if del then la.filter λq=>!(q.1==a)else la
end Go.Ar
namespace Go.Ar
open Go Go.Vc Go.Proofs
open Go.Vc (bU dA cO)
open Go.Bu (fB VG Hk)
variable {size align a:Int}{U σ0 v w w':Hp}{F P Q X T:Rg}{L:dE}{H H' H1:Hw}{held held' held1:List Pc}{s0 s0' s1 sp:Sp}{t n:Nat}{gb km fm m xb:Nat}{x x' y:Gu}{b:B5}{ad:List Int}{la:List T3}{d:fo}{add:Option Int}{del:Bool}{e:Int}{l:Sl}{ds:List fo}
theorem F3 {s c al:Int}{i:Int}(h1:256%al=0)(h2:c%al=0):(s*256+i*c)%al=0:=by
 obtain⟨q1,e1⟩:=Aa h1;obtain⟨q2,e2⟩:=Aa h2;refine Int.emod_eq_zero_of_dvd ⟨s*q1+i*q2,?_⟩;rw[e1,e2,Int.mul_add,Int.mul_left_comm s,Int.mul_left_comm i]
theorem S8 (hi1:HI H1 held1 s1)(hp:HI H held s0)(ht:H1.tb=H.tb){al base:Int}(h256:256%al=0)(me:rU H size al H1 base 0):base%al=0:=by
 rcases me with⟨h,_⟩|⟨_,hm,_,cl,hl,hcl⟩
 ·exact absurd rfl h
 have u:(base,((base,(oL H.tb size al).1,cl,Yd H1.bY base):Bk))∈H1.live:=by rw[hl];exact Z8 (DZ _)
 obtain⟨_,p,x,_,E,w,_,_⟩:=hi1.lv _ u;obtain⟨A,D,hd⟩:=hi1.wi.hf p x;simp only at E w;rcases hd with⟨q1,_,r,_,q2,_⟩|⟨j,c,q1,q2,_,q3,_⟩
 ·rw[←w,q2];have:((r.1*256:Nat):Int)=(r.1:Int)*256+0*0:=by omega
  rw[this];exact F3 h256 aA
 ·rcases hcl with⟨k,rfl,hk⟩|⟨rfl,_⟩
  ·have B:j=k:=by omega
   subst B;obtain⟨G,d,_,g⟩:=Lt hk;have b:A.tb=H1.tb:=hi1.wi.tb _ A D;rw[b,ht,d]at q2;cases q2;obtain⟨y,J,a,z⟩:=q3;have m:=(hi1.wi.ga _ A D).cG _ _ _ a;have C:y=c:=by
    have:=a.1;rw[b,ht,d]at this;exact(Option.some.inj this).symm
   subst C;obtain⟨_,s,i,_,_,F,_⟩:=(V9 m).1 z;rw[←w,F];have:((at_ y s i:Nat):Int)=(s.st:Int)*256+(i:Int)*(y.size:Int):=by unfold at_;simp
   rw[this];exact F3 h256 g
  ·omega
theorem TA {al:Int}(h1:1<=al)(h2:al<=256)(hp:fB al=true):256%al=0/\(al<16->16%al=0):=by
 obtain⟨al,rfl⟩:=zc (show 0<=al by omega);rw[VG]at hp;have key:∀a:Nat,a<=256->1<=a->(a &&& (a-1)=0)->256%a=0/\(a<16->16%a=0):=by decide +kernel
 have:=key al O O (by have:=Hk (a:=al) O O;rw[hp]at this;simpa using this);exact⟨by rw[show(256:Int)=((256:Nat):Int)from rfl,←Int.natCast_emod,this.1];rfl,λh=>by rw[show(16:Int)=((16:Nat):Int)from rfl,←Int.natCast_emod,this.2 O];rfl⟩
theorem SO {al:Int}(h1:1<=al)(h2:al<=256)(hp:fB al=true):256%zA al=0/\zA al%al=0:=by
 have:=TA h1 h2 hp;unfold zA;split
 ·exact⟨by decide,this.2 O⟩
 ·exact⟨this.1,by simp⟩
structure AL (H:Hw) (x:Gu) (ad:List Int) (la:List T3):Prop where
 g:dR H x
 n0:0<=x.no
 nl:(x.kn.length:Int)<=x.no/\(ad.length:Int)<=x.no
 lq:la.map (λa=>(a.1,a.2.1,zA a.2.2))=x.kn.map (λe=>(e.1,e.2.2.1,e.1-e.2.2.2.1))
 ok:∀a∈la,mw a.2.1 a.2.2=true/\a.1%a.2.2=0
 dq:∀a∈ad,(bU x.kn a).isSome=true\/bU x.fr a=some true
 th:1<=H.cf.threads
theorem AL.out (al:AL H x ad la)(hi:HI H held s0)(cf:iS H)(o:nN H x d a H' x' e add del):AL H' x' (ad++add.toList) (OC d add del a la)/\x'.no<=x.no+1/\∀k∈x.kn,¬(k.1<=a/\a<k.1+ZB k.2.2.1)->Kept H x H' x' k:=by
 have g:=al.g;have E:ad++(none:Option Int).toList=ad:=by simp
 cases o with
 | same e S=>rw[E];exact⟨al,O,λk j _=>⟨j,λ_ _=>rfl⟩⟩
 | full j A r F op hl=>
  rw[E];obtain⟨w,D⟩:=g.same hi op hl;exact⟨⟨w,al.n0,al.nl,al.lq,al.ok,al.dq,by rw[op.kp.2.1];exact al.th⟩,O,λk j _=>D k j⟩
 | dX j gr F op=>
  rename_i b H1;obtain⟨G,s1,B⟩:=op.hi;obtain⟨w,R,W,_,_⟩:=g.dX hi gr op B;have y:=gr.ok;unfold mw at y;rw[zF,zV]at y;obtain⟨⟨_,_,k3,k4⟩,kp⟩:=y;obtain⟨L,M⟩:=SO k3 k4 kp;have Q:=S8 B hi op.kp.1 L gr.me;have C:(x.dX b).no=x.no+1:=rfl;have P:(x.dX b).fr=x.fr:=rfl;refine⟨⟨w,by have:=al.n0;omega,⟨?_,?_⟩,?_,λq u=>?_,λz p=>?_,by show 1<=H1.cf.threads;rw[op.kp.2.1];exact al.th⟩,O,λk j _=>W k j⟩
  ·rw[R,C,zK];have:=al.nl.1;simp;omega
  ·rw[C,zK];have:=al.nl.2;simp;omega
  ·show(la++[(b.1,d.a,d.b)]).map _=_;rw[R,zm,zm,al.lq]
   congr 1
   simp only[zR,qh,gr.s];have:=gr.a
   congr 3
   omega
  ·rcases zM.1 (show q∈la++[(b.1,d.a,d.b)]from u)with u|u
   ·exact al.ok q u
   ·rw[zN]at u;subst u;refine⟨gr.ok,?_⟩;show b.1%d.b=0;obtain⟨q1,e1⟩:=Aa Q;obtain⟨q2,e2⟩:=Aa M;refine Int.emod_eq_zero_of_dvd ⟨q2*q1+q2,?_⟩;rw[gr.a,e1,Int.mul_add,←Int.mul_assoc,←e2]
  ·have K:(x.dX b).kn=dA x.kn b.1 b:=rfl;rw[K,P,UJ];rcases zM.1 p with p|p
   ·split
    ·exact .inl rfl
    ·exact al.dq z p
   ·simp only[qz,zN]at p;subst p;rw[zC rfl];exact .inl rfl
 | kV j hm hf F op fe=>
  rename_i b e;rw[E];have N:ZA H d.th=0:=by
   by_cases h:ZA H d.th=0
   ·exact h
   ·unfold lQ at hf;rw[zC h]at hf;exact absurd hf h
  obtain⟨w,D⟩:=g.free hi hm F op fe N cf.2.1;have A:(x.gone a).kn=cO x.kn a:=rfl;have J:(x.gone a).fr=dA x.fr a true:=rfl;refine⟨⟨w,al.n0,⟨?_,al.nl.2⟩,?_,λq u=>al.ok q (zL.1 u).1,λz p=>?_,by rw[op.kp.2.1];exact al.th⟩,by show x.no<=_;omega,λk j r=>D k j λh=>r ?_⟩
  ·rw[A];have Y:=pN (λq:Int×B5=>!(q.1==a)) x.kn;have X:=al.nl.1;show((x.kn.filter _).length:Int)<=x.no;omega
  ·show(la.filter λq=>!(q.1==a)).map _=(x.kn.filter λq=>!(q.1==a)).map _;have e1:(la.filter λq=>!(q.1==a)).map (λa=>(a.1,a.2.1,zA a.2.2))=(la.map λa=>(a.1,a.2.1,zA a.2.2)).filter λq=>!(q.1==a):=by rw[wZ];rfl
   have e2:(x.kn.filter λq=>!(q.1==a)).map (λe=>(e.1,e.2.2.1,e.1-e.2.2.2.1))=(x.kn.map λe=>(e.1,e.2.2.1,e.1-e.2.2.2.1)).filter λq=>!(q.1==a):=by rw[wZ];rfl
   rw[e1,e2,al.lq]
  ·rw[A,J,BX,UJ];by_cases h:z=a
   ·rw[zC h,zC h];exact .inr rfl
   ·rw[zB h,zB h];exact al.dq z p
  ·have m:=g.i k j;have Z:=m.2.s;have F:=ZS (n:=k.2.2.1) O;omega
 | wrote j wd=>
  rw[E];rcases wd with⟨h,_⟩|⟨k,j,hin,h8,_⟩
  ·cases h
  ·have m:=g.i k j;obtain⟨U,V⟩:=hin;have p:a∈XO k.2:=dR.jq m.2 U V h8;obtain⟨w,D,_⟩:=g.write hi j p (v:=d.va);refine⟨⟨w,al.n0,al.nl,al.lq,al.ok,al.dq,al.th⟩,O,λe S r=>D e S λh=>r ?_⟩;subst h;exact⟨by rw[m.1];exact U,by rw[m.1];exact V⟩
theorem AL.ready (al:AL H x ad la)(cf:iS H):ZA H 0=0:=by
 have b:=al.th;unfold ZA;rw[zB O,UW];have a:(if 0<=(0:Int)/\(0:Int)<(H.bR.length:Int)then fF H (0:Int).toNat else none)=none:=by
  split
  ·exact al.g.ph _
  ·rfl
 rw[a];rfl
variable {Qa Ql:Rg}{addrs ls:Sl}
end Go.Ar
namespace Go.Ar
open Go Go.Vc Go.Proofs Go.RowKit Go.Maps Go.Sort Go.Shelf
open Go.Vc (bU dA cO)
open Go.Bu (lu HM V6 HQ VI yF)
variable {U σ0 v w w':Hp}{F P Q X T:Rg}{L:dE}{H H' H1:Hw}{held:List Pc}{s0 sp:Sp}{t n:Nat}{gb km fm m:Nat}{x y:Gu}{b:B5}
def GL:Nat:=Tryz.ik.f 10
def BF:Nat:=Tryz.ik.t 23
theorem ζ (m:Option Nat){R:Fv->Hp->Prop}(hR:R ⟨GL,#[],#[.pointer (some ⟨U.size,0,none⟩)]⟩ (U.push (.cells #[.map m] BF (0,0)))) :
 Zz.c m U R:=by
 rintro w rfl;refine(callsIn_wide.1 (AnyZI.keys_in Tryz.lH Fence.wide 5 trivial rfl m w)).mono ?_;rintro e a ⟨rfl,rfl⟩;exact⟨⟨rfl,rfl,rfl,sj (by show _<(w.heap.push _).size;simp)⟩,[.func (.func GL) #[] #[.pointer (some ⟨w.heap.size,0,none⟩)]],rfl,⟨GL,#[],#[.pointer (some ⟨w.heap.size,0,none⟩)]⟩,rfl,hR⟩
theorem PD {w:World}{c m:Nat}{B:List (Int×B5)}(hc:cell w.heap ⟨c,0,none⟩=some (.map (some m)))(hm:dK w.heap m .i64 (.ag 5) B)(hb:∀x∈B,Go.Bu.jx x.1)(hs:B.length<=1000000)(n:Nat)(hn:1<=n) :
 SeqGives Fence.wide n Tryz.prog GL #[.pointer (some ⟨c,0,none⟩)] encZ (λss=>ss.Perm (B.map (·.1))) B.length w:=by
 obtain⟨D,j,d,a⟩:=VI (P:=Tryz.prog) Tryz.lH.t26 hm hb hs;have b:c<w.heap.size:=by
  unfold cell at hc;split at hc
  ·rename_i h;exact(j9.1 h).1
  ·cases hc
 have:=AnyZI.keys_gives (ρ:=Tryz.ik) {Tryz.lH with} Fence.wide n trivial rfl hn c m B.length D w b hc j;intro l J W hW hJ hY h0;rw[a]at this;refine(this l J W hW hJ hY h0).mono ?_;rintro e W' ⟨p,ss,i,g⟩;exact⟨p,ss,i.trans d,g⟩
theorem Wgo {c m:Nat}{B:List (Int×B5)}(hc:cell U ⟨c,0,none⟩=some (.map (some m)))(hm:dK U m .i64 (.ag 5) B)(hb:∀x∈B,Go.Bu.jx x.1)(hs:B.length<=1000000){R:Sl->Hp->Prop}
 (hR:∀(s:Sl) (σ':Hp) (ss:List Int),aG U σ'->ss.Perm (B.map (·.1))->ss.Pairwise (· <= ·)->lu U.size σ' s (ss.map (Value.int .i64))->R s σ') :
 V5.c ⟨GL,#[],#[.pointer (some ⟨c,0,none⟩)]⟩ U R:=by
 rintro w rfl;have i:=PD hc hm hb hs 2 O;have p:B.length<=maxLen:=by unfold maxLen;omega
 have z:=AnyZI.sorted_in Tryz.rQ Fence.wide 5 trivial trivial trivial trivial rfl O (yF _) (Tryz.oI.f5.enters rfl) GL #[.pointer (some ⟨c,0,none⟩)] trivial (Tryz.lH.f10.enters rfl) _ _ p O _ i;refine(callsIn_wide.1 z).mono ?_;rintro e D ⟨v,ss,rfl,u,g,r,d⟩;obtain⟨s,rfl,j⟩:=HM g;refine⟨HQ d,[.slice s.a s.len s.cap],rfl,s,rfl,?_⟩;refine hR s _ (ss.mergeSort λx y=>decide (x<=y)) (V6 d) ((List.mergeSort_perm _ _).trans u) ?_ j;have:=List.pairwise_mergeSort (le:=λx y:Int=>decide (x<=y)) (λa b c C A=>by simp at *;omega) (λa b=>by simp;omega) ss;exact this.imp (λh=>by simpa using h)
structure xu (x:Gu) (es:List (Int×B5)):Prop where
 p:es.Perm x.kn
 s:es.Pairwise λa b=>a.1<b.1
def b4 (e:Int×B5):Bk:=(e.2.1,e.2.2.1,e.2.2.2.1,e.2.2.2.2.1)
theorem Oa (p:GP σ0 U L H held s0 P gb km fm x)(xi:∀e∈x.kn,e.1=e.2.1/\gS e.2)(hl:x.kn.length<=1000000){R:Sl->Hp->Prop}(hR:∀s σ' es,aG U σ'->xu x es->bS s 4 (ju (es.map b4)) σ' (λb=>U.size<=b)->R s σ'):Y8.c (aW gb) U R:=by
 refine Y8.o ?_;unfold Y8.v;have A:∀e∈x.kn,Go.Bu.jx e.1:=λe g=>by
  have h:=xi e g;have D:=h.1;have y:=h.2.z;have h3:=h.2.base;have h4:=h.2.t;have h5:=h.2.m;have h6:=h.2.s;have Z:=ZS (n:=e.2.2.1) O;unfold Go.Bu.jx;omega
 have r:=p.m.nodup;refine U7 p (cD rfl (bL (p.b.rM rfl (ζ _ ?_))));have e1:aG U (U.push (.cells #[.map (some km)] BF (0,0))):=Ext.push _ _ _;have p1:=p.fr e1;refine Wgo (by unfold cell;simp) p1.m A hl λs u d e2 Q E hs=>?_;have S:=e1.trans e2;have J:=cV.tV hs;have C:d.Nodup:=Q.nodup_iff.2 r;have V:d.length=x.kn.length:=by rw[Q.length_eq];simp
 have hsl:s.len=d.length:=by have:=J.1;simp at this;omega
 let f:Int->Int×B5:=λk=>(k,(bU x.kn k).getD (0,0,0,0,0))
 have B:∀e∈x.kn,f e.1=e:=λe g=>by
  show(e.1,(bU x.kn e.1).getD (0,0,0,0,0))=e;rw[Z6 r (show(e.1,e.2)∈x.kn from g)];rfl
 have hz1:U.size<u.size:=by
  have D:=e2.1;have y:(U.push (.cells #[.map (some km)] BF (0,0))).size=U.size+1:=by simp
  omega
 refine UD (a:=.s) (bb:=bO) (λ(out:Sl) (z:Int) w=>∃i:Nat,z=i/\i<=d.length/\aG u w/\bS out 4 (ju (((d.take i).map f).map b4)) w (λb=>u.size<=b)) (λ_ z _=>d.length-z.toNat) ⟨0,rfl,O,Ext.refl _ _,⟨by simp[ju],.inl ⟨rfl,rfl⟩⟩⟩ ?_;rintro(out:Sl) (z:Int) w ⟨i,rfl,hil,ew,hr⟩;have Z:=p1.fr (e2.trans ew);refine cP (λhlt=>?_) λhge=>?_
 ·have hx:d[i]?=some (d[i]' O):=cX _;have hol:out.len=i:=by have:=hr.1;rw[Dr]at this;simp at this;omega
  have G:(d[i]' O)∈x.kn.map (·.1):=Q.mem_iff.1 (kv _);obtain⟨e,g,N⟩:=zE.1 G;have X:f (d[i]' O)=e:=by rw[←N];exact B e g
  refine(aH.bP (aH.cut J) ew).lV hx (bL (Z.b.rM rfl ⟨x.kn,Z.m,?_⟩));have K:bU x.kn (d[i]' O)=some e.2:=by rw[←N];exact Z6 r (show(e.1,e.2)∈x.kn from g)
  rw[K];refine hr.push (F:=λb=>u.size<=b) (vs:=lJ (b4 e)) (λb M=>by have:=ew.1;omega) rfl rfl (by simp[lJ,dU]) O O λs' w' hsl' Y aa=>?_;have e3:aG u w':=Ext.fresh ew Y λb M=>M;refine cT (m:=i+1) O O ⟨⟨i+1,rfl,O,e3,?_⟩,O⟩;have:ju (((d.take (i+1)).map f).map b4)=ju (((d.take i).map f).map b4)++lJ (b4 e):=by
   unfold ju;rw[kz,hx,zm,zm,List.flatMap_append];simp only[qz,zR,qh,pE,List.flatMap_nil,kD,X]
  rw[this];exact aa
 ·have W:i=d.length:=by omega
  subst W;rw[lW]at hr;have j:(d.map f).Perm x.kn:=by
   have D:=Q.map f;rw[lK]at D;have y:x.kn.map (f∘λe=>e.1)=x.kn:=by
    conv=>rhs;rw[←vR x.kn]
    exact kh λe g=>B e g
   rwa [y]at D
  refine hR out w (d.map f) (S.trans ew) ⟨j,?_⟩ (aI.mono hr λb _ M=>by
   show U.size<=b;have M:u.size<=b:=M;omega)
  rw[sv];exact(E.and C).imp λ{a b} ⟨D,y⟩=>by
   have h3:a≠b:=y;show a<b;omega
end Go.Ar
namespace Go.Proofs
open Go.Vc
set_option maxRecDepth 100000
def Wy.h:Hn:=.q .o1 (.q (.q .o3 .aK) (.q .o7 (.q (.q .o6 (.k (.loop [(20,.I)] (.q .o1 (.q (.c .l .l) (.q (.k (.q .o6 .o6)) .o2)))))) .aL)))
def Wy.v (a:R2)(b:Hp)(c:Sl->Hp->Prop):Prop:=Wo.c a b λd e=>If (!d) (c ⟨none,0,0⟩ e) (bF a 3 e λg=>Mk ((g.len:Nat):Int) ((g.len:Nat):Int) 8 3 [.I 0] e λh i=>bF a 3 i λk=>Yb [bO] (λl=>l 0 i) λm (n:Int) o=>If (n<((k.len:Nat):Int)) (Ix k.a k.len n 2 λp=>aQ p 0 o λq=>aQ p 1 o λr=>aV #[.I 0,.I 0] 101 o λs t=>aR s 0 (.I q) t λu=>aR s 1 (.I r) u λv=>aQ s 0 v λw=>Ix h.a h.len n 1 λx=>dZ x (.I w) v λy=>bM (n+1) λz=>m z y) (c h o))
theorem Wy.o {a b c}(d:Wy.v a b c):Wy.c a b c:=Wa Tryz.func16 (x:=Wy.h) (R0 d)
def Wx.h:Hn:=.q .o1 (.q (.q .o3 .aK) (.q .o1 (.q (.q .o6 (.k (.loop [(3,.I),(14,.I)] (.q .o1 (.q (.c .l .l) (.q (.k (.q .o4 .o5)) .o2)))))) .aL)))
def Wx.v (a:R2)(b:Hp)(c:aN):Prop:=Wo.c a b λd e=>If (!d) (c 0 e) (bF a 3 e λg=>Yb [bO,bO] (λh=>h 0 0 e) λi (j:Int) (k:Int) l=>If (k<((g.len:Nat):Int)) (Ix g.a g.len k 2 λm=>aQ m 0 l λn=>aQ m 1 l λo=>aV #[.I 0,.I 0] 101 l λp q=>aR p 0 (.I n) q λr=>aR p 1 (.I o) r λs=>aQ p 1 s λt=>bM (j+t) λu=>bM (k+1) λv=>i u v s) (c j l))
theorem Wx.o {a b c}(d:Wx.v a b c):Wx.c a b c:=Wa Tryz.func18 (x:=Wx.h) (R0 d)
def Wp.h:Hn:=.q .o2 (.q (.q .o3 .aJ) (.q (.o 12) .l))
def Wp.v (a:R2)(b c d:Int)(e:Hp)(f:Int->Int->Hp->Prop):Prop:=Wo.c a e λg h=>If (!g) (f 0 5 h) (bG a 0 h λj=>Ya.c j b c d h λk l m=>f k l m)
theorem Wp.o {a b c d e f}(g:Wp.v a b c d e f):Wp.c a b c d e f:=Wa Tryz.func21 (x:=Wp.h) (R0 g)
def WL.h:Hn:=.q .o1 (.q (.q .o3 .aK) (.q .o7 (.q .o6 .aL)))
def WL.v (a:R2)(b:Hp)(c:Sl->Hp->Prop):Prop:=Wo.c a b λd e=>If (!d) (c ⟨none,0,0⟩ e) (bF a 4 e λg=>Mk ((g.len:Nat):Int) ((g.len:Nat):Int) 16 62 [.I 0,.I 0] e λh i=>bF a 4 i λk=>sZ h 2 k i λl m=>c h m)
theorem WL.o {a b c}(d:WL.v a b c):WL.c a b c:=Wa Tryz.func27 (x:=WL.h) (R0 d)
def WD.h:Hn:=.q .o2 (.q (.q .o4 (.q .o2 (.c (.q .o3 .l) .l))) (.q .o6 (.q (.k (.loop [] (.q (.q .o6 (.c .l .l)) (.k .o3)))) (.q .o3 .l))))
def WD.v (a:R2)(b:Int)(c:Hp)(d:Int->Int->Hp->Prop):Prop:=WJ.c a b c λe f=>If (e != 0) (d 0 e f) (bF a 3 f λh=>Yb [] (λi=>i f) λj k=>bF a 3 k λm=>If (((m.len:Nat):Int)>0) (WC.c a b k λn=>j n) (d ((h.len:Nat):Int) 0 k))
theorem WD.o {a b c d}(e:WD.v a b c d):WD.c a b c d:=Wa Tryz.func30 (x:=WD.h) (R0 e)
def Wj.h:Hn:=.q .o1 (.q (.q .o4 (.q .o2 .aJ)) (.q (.q .o3 .aK) (.q .o9 (.q (.q .o2 (.c (.q .o8 .l) .l)) (.q (.o 11) (.q (.q .o2 .aJ) (.q (.q .o3 .aK) (.q (.q .o4 (.k (.loop [(56,.I)] (.q .o1 (.q (.c .l .l) (.q (.k (.q .o3 .o7)) .o2)))))) (.q (.cU (.held true [13] (.tk [0,1,2,3,4,5,6,7,8] (.all [(9,.all [(10,.take 11 (.take 12 (.all [(13,.done)])))])])))) (.q (.k (.loop [] (.q (.q (.cU (.gI true [] [(99,.one .b)] (.take 0 (.take 1 (.take 2 (.take 3 (.take 4 (.take 5 (.take 6 (.take 7 (.take 8 (.take 9 (.take 10 (.split 91 (.take 11 (.take 12 (.take 13 (.take 14 (.take 15 (.take 16 (.take 17 (.take 18 (.done))))))))) (.take 11 (.take 13 (.take 14 (.take 15 (.take 16 (.all [(12,.take 17 (.take 18 (.done)))])))))))))))))))))))) (.c .l .l)) (.k .o3)))) .aM))))))))))
def Wj.v (a:R2)(b c:Int)(d:Hp)(e:aN):Prop:=WJ.c a b d λf g=>If (f != 0) (e f g) (WR.c a c g λh i=>If h (e 9 i) (WB.c a c i λj k l m n o=>aV #[.I 0,.I 0,.I 0,.I 0] 48 o λp q=>aR p 0 (.I j) q λr=>aR p 1 (.I k) r λs=>aR p 2 (.I l) s λt=>aR p 3 (.I m) t λu=>If (!n) (bG a 0 u λw=>Zb.c w b c u λx y=>e x y) (bG a 0 u λaa=>X3.c aa c u λab ac ad=>If (ac != 0) (e ac ad) (If (((ab.len:Nat):Int)>0) (e 10 ad) (aQ p 0 ad λae=>aQ p 1 ad λaf=>aQ p 2 ad λag=>aQ p 3 ad λah=>XS.c ae af ag ah ad λai aj=>Yb [bO] (λak=>ak 0 aj) λal (am:Int) an=>If (am<((ai.len:Nat):Int)) (Ix ai.a ai.len am 1 λao=>bN ao an λap=>bG a 0 an λar=>XE.c ar an λau av=>Xw.c au ap (-1234567) av λaw ax=>bM (am+1) λay=>al ay ax) (dV an λaz=>bW a λa0=>aT az a0 3 λa1=>aS az p 1 λa2=>aV #[.I c,.I a2] 101 an λa3 a4=>And (az a4) <| App a1 2 16 101 [.I 0,.I 0] ⟨some a3,1,1⟩ a4 λa5 a6=>And (az a6) <| bW a λa7=>aR a7 3 (.slice a5.a a5.len a5.cap) a6 λa8=>Yb [] (λa9=>a9 a8) λba bb=>Jn [.b] (λ(bc:Bool) bd=>If bc (WC.c a b bd λbe=>ba be) (e 0 bd)) λbf=>dV bb λbg=>bW a λbh=>aT bg bh 3 λbi=>bW a λbj=>aS bg bj 1 λbk=>If (((bi.len:Nat):Int)>bk) (bf true bb) (bW a λbl=>
 aS bg bl 2 λbm=>Wx.c a bb λbn bo=>And (bg bo) <| bf (decide (bn>bm)) bo)))))))
theorem Wj.o {a b c d e}(f:Wj.v a b c d e):Wj.c a b c d e:=Wa Tryz.func34 (x:=Wj.h) (R0 f)
def Zq.h:Hn:=.q .o2 (.q (.q (.cU (.seq [.op,.op,.op,.op,.cW false 2 [.op,.op],.op,.cW false 2 [.op,.op],.op,.cW false 2 [.op,.op],.op,.cW false 2 [.op,.op]])) .aJ) (.q .o7 .l))
def Zq.v (a:R2)(b c:Int)(d:Hp)(e:Option Addr->Int->Hp->Prop):Prop:=XE.c a d λf g=>bX (λh i=>bX (λj k=>bX (λl m=>bX (λn o=>If n (e none 1 o) (aV #[.pointer a,.I b,.I c,.slice none 0 0,.slice none 0 0] 71 o λp q=>e (some p) 0 q)) λr=>If l (r true m) (r (decide (c>16384)) m)) λs=>If j (s true k) (s (decide (c<0)) k)) λt=>If h (t true i) (t (decide (b>64)) i)) λu=>If f.isNone (u true g) (u (decide (b<0)) g)
theorem Zq.o {a b c d e}(f:Zq.v a b c d e):Zq.c a b c d e:=Wa Tryz.func36 (x:=Zq.h) (R0 f)
def WF.h:Hn:=.q .o2 (.q (.q .o3 .aJ) (.q (.q .o3 .aJ) (.q .gC .l)))
def WF.v (a:R2)(b:Int)(c:Hp)(d:Int->Int->Hp->Prop):Prop:=Wo.c a c λe f=>If (!e) (d 0 5 f) (WK.c a b f λg h=>If g (d 0 9 h) (bG a 0 h λj=>Za.c j b h λk l m=>d k l m))
theorem WF.o {a b c d}(e:WF.v a b c d):WF.c a b c d:=Wa Tryz.func37 (x:=WF.h) (R0 e)
def WP.h:Hn:=.q .o1 (.q (.q .o3 .aK) (.q (.q .o3 .aK) (.q .o8 .l)))
def WP.v (a:R2)(b c:Int)(d:Hp)(e:aN):Prop:=Wo.c a d λf g=>If (!f) (e 5 g) (WK.c a b g λh i=>If h (e 9 i) (bG a 0 i λk=>YA.c k b c i λl m=>e l m))
theorem WP.o {a b c d e}(f:WP.v a b c d e):WP.c a b c d e:=Wa Tryz.func40 (x:=WP.h) (R0 f)
def Wo.h:Hn:=.q .o1 (.q (.cU (.seq [.op,.op,.op,.cW true 5 (RI.ops 5),.op])) .l)
def Wo.v (a:R2)(b:Hp)(c:aO):Prop:=bX (λd e=>c d e) λf=>If (!a.isNone) (bG a 0 b λh=>f (!h.isNone) b) (f false b)
theorem Wo.o {a b c}(d:Wo.v a b c):Wo.c a b c:=Wa Tryz.func55 (x:=Wo.h) (R0 d)
def WJ.h:Hn:=.q .o1 (.q (.q .o3 .aK) (.q .o6 (.q (.q (.cU (.seq [.op,.op,.op,.cW false 5 (RI.ops 5)])) .aK) (.q (.q .o4 .aK) .aM))))
def WJ.v (a:R2)(b:Int)(c:Hp)(d:aN):Prop:=Wo.c a c λe f=>If (!e) (d 5 f) (bG a 0 f λh=>XE.c h f λi j=>bX (λk l=>If k (d 1 l) (YV.c i b l λm n=>If (!(m.toList==(ByteArray.mk #[]).toList)) (d 5 n) (d 0 n))) λo=>If (b<0) (o true j) (XT.c i j λp q r s t u=>o (decide (b≥r)) u))
theorem WJ.o {a b c d}(e:WJ.v a b c d):WJ.c a b c d:=Wa Tryz.func63 (x:=WJ.h) (R0 e)
def WC.h:Hn:=.q .o8 (.q .gC (.q .gC (.q (.q .o2 (.c .l .l)) (.q (.cU (.held true [6] (.tk [0,1,2,3,4,5] (.all [(6,.tk [7,8,9,10,11] (.done))])))) (.q (.q .o2 (.c .l .l)) (.q (.q .o4 (.k (.loop [(7,.one .s),(52,.I)] (.q .o1 (.q (.c .l .l) (.q (.k (.q .o3 (.q (.o 12) (.q (.cU (.seq [.op,.op,.op,.cW false 2 [.op,.op]])) (.c .o5 .l))))) .o2)))))) (.kK [] (.q .o3 (.c (.cU (.held true [14] (.tk [0,1,2,3,4,5,6,7] (.all [(8,.take 9 (.all [(10,.all [(11,.take 12 (.take 13 (.all [(14,.done)])))])]))])))) .l)) (.cU (.tail 7 (RI.ops 7) [.op])))))))))
def WC.v (a:R2)(b:Int)(c:Hp)(d:aP):Prop:=bF a 3 c λf=>Ix f.a f.len 0 2 λg=>aQ g 0 c λh=>aQ g 1 c λi=>aV #[.I 0,.I 0] 101 c λj k=>aR j 0 (.I h) k λl=>aR j 1 (.I i) l λm=>bF a 3 m λo=>fA o 2 1 (o.len:Nat) (o.cap:Nat) λp=>Wh.c p m λq r=>bW a λs=>aR s 3 (.slice q.a q.len q.cap) r λt=>aQ j 0 t λu=>WB.c a u t λv w x y z aa=>aV #[.I 0,.I 0,.I 0,.I 0] 48 aa λab ac=>aR ab 0 (.I v) ac λad=>aR ab 1 (.I w) ad λae=>aR ab 2 (.I x) ae λaf=>aR ab 3 (.I y) af λag=>If (!z) (d ag) (dV ag λah=>bW a λai=>aU ah ai 0 λaj=>aS ah j 0 λak=>X3.c aj ak ag λal am an=>If (am != 0) (d an) (aQ ab 0 an λao=>aQ ab 1 an λap=>aQ ab 2 an λaq=>aQ ab 3 an λar=>XS.c ao ap aq ar an λau av=>Yb [.s,bO] (λaw=>aw al 0 av) λax (ay:Sl) (az:Int) a0=>If (az<((au.len:Nat):Int)) (Ix au.a au.len az 1 λa1=>bN a1 a0 λa2=>bG a 0 a0 λa4=>XE.c a4 a0 λa5 a6=>YG.c a5 a2 a6 λa7 a8 a9=>bX (λba bb=>If ba (aV #[.I a2] 3 bb λbc bd=>App ay 1 8 3 [.I 0] ⟨some bc,1,1⟩ bd λbe bf=>bM (az+1) λbg=>ax be bg bf) (bM (az+1) λbh=>ax ay bh bb)) λbi=>If (a8 != 0) (bi true a9) (bi (a7 != (-1234567)) a9)) (Jn [] (λbj=>bG a 0 bj λbl=>aQ j 0 bj λbm=>
 Zf.c bl b bm bj λbn bo=>d bo) λbp=>If (((ay.len:Nat):Int)>0) (dV a0 λbq=>bW a λbr=>aT bq br 4 λbs=>aS bq j 0 λbt=>W6.c ay a0 λbu bv=>And (bq bv) <| aV #[.I bt,.I bu] 62 bv λbw bx=>And (bq bx) <| App bs 2 16 62 [.I 0,.I 0] ⟨some bw,1,1⟩ bx λbz b0=>And (bq b0) <| bW a λb1=>aR b1 4 (.slice bz.a bz.len bz.cap) b0 λb2=>bp b2) (bp a0))))
theorem WC.o {a b c d}(e:WC.v a b c d):WC.c a b c d:=Wa Tryz.func64 (x:=WC.h) (R0 e)
def WR.h:Hn:=.q .o2 (.q .o7 .l)
def WR.v (a:R2)(b:Int)(c:Hp)(d:aO):Prop:=aV #[.I b] 3 c λe f=>bF a 3 f λh=>Wb.c h ⟨115,#[],#[.pointer (some e)]⟩ f λi j=>d i j
theorem WR.o {a b c d}(e:WR.v a b c d):WR.c a b c d:=Wa Tryz.func68 (x:=WR.h) (R0 e)
def WB.h:Hn:=.q .o2 (.q .o6 (.q .o8 (.q (.q .o2 (.c (.q .o3 .l) .l)) (.q .o6 .l))))
def WB.v (a:R2)(b:Int)(c:Hp)(d:Int->Int->Int->Int->Bool->Hp->Prop):Prop:=aV #[.I 0,.I 0,.I 0,.I 0] 48 c λe f=>bG a 0 f λh=>Y8.c h f λi j=>Wf.c i b ⟨117,#[],#[]⟩ j λk l m=>If (!l) (aR e 0 (.I 0) m λn=>aR e 1 (.I 0) n λo=>aR e 2 (.I 0) o λp=>aR e 3 (.I 0) p λq=>aQ e 0 q λr=>aQ e 1 q λs=>aQ e 2 q λt=>aQ e 3 q λu=>d r s t u false q) (Ix i.a i.len k 4 λv=>aQ v 0 m λw=>aQ v 1 m λx=>aQ v 2 m λy=>aQ v 3 m λz=>aR e 0 (.I w) m λaa=>aR e 1 (.I x) aa λab=>aR e 2 (.I y) ab λac=>aR e 3 (.I z) ac λad=>aQ e 0 ad λae=>aQ e 1 ad λaf=>aQ e 2 ad λag=>aQ e 3 ad λah=>d ae af ag ah true ad)
theorem WB.o {a b c d}(e:WB.v a b c d):WB.c a b c d:=Wa Tryz.func69 (x:=WB.h) (R0 e)
def XS.h:Hn:=.q .o2 (.q .o1 (.q (.q .o1 (.k (.loop [(3,.one .s),(4,.I)] (.q (.q .o4 (.c .l .l)) (.q (.k .o8) .o3))))) .aL))
def XS.v (a b c d:Int)(e:Hp)(f:Sl->Hp->Prop):Prop:=aV #[.I a,.I b,.I c,.I d] 48 e λg h=>Yb [.s,bO] (λi=>i ⟨none,0,0⟩ 0 h) λj (k:Sl) (l:Int) m=>aQ g 1 m λn=>If (l<n) (aQ g 0 m λo=>bM (o+l) λp=>aV #[.I p] 3 m λq r=>App k 1 8 3 [.I 0] ⟨some q,1,1⟩ r λs t=>bM (l+8) λu=>j s u t) (f k m)
theorem XS.o {a b c d e f}(g:XS.v a b c d e f):XS.c a b c d e f:=Wa Tryz.func72 (x:=XS.h) (R0 g)
def WK.h:Hn:=.q .o3 (.q .o7 .l)
def WK.v (a:R2)(b:Int)(c:Hp)(d:aO):Prop:=aV #[.pointer a] 33 c λe f=>aV #[.I b] 3 f λg h=>fY e h λi=>bF i 3 h λk=>Wb.c k ⟨121,#[],#[.pointer (some e),.pointer (some g)]⟩ h λl m=>d l m
theorem WK.o {a b c d}(e:WK.v a b c d):WK.c a b c d:=Wa Tryz.func75 (x:=WK.h) (R0 e)
def W4.h:Hn:=.q .o2 (.q .o5 .l)
def W4.v (a b:Int)(c:Addr)(d:Hp)(e:aO):Prop:=aV #[.I a,.I b] 101 d λf g=>aQ f 0 g λh=>bN c g λi=>e (h==i) g
theorem W4.o {a b c d e}(f:W4.v a b c d e):W4.c a b c d e:=Wa Tryz.func115 (x:=W4.h) (R0 f)
def WW.h:Hn:=.q .o2 (.q .o5 .l)
def WW.v (a b c d e:Int)(f:Hp)(g:aN):Prop:=aV #[.I a,.I b,.I c,.I d] 48 f λh i=>aQ h 0 i λj=>bM (j-e) λk=>g k i
theorem WW.o {a b c d e f g}(h:WW.v a b c d e f g):WW.c a b c d e f g:=Wa Tryz.func117 (x:=WW.h) (R0 h)
def WV.h:Hn:=.q .o2 (.q .gC (.q (.cU (.gI true [] [(4,.one .b)] (.take 0 (.take 1 (.split 15 (.take 2 (.take 4 (.all [(3,.all [(5,.take 6 (.take 7 (.done)))])]))) (.take 2 (.take 3 (.take 4 (.take 5 (.take 6 (.take 7 (.done)))))))))))) .l))
def WV.v (a b:Int)(c d:Addr)(e:Hp)(f:aO):Prop:=aV #[.I a,.I b] 101 e λg h=>fY c h λi=>aQ g 0 h λj=>WB.c i j h λk l m n o p=>aV #[.I 0,.I 0,.I 0,.I 0] 48 p λq r=>aR q 0 (.I k) r λs=>aR q 1 (.I l) s λt=>aR q 2 (.I m) t λu=>aR q 3 (.I n) u λv=>Jn [.b] (λ(w:Bool) x=>f w x) λy=>dV v λz=>If o (aS z q 0 λaa=>aS z q 1 λab=>aS z q 2 λac=>aS z q 3 λad=>gK z bO d λ(ae:Int)=>XS.c aa ab ac ad v λaf ag=>And (z ag) <| Ww.c af ae ag λah ai=>And (z ai) <| y ah ai) (y false v)
theorem WV.o {a b c d e f}(g:WV.v a b c d e f):WV.c a b c d e f:=Wa Tryz.func121 (x:=WV.h) (R0 g)
end Go.Proofs
namespace Go.Ar
open Go Go.Vc Go.Proofs
open Go.Vc (bU dA cO)
variable {U σ0 v w w':Hp}{F P Q X T:Rg}{L:dE}{H H' H1:Hw}{held:List Pc}{s0 sp:Sp}{t n:Nat}{gb km fm m:Nat}{x y:Gu}{b:B5}
abbrev P2:=Int×Int
def lj (e:P2):List Value:=[.int .i64 e.1,.int .i64 e.2]
def gO (l:List P2):List Value:=l.flatMap lj
theorem UY (l:List P2):(gO l).length=l.length*2:=by
 induction l with
 | nil=>rfl
 | cons e l ih=>simp only[gO,pE,zK,zS,lj,k9]at *;omega
theorem Ds:∀{l:List P2} {i:Nat} {e:P2},l[i]?=some e->∀{d:Nat},d<2->(gO l)[2*i+d]?=(lj e)[d]?
 | [],_,_,h,_,_=>by simp at h
 | y::l,0,e,h,d,hd=>by
  simp at h;subst h;have e1:gO (y::l)=lj y++gO l:=by simp[gO]
  have a:(lj y).length=2:=rfl;rw[e1,zd O];congr 1;omega
 | y::l,i+1,e,h,d,hd=>by
  have e1:gO (y::l)=lj y++gO l:=by simp[gO]
  have a:(lj y).length=2:=rfl;rw[e1,zp O,a,show 2*(i+1)+d-2=2*i+d by omega];exact Ds (by simpa using h) hd
theorem IV:∀(l:List P2) (n:Nat),gO (l.drop n)=(gO l).drop (n*2)
 | l,0=>by simp
 | [],n+1=>by simp[gO]
 | y::l,n+1=>by
  have e1:gO (y::l)=lj y++gO l:=by simp[gO]
  have a:(lj y).length=2:=rfl;rw[wk,e1,IV l n,List.drop_append,DO (l:=lj y) O,a,show(n+1)*2-2=n*2 by omega,tu]
theorem ET:∀(l:List P2),∀v∈gO l,dU v=true:=by
 intro l v a;simp only[gO,List.mem_flatMap,lj]at a;obtain⟨e,_,a⟩:=a;simp at a;rcases a with rfl|rfl<;>rfl
structure Qu where
 bl:Int
 by':Int
 q:List P2
 rs:List P2
def iE (l:List P2):Int:=(l.map (·.2)).sum
structure nK (q:Qu):Prop where
 bl:0<=q.bl/\q.bl<=64
 by':0<=q.by'/\q.by'<=16384
 ql:q.q.length<=66
 qs:∀e∈q.q,1<=e.2/\e.2<=1024
 rl:q.rs.length<=10000
def UU (q:Qu):Bool:=decide ((q.q.length:Int)>q.bl)||decide (iE q.q>q.by')
theorem Tv (e:P2)(l:List P2):iE (e::l)=e.2+iE l:=by simp[iE]
theorem Wi6 (l:List P2)(e:P2):iE (l++[e])=iE l+e.2:=by simp[iE]
theorem Wn3 {l:List P2}(h:∀e∈l,1<=e.2/\e.2<=1024):0<=iE l/\iE l<=l.length*1024:=by
 induction l with
 | nil=>simp[iE]
 | cons e l ih=>
  have d:=h e mD;have b:=ih λe a=>h e (mg _ a);rw[Tv,zS];omega
def sH (sp:Sp)(b:B5):List Int:=(XO b).filter λz=>eO sp z != 0||QV sp z != Ga
def Kq (H:Hw)(b:B5):List Int:=QN H.sp b++sH H.sp b
def lE:List Int->Int
 | []=>0
 | a::l=>l.foldl (λm z=>if z<m then z else m) a
inductive gG (thread:Int) (H:Hw) (x:Gu) (q:Qu):Hw->Gu->Qu->Prop where
 | none {e:P2} {r:List P2}:q.q=e::r->(bU x.kn e.1=none\/kZ H x e.1≠0)->gG thread H x q H x {q with q:=r}
 | stay {e:P2} {r:List P2} {b:B5}:q.q=e::r->bU x.kn e.1=some b->kZ H x e.1=0->lQ H x thread e.1 false≠0->gG thread H x q H x ⟨q.bl,q.by',r,if Kq H b=[]then q.rs else q.rs++[(e.1,lE (Kq H b))]⟩
 | free {e:P2} {r:List P2} {b:B5} {H1:Hw} {er:Int}:q.q=e::r->bU x.kn e.1=some b->kZ H x e.1=0->lQ H x thread e.1 false=0->KG (dP H b) thread 1 0 0 b.2.2.1 H1 0 er->fS (dP H b) H1->nQ (dP H b) thread b.2.2.1 H1 er →
  gG thread H x q H1 (x.gone e.1) ⟨q.bl,q.by',r,if Kq H b=[]then q.rs else q.rs++[(e.1,lE (Kq H b))]⟩
inductive iJ (thread:Int):Hw->Gu->Qu->Hw->Gu->Qu->Prop where
 | stop {H:Hw} {x:Gu} {q:Qu}:UU q=false->iJ thread H x q H x q
 | next {H H1 H':Hw} {x x1 x':Gu} {q q1 q':Qu}:UU q=true->gG thread H x q H1 x1 q1->iJ thread H1 x1 q1 H' x' q'->iJ thread H x q H' x' q'
inductive iB (thread:Int):Hw->Gu->Qu->Hw->Gu->Qu->Prop where
 | stop {H:Hw} {x:Gu} {q:Qu}:q.q=[]->iB thread H x q H x q
 | next {H H1 H':Hw} {x x1 x':Gu} {q q1 q':Qu}:gG thread H x q H1 x1 q1->iB thread H1 x1 q1 H' x' q'->iB thread H x q H' x' q'
def vL (gb:Nat)(q:Qu)(qs rs:Sl):List Value:=[.pointer (some ⟨gb,0,none⟩),.int .i64 q.bl,.int .i64 q.by',.slice qs.a qs.len qs.cap,.slice rs.a rs.len rs.cap]
def ku (P:Rg)(gb km fm qb:Nat)(Qq Qr:Rg):Rg:=λb=>Mg P gb km fm b\/b=qb\/Qq b\/Qr b
structure QP (σ0 U:Hp) (L:dE) (H:Hw) (held:List Pc) (s0:Sp) (P:Rg) (gb km fm:Nat) (x:Gu) (qb:Nat) (Qq Qr:Rg) (qs rs:Sl) (q:Qu):Prop where
 p:GP σ0 U L H held s0 P gb km fm x
 b:bZ U qb (vL gb q qs rs)
 rq:bS qs 2 (gO q.q) U Qq
 rr:bS rs 2 (gO q.rs) U Qr
 sQ:σ0.size<=qb/\¬Mg P gb km fm qb/\¬Qq qb/\¬Qr qb
 qq:∀b,Qq b->σ0.size<=b/\b<U.size/\¬Mg P gb km fm b
 qr:∀b,Qr b->σ0.size<=b/\b<U.size/\¬Mg P gb km fm b
 dj:∀b,Qq b->¬Qr b
 i:nK q
variable {qb:Nat}{Qq Qr:Rg}{qs rs:Sl}{q:Qu}
theorem QP.fr (o:QP σ0 U L H held s0 P gb km fm x qb Qq Qr qs rs q)(e:aG U w):QP σ0 w L H held s0 P gb km fm x qb Qq Qr qs rs q:=
 ⟨o.p.fr e,e.bV o.b id,aI.bP o.rq e,aI.bP o.rr e,o.sQ,λb a=>by have h:=o.qq b a;have:=e.1;exact⟨h.1,O,h.2.2⟩,λb a=>by have h:=o.qr b a;have:=e.1;exact⟨h.1,O,h.2.2⟩,o.dj,o.i⟩
theorem QP.fD (o:QP σ0 U L H held s0 P gb km fm x qb Qq Qr qs rs q){L':dE}{held':List Pc}{s0':Sp}{P':Rg}(e:Ext (Mg P gb km fm) U w)(p':GP σ0 w L' H' held' s0' P' gb km fm y)(hP:∀b,P' b->P b\/U.size<=b) :
 QP σ0 w L' H' held' s0' P' gb km fm y qb Qq Qr qs rs q:=by
 have D:=e.1;have g:=o.b.lt;obtain⟨C,s,B,u⟩:=o.sQ;have j:∀b,b<U.size->¬Mg P gb km fm b->¬Mg P' gb km fm b:=λb E A z=>by
  rcases FH ⟨o.p.b.lt,o.p.m.lt,o.p.f.lt⟩ hP b z with h4|h4
  ·exact A h4
  ·omega
 exact⟨p',e.bV o.b s,aI.bT o.rq e λb _ d r=>(o.qq b d).2.2 r,aI.bT o.rr e λb _ d r=>(o.qr b d).2.2 r,⟨C,j _ g s,B,u⟩,λb a=>by have h:=o.qq b a;exact⟨h.1,O,j b h.2.1 h.2.2⟩,λb a=>by have h:=o.qr b a;exact⟨h.1,O,j b h.2.1 h.2.2⟩,o.dj,o.i⟩
theorem QP.out (o:QP σ0 U L H held s0 P gb km fm x qb Qq Qr qs rs q)(e:Ext T U w)(hT:∀b,b<U.size->T b->¬ku P gb km fm qb Qq Qr b/\σ0.size<=b):QP σ0 w L H held s0 P gb km fm x qb Qq Qr qs rs q:=by
 have s:=e.1;have m:=o.b.lt;refine⟨o.p.out e λb a d=>?_,e.bV o.b λd=>(hT qb m d).1 (.inr (.inl rfl)),aI.bT o.rq e λb a j d=>(hT b a d).1 (.inr (.inr (.inl j))),aI.bT o.rr e λb a j d=>(hT b a d).1 (.inr (.inr (.inr j))),o.sQ,λb a=>by have h:=o.qq b a;exact⟨h.1,O,h.2.2⟩,λb a=>by have h:=o.qr b a;exact⟨h.1,O,h.2.2⟩,o.dj,o.i⟩;have h:=hT b a d;have g:=Vz λr=>h.1 (.inl r);exact⟨g.1,g.2.1,g.2.2.1,g.2.2.2,h.2⟩
theorem QP.ye (o:QP σ0 U L H held s0 P gb km fm x qb Qq Qr qs rs q){s':Sl}{l':List P2}{Q':Rg}(e:Ext Qq U w)(hr:bS s' 2 (gO l') w Q')(hQ:∀b,Q' b->Qq b\/U.size<=b/\b<w.size)(hi:nK {q with q:=l'}){K:aP}
 (hK:∀u,Ext (· = qb) w u->QP σ0 u L H held s0 P gb km fm x qb Q' Qr s' rs {q with q:=l'}->K u):dZ (Addr.add ⟨qb,0,none⟩ 3) (.slice s'.a s'.len s'.cap) w K:=by
 have M:=e.1;have J:=o.b.lt;obtain⟨z,B,C,y⟩:=o.sQ;have G:=o.p.out e λb _ d=>by have h:=o.qq b d;have g:=Vz h.2.2;exact⟨g.1,g.2.1,g.2.2.1,g.2.2.2,h.1⟩
 have r:=aI.bT o.rr e λb _ j E=>o.dj b E j;refine(e.bV o.b C).s1 (by simp[vL]) λu s b=>?_;have i:=s.ext;have F:=s.1;have g:=Vz B;have A:¬Q' qb:=λh=>by
  rcases hQ qb h with h|h
  ·exact C h
  ·omega
 refine hK u i ⟨G.out i λb _ (d:b=qb)=>by subst d;exact⟨g.1,g.2.1,g.2.2.1,g.2.2.2,z⟩,b,aI.bT hr i λb _ m (d:b=qb)=>A (d▸m),aI.bT r i λb _ m (d:b=qb)=>y (d▸m),⟨z,B,A,y⟩,λb d=>?_,λb d=>by have h:=o.qr b d;exact⟨h.1,O,h.2.2⟩,λb d j=>?_,hi⟩
 ·rcases hQ b d with d|d
  ·have h:=o.qq b d;exact⟨h.1,O,h.2.2⟩
  ·have:=o.p.e.1;exact⟨O,O,λD=>by have:=uA o.p D;omega⟩
 ·rcases hQ b d with d|d
  ·exact o.dj b d j
  ·have:=(o.qr b j).2.1;omega
theorem QP.gF (o:QP σ0 U L H held s0 P gb km fm x qb Qq Qr qs rs q){s':Sl}{l':List P2}{Q':Rg}(e:Ext Qr U w)(hr:bS s' 2 (gO l') w Q')(hQ:∀b,Q' b->Qr b\/U.size<=b/\b<w.size)(hi:nK {q with rs:=l'}){K:aP}
 (hK:∀u,Ext (· = qb) w u->QP σ0 u L H held s0 P gb km fm x qb Qq Q' qs s' {q with rs:=l'}->K u):dZ (Addr.add ⟨qb,0,none⟩ 4) (.slice s'.a s'.len s'.cap) w K:=by
 have M:=e.1;have J:=o.b.lt;obtain⟨z,B,C,y⟩:=o.sQ;have G:=o.p.out e λb _ d=>by have h:=o.qr b d;have g:=Vz h.2.2;exact⟨g.1,g.2.1,g.2.2.1,g.2.2.2,h.1⟩
 have r:=aI.bT o.rq e λb _ i E=>o.dj b i E;refine(e.bV o.b y).s1 (by simp[vL]) λu s b=>?_;have j:=s.ext;have F:=s.1;have g:=Vz B;have A:¬Q' qb:=λh=>by
  rcases hQ qb h with h|h
  ·exact y h
  ·omega
 refine hK u j ⟨G.out j λb _ (d:b=qb)=>by subst d;exact⟨g.1,g.2.1,g.2.2.1,g.2.2.2,z⟩,b,aI.bT r j λb _ m (d:b=qb)=>C (d▸m),aI.bT hr j λb _ m (d:b=qb)=>A (d▸m),⟨z,B,C,A⟩,λb d=>by have h:=o.qq b d;exact⟨h.1,O,h.2.2⟩,λb d=>?_,λb d i=>?_,hi⟩
 ·rcases hQ b d with d|d
  ·have h:=o.qr b d;exact⟨h.1,O,h.2.2⟩
  ·have:=o.p.e.1;exact⟨O,O,λD=>by have:=uA o.p D;omega⟩
 ·rcases hQ b i with i|i
  ·exact o.dj b d i
  ·have:=(o.qq b d).2.1;omega
theorem JK (o:QP σ0 U L H held s0 P gb km fm x qb Qq Qr qs rs q){c:Nat}(h:ku P gb km fm qb Qq Qr c):σ0.size<=c/\c<U.size:=by
 rcases h with h|rfl|h|h
 ·refine⟨?_,uA o.p h⟩;rcases h with h|rfl|rfl|rfl
  ·exact(o.p.pP c h).1
  ·exact o.p.q8.1
  ·exact o.p.sC.1
  ·exact o.p.su.1
 ·exact⟨o.sQ.1,o.b.lt⟩
 ·have:=o.qq c h;exact⟨this.1,this.2.1⟩
 ·have:=o.qr c h;exact⟨this.1,this.2.1⟩
theorem uB {s:Sl}{l:List P2}(hs:cV s 2 (gO l) U F){i:Nat}{e:P2}(hb:l[i]?=some e){K:Addr->Prop}(hK:∀bb o,(∀(j:Nat) v,(lj e)[j]?=some v->cell U ⟨bb,o+j,none⟩=some v)->K ⟨bb,o,none⟩):Ix s.a s.len (i:Int) 2 K:=by
 have r:=(cY.1 hb).1;have y:s.len=l.length:=by have:=hs.1;rw[UY]at this;omega
 obtain⟨b,o,m,_⟩:=hs.cell (j:=2*i+0) (v:=.int .i64 e.1) ((Ds hb O).trans rfl);rw[m];refine ix O O ?_;rw[add_lit];refine hK b _ λj v g=>?_;have u:j<2:=(cY.1 g).1;obtain⟨x,w,d,p⟩:=hs.cell ((Ds hb u).trans g);rw[m]at d;cases d;rw[show o+(i:Int).toNat*2+j=o+(2*i+j) by omega];exact p
theorem _root_.Go.Vc.bS.kP {s:Sl}{l:List P2}(h:bS s 2 (gO l) U F):s.len=l.length:=by have:=h.1;rw[UY]at this;omega
theorem uf {ty:Nat}{a c:Int}{K:Addr->Hp->Prop}(hK:∀w',aG U w'->w'.size=U.size+1->bZ w' U.size [.int .i64 a,.int .i64 c]->K ⟨U.size,0,none⟩ w'):Nw (.cells #[.int .i64 0,.int .i64 0] ty (0,0)) U λn v20=>dZ (n.add 0) (.int .i64 a) v20 λv21=>dZ (n.add 1) (.int .i64 c) v21 λv22=>K n v22:=
 nw (cs:=[.int .i64 0,.int .i64 0]) λv20 r g p=>p.s1 aA λv21 b m=>m.s1 aA λv22 d j=>
  hK v22 (Ext.fresh g (b.ext.trans d.ext) λi (hi:i=U.size)=>O) (by have:=b.1;have:=d.1;omega) j
theorem qY {ty:Nat}{a b c d:Int}{K:Addr->Hp->Prop}(hK:∀w',aG U w'->bZ w' U.size (lJ (a,b,c,d))->K ⟨U.size,0,none⟩ w'):Nw (.cells #[.int .i64 0,.int .i64 0,.int .i64 0,.int .i64 0] ty (0,0)) U λn v20=>dZ (n.add 0) (.int .i64 a) v20 λv21=>dZ (n.add 1) (.int .i64 b) v21 λv22=>dZ (n.add 2) (.int .i64 c) v22 λv23=>dZ (n.add 3) (.int .i64 d) v23 λv24=>K n v24:=
 nw (cs:=[.int .i64 0,.int .i64 0,.int .i64 0,.int .i64 0]) λv20 z j w=>w.s1 aA λv21 p s=>s.s1 aA λv22 x r=>r.s1 aA λv23 u g=>g.s1 aA λv24 m y=>
  hK v24 (Ext.fresh j (((p.ext.trans x.ext).trans u.ext).trans m.ext) λi (hi:i=U.size)=>O) y
theorem JV {s:Sl}{l:List P2}(hr:bS s 2 (gO l) U Q)(hl:l.length<=100000)(k:P2){S:aP}(hS0:∀u,aG U u->S u){e t:Nat}{K:Sl->Hp->Prop}
 (hK:∀s' w,Ext Q U w->bS s' 2 (gO (l++[k])) w (λb=>Q b\/U.size<=b/\b<w.size)->S w/\K s' w) :
 Nw (.cells #[.int .i64 k.1,.int .i64 k.2] t (0,0)) U λn v=>And (S v)<|App s 2 16 e [.int .i64 0,.int .i64 0] ⟨some n,1,1⟩ v λs' w=>And (S w)<|K s' w:=by
 have i:=hr.kP;refine nw (cs:=lj k) λv m e1 d=>⟨hS0 v e1,?_⟩;have g:=aI.bP hr e1;refine g.app (ys:=lj k) rfl (by simp[lj]) ?_ (by simp[lj,dU]) ?_ ?_ nu λs' h' x p a=>?_
 ·intro j u hu;rw[add_lit,zH,d.cell];exact hu
 ·simp only;omega
 ·simp only;omega
 ·have y:Ext Q U h':=e1.to.trans p;refine hK s' h' y ?_;have:gO (l++[k])=gO l++lj k:=by simp[gO]
  rw[this];refine aI.mono (aI.cut a) λb r z=>?_;rcases z.1 with h1|h1
  ·exact .inl h1
  ·exact .inr ⟨O,r⟩
end Go.Ar
namespace Go.Ar
open Go Go.Vc Go.Proofs
open Go.Vc (bU dA cO)
variable {U σ0 v w w':Hp}{F P Q X T:Rg}{L:dE}{H H' H1:Hw}{held:List Pc}{s0 sp:Sp}{t n:Nat}{gb km fm m:Nat}{x y:Gu}{b:B5}{qb:Nat}{Qq Qr:Rg}{qs rs:Sl}{q:Qu}
theorem Ur (o:QP σ0 U L H held s0 P gb km fm x qb Qq Qr qs rs q){R:aO}(hR:R true U):Wo.c (aW qb) U R:=by
 refine Wo.o ?_;unfold Wo.v;exact bX.intro (cF rfl (bL (o.b.rP rfl hR)))
theorem Fa (o:QP σ0 U L H held s0 P gb km fm x qb Qq Qr qs rs q)(thread:Int){R:aN}(hR:∀σ',aG U σ'->R (ZA H thread) σ'):WJ.c (aW qb) thread U R:=by
 refine WJ.o ?_;unfold WJ.v;refine Ur o (cD rfl (bL (o.b.rP rfl (AX o.p ?_))));refine Kd (λr u=>aG U u/\r=decide (thread<0\/thread≥(H.cf.threads:Int))) (λr u ⟨d,i⟩=>?_) λJ g=>?_
 ·by_cases hc:thread<0\/thread≥(H.cf.threads:Int)
  ·have a:=hR u d;unfold ZA at a;rw[zC hc]at a;exact cF (by rw[i];exact zI hc) a
  ·have m:=o.p.fr d;refine cD (by rw[i];exact zJ hc) (F0 m.h thread λs j e2 y=>?_);have a:=hR j (d.trans e2);unfold ZA at a;rw[zB hc]at a;rw[y];cases hp:Uz H thread with
   | none=>rw[hp]at a;exact cD rfl a
   | some q=>rw[hp]at a;exact cF rfl a
 ·refine cP (λh=>g _ _ ⟨Ext.refl _ _,by rw[zI];exact .inl h⟩) λh=>Gh o.p.h λu e=>g _ _ ⟨e,?_⟩;rw[kA,decide_eq_true_iff,decide_eq_true_iff];exact⟨.inr,λw=>w.resolve_left h⟩
theorem Ρ {s:Sl}{l:List P2}(h:cV s 2 (gO l) U F)(hl:s.len<=1000000){R:Sl->Hp->Prop}(hR:∀s' σ',aG U σ'->bS s' 2 (gO l) σ' (λb=>U.size<=b)->R s' σ'):Wh.c s U R:=by
 refine Wh.o ?_;unfold Wh.v;exact B2 h aB rfl (ET l) aB hl λs' σ' _ e a=>hR s' σ' e a
theorem T0 {s:Sl}{xs:List Int}(h:cV s 1 (Wu xs) U F)(hl:xs.length<=1000000)(hne:xs≠[]){R:aN}(hR:R (lE xs) U):W6.c s U R:=by
 refine W6.o ?_;unfold W6.v;have b:s.len=xs.length:=by have:=h.1;simp[Wu]at this;omega
 have r:=py.2 hne;refine Jn.intro (cD (zJ O) ?_);obtain⟨a,l,rfl⟩:=List.exists_cons_of_ne_nil hne;have w:(a::l)[0]?=some a:=rfl;refine cV.lV (i:=0) h w ?_;refine UD (a:=bO) (bb:=bO) (λ(m i:Int) u=>u=U/\∃k:Nat,i=k+1/\k<=l.length/\m=(l.take k).foldl (λm z=>if z<m then z else m) a) (λ_ i _=>l.length+1-i.toNat) ⟨rfl,0,rfl,O,rfl⟩ ?_
 rintro(m:Int) (i:Int) u ⟨rfl,k,rfl,hk,rfl⟩;refine cP (λx=>?_) λA=>?_
 ·have g:k<l.length:=by simp only[zS]at b;omega
  have j:l[k]?=some l[k]:=cX g;have d:(a::l)[k+1]?=some l[k]:=by rw[yO,j]
  generalize l[k]=y at j d;rw[show((k:Int)+1)=((k+1:Nat):Int) by omega];refine h.lV d (cT (m:=k+2) O O ⟨⟨rfl,k+1,O,O,?_⟩,O⟩);rw[kz,j,qz,vE];rfl
 ·have p:k=l.length:=by simp only[zS]at b;omega
  subst p;rw[lW];exact hR
theorem Tb {s:Sl}{bs:List Bk}(h:cV s 4 (ju bs) U F)(hl:bs.length<=1000000)(hs:bs.Pairwise λa c=>a.1<c.1)(hi:∀k∈bs,0<=k.1/\k.1<=1000000){a:Int}(ha:jx a){R:Int->Bool->Hp->Prop}
 (h1:∀w (i:Nat) k,aG U w->bs[i]?=some k->k.1=a->R (i:Int) true w) (h0:∀w i,aG U w->(∀k∈bs,k.1≠a)->R i false w) :
 Wf.c s a ⟨117,#[],#[]⟩ U R:=by
 refine Wf.o ?_;unfold Wf.v;have P:s.len=bs.length:=by have:=h.1;rw[Dr]at this;omega
 obtain⟨Y,ha2⟩:=ha;have M:∀(k:Bk) (v:Hp) (K:aN),(∀D,aG v D->K (IntKind.i64.wrap (k.1-a)) D) →
  VO Tryz.prog ⟨117,#[],#[]⟩ [.agg #[.int .i64 k.1,.int .i64 k.2.1,.int .i64 k.2.2.1,.int .i64 k.2.2.2],.int .i64 a] [.one bO] v K:=by
  intro k v K hK;refine G5 (all := #[.agg #[.int .i64 k.1,.int .i64 k.2.1,.int .i64 k.2.2.1,.int .i64 k.2.2.2],.int .i64 a]) (by kernel_rfl) aA ?_;refine WW.o ?_;unfold WW.v;exact nw (cs:=lJ k) λZ hz e hb=>hb.rI rfl (vD (hK Z e))
 have w0:∀k∈bs,(IntKind.i64.wrap (k.1-a)==0)=decide (k.1=a):=λk x=>by
  have:=hi k x;rw[kA,zT,decide_eq_true_iff];unfold IntKind.wrap;simp[IntKind.bits,IntKind.signed];omega
 have A:∀{i j:Nat} {k r:Bk},bs[i]?=some k->bs[j]?=some r->i<j->k.1<r.1:=λ{i j k r} h1 N S=>by
  obtain⟨l1,e1⟩:=cY.1 h1;obtain⟨l2,e2⟩:=cY.1 N;have:=my.1 hs i j l1 l2 S;rw[e1,e2]at this;exact this
 refine UD (a:=bO) (bb:=bO) (λ(i j:Int) v=>∃c d:Nat,i=(c:Int)/\j=(d:Int)/\c<=d/\d<=bs.length/\aG U v/\∀(p:Nat) k,bs[p]?=some k->k.1=a->c<=p/\p<=d) (λi j _=>j.toNat-i.toNat) ⟨0,bs.length,rfl,by rw[P],O,O,Ext.refl _ _,λp k g _=>by have:=(cY.1 g).1;omega⟩ ?_;rintro(i:Int) (j:Int) v ⟨c,d,rfl,rfl,hcd,hdl,ev,hpp⟩;refine cP (λhlt=>?_) λhge=>?_
 ·refine cT (m:=c+d) O O ?_;have hw:IntKind.u64.wrap ((c+d:Nat):Int)=((c+d:Nat):Int):=by
   unfold IntKind.wrap;simp[IntKind.bits,IntKind.signed];omega
  refine vD ?_;rw[hw];refine nn O ?_;have Q:min (1:Int).toNat IntKind.u64.bits=1:=by decide
  rw[Q,CR];have G:(((c+d:Nat):Int)/2^1)=(((c+d)/2:Nat):Int):=by omega
  refine cT (m:=(c+d)/2) G O ?_;have C:(c+d)/2<bs.length:=by omega
  have x:bs[(c+d)/2]?=some bs[(c+d)/2]:=cX C;generalize bs[(c+d)/2]=k at x;have B:=zG x;have aa:=hi k B;refine DB (aH.bP h ev) x λbb o z=>eB (z 0 _ rfl) (eB (z 1 _ rfl) (eB (z 2 _ rfl) (eB (z 3 _ rfl) (M k v _ λD J=>?_))));have y:∀{p:Nat} {r:Bk},bs[p]?=some r->r.1=a->IntKind.i64.wrap (k.1-a)=k.1-a:=λ{p r} g b=>by
   have:=hi r (zG g);exact Uf O O
  show If (decide (IntKind.i64.wrap (k.1-a)<0)) _ _;refine cP (λE=>?_) λL=>?_
  ·refine cT (m:=(c+d)/2+1) O O ⟨⟨_,d,rfl,rfl,O,hdl,ev.trans J,λp r g b=>⟨?_,(hpp p r g b).2⟩⟩,O⟩;rw[y g b]at E;apply Classical.byContradiction;intro hx;rcases kg p ((c+d)/2)with N|N
   ·have:=A g x N;omega
   ·have:p=(c+d)/2:=by omega
    subst this;rw[x]at g;cases g;omega
  ·refine⟨⟨c,_,rfl,rfl,O,O,ev.trans J,λp r g b=>⟨(hpp p r g b).1,?_⟩⟩,O⟩;rw[y g b]at L;apply Classical.byContradiction;intro hx;have:=A x g O;omega
 ·have H:c=d:=by omega
  subst H;refine bX.intro (cP (λX=>?_) λW=>?_)
  ·have C:c<bs.length:=by omega
   have x:bs[c]?=some bs[c]:=cX C;generalize bs[c]=k at x;have B:=zG x;refine DB (aH.bP h ev) x λbb o z=>eB (z 0 _ rfl) (eB (z 1 _ rfl) (eB (z 2 _ rfl) (eB (z 3 _ rfl) (M k v _ λD J=>?_))));rw[w0 k B];by_cases hka:k.1=a
   ·rw[zI hka];exact h1 D c k (ev.trans J) x hka
   ·rw[zJ hka];refine h0 D _ (ev.trans J) λr b u=>?_;obtain⟨p,g⟩:=zP b;have:=hpp p r g u;have V:p=c:=by omega
    subst V;rw[x]at g;cases g;exact hka u
  ·refine h0 v _ ev λr b u=>?_;obtain⟨p,g⟩:=zP b;have:=hpp p r g u;have:=(cY.1 g).1;omega
theorem C0 (bi:gS b){R:Sl->Hp->Prop}(hR:∀s w Q,aG U w->bS s 1 (Wu (XO b)) w Q->(∀c,Q c->U.size<=c/\c<w.size)->R s w):XS.c b.1 b.2.1 b.2.2.1 b.2.2.2.1 U R:=by
 refine XS.o ?_;unfold XS.v;have bb:=bi.base;have J:=bi.z;have H:=bi.m;have E:=bi.t;have L:=bi.s;have G:=ZS (n:=b.2.1) O;have M:(QF b:Int)*8=ZB b.2.1:=by unfold QF;omega
 let wl:Nat->List Int:=λi=>(List.range i).map λ(i:Nat)=>b.1+8*(i:Int)
 have r:∀i,wl (i+1)=wl i++[b.1+8*(i:Int)]:=λi=>by show List.map _ _=_;rw[qF,zm];rfl
 have g:∀i,(wl i).length=i:=λi=>by show(List.map _ _).length=i;simp
 have p:wl (QF b)=XO b:=rfl
 clear_value wl
 refine nw (cs:=lJ (b.1,b.2.1,b.2.2.1,b.2.2.2.1)) λv K e C=>?_;refine UD (a:=.s) (bb:=bO) (λ(out:Sl) (z:Int) u=>aG v u/\∃(i:Nat) (Q:Rg),z=8*(i:Int)/\i<=QF b/\bS out 1 (Wu (wl i)) u Q/\∀c,Q c->v.size<=c/\c<u.size) (λ_ z _=>(ZB b.2.1-z).toNat)
  ⟨Ext.refl _ _,0,λ_=>False,rfl,O,by rw[uP (g 0)];exact⟨rfl,.inl ⟨rfl,rfl⟩⟩,λc d=>d.elim⟩ ?_
 rintro(out:Sl) (z:Int) u ⟨eu,i,Q,rfl,hi,hr,hQ⟩;have F:=eu.1;have j:=eu.bV C id;refine j.rI rfl (cP (λx=>?_) λy=>?_)
 ·simp only at x;have D:out.len=i:=by have:=hr.1;simp[Wu,g]at this;omega
  refine j.rI rfl (ar aC aC ?_);refine xN hr (by rw[g];omega) _ λN w B A=>?_;refine ar O O ⟨⟨Ext.fresh eu B λc d=>(hQ c d).1,i+1,_,O,O,by rw[r];exact A,λc d=>?_⟩,O⟩;have:=B.1;rcases d with d|d
  ·have:=hQ c d;omega
  ·omega
 ·simp only at y;have:i=QF b:=by unfold QF at hi ⊢;omega
  subst this;rw[p]at hr;exact hR out u Q (e.trans eu) hr λc d=>by have:=hQ c d;omega
theorem Cy (o:QP σ0 U L H held s0 P gb km fm x qb Qq Qr qs rs q)(xi:∀e∈x.kn,e.1=e.2.1/\gS e.2)(hkl:x.kn.length<=1000000){a:Int}(ha:jx a){R:Int->Int->Int->Int->Bool->Hp->Prop}
 (h0:∀w,aG U w->bU x.kn a=none->R 0 0 0 0 false w) (h1:∀w b,aG U w->bU x.kn a=some b->R b.1 b.2.1 b.2.2.1 b.2.2.2.1 true w):WB.c (aW qb) a U R:=by
 refine WB.o ?_;unfold WB.v;refine nw (cs:=[.int .i64 0,.int .i64 0,.int .i64 0,.int .i64 0]) λv hz e hb=>?_;have o1:=o.fr e;have nd:(x.kn.map (·.1)).Nodup:=o.p.m.nodup;refine bL (o1.b.rP rfl (Oa o1.p xi hkl λs v1 es e1 r A=>?_));have Y:=e1.bV hb id;have B:∀{w:Hp} {a b c d:Int} {K:Int->Int->Int->Int->Hp->Prop},aG v1 w->(∀g,aG U g->K a b c d g) →
  dZ (Addr.add ⟨U.size,0,none⟩ 0) (.int .i64 a) w λv7=>dZ (Addr.add ⟨U.size,0,none⟩ 1) (.int .i64 b) v7 λv8=>dZ (Addr.add ⟨U.size,0,none⟩ 2) (.int .i64 c) v8 λv9=>dZ (Addr.add ⟨U.size,0,none⟩ 3) (.int .i64 d) v9 λv10=>
  gN .i64 (Addr.add ⟨U.size,0,none⟩ 0) v10 λr0=>gN .i64 (Addr.add ⟨U.size,0,none⟩ 1) v10 λr1=>gN .i64 (Addr.add ⟨U.size,0,none⟩ 2) v10 λr2=>gN .i64 (Addr.add ⟨U.size,0,none⟩ 3) v10 λr3=>K r0 r1 r2 r3 v10:=λ{w a b c d K} C hK=>
  (C.bV Y id).s1 aA λw1 o1 b1=>b1.s1 aA λw2 o2 b2=>b2.s1 aA λw3 o3 b3=>b3.s1 aA λw4 o4 b4=>b4.rI rfl (b4.rI rfl (b4.rI rfl (b4.rI rfl (hK w4 (Ext.fresh ((e.trans e1).trans C) (((o1.ext.trans o2.ext).trans o3.ext).trans o4.ext) λi (hi:i=U.size)=>O)))))
 have j:∀k∈es,k∈x.kn:=λk u=>r.p.mem_iff.1 u;have N:(es.map Go.Ar.b4).length<=1000000:=by rw[zj,r.p.length_eq];exact hkl
 refine Tb (bS.fW A) N ?_ ?_ ha (λw i k C u D=>?_) λw i C X=>?_
 ·rw[sv];refine r.s.imp_of_mem λ{k M} h1 Z hlt=>?_;have e1:=(xi k (j k h1)).1;have e2:=(xi M (j M Z)).1;show k.2.1<M.2.1;omega
 ·intro k u;obtain⟨y,G,rfl⟩:=zE.1 u;have E:=(xi y (j y G)).2;have h1:=E.base;have Z:=E.z;have h3:=E.m;have h4:=E.t;have h5:=E.s;have h6:=ZS (n:=y.2.2.1) O;show 0<=y.2.1/\y.2.1<=1000000;omega
 ·rw[za,od]at u;obtain⟨y,G,rfl⟩:=u;have F:=j y (zG G);have V:y.1=a:=by rw[(xi y F).1];exact D
  have hg:bU x.kn a=some y.2:=by rw[←V];exact Z6 nd (show(y.1,y.2)∈x.kn from F)
  have W:(es.map Go.Ar.b4)[i]?=some (Go.Ar.b4 y):=by rw[za,G];rfl
  refine cD rfl (DB (aH.bP (bS.fW A) C) W λbb oo J=>eB (J 0 _ rfl) (eB (J 1 _ rfl) (eB (J 2 _ rfl) (eB (J 3 _ rfl) ?_))));exact B (K:=λa b c d g=>R a b c d true g) C λg Q=>h1 g y.2 Q hg
 ·refine cF rfl (B (K:=λa b c d g=>R a b c d false g) C λg Q=>h0 g Q ?_);rw[HT];intro k u D;have S:k∈es:=r.p.mem_iff.2 u;exact X (Go.Ar.b4 k) (zE.2 ⟨k,S,rfl⟩) (by show k.2.1=a;rw[←(xi k u).1];exact D)
theorem NF (o:QP σ0 U L H held s0 P gb km fm x qb Qq Qr qs rs q)(a:Int){R:aO}(hR:∀w,aG U w->R (decide (a∈q.q.map (·.1))) w):WR.c (aW qb) a U R:=by
 refine WR.o ?_;unfold WR.v;refine nw (cs:=[.int .i64 a]) λv V e J=>?_;have o1:=o.fr e;refine bL (o1.b.rS rfl (Wb.o ?_));unfold Wb.v;refine We.o ?_;unfold We.v;have K:=o.rq.kP;have G:=o.i.ql;refine Qp (a:=bO) (λ(i:Int) u=>aG v u/\∃k:Nat,i=k/\k<=q.q.length/\∀j e,j<k->q.q[j]?=some e->e.1≠a) (λi _=>q.q.length-i.toNat) ⟨Ext.refl _ _,0,rfl,O,λj e s=>O⟩ ?_;rintro(i:Int) u ⟨eu,k,rfl,hk,hno⟩;have z:=eu.bV J id;refine cP (λg=>?_) λD=>?_
 ·have r:q.q[k]?=some (q.q[k]'(by simp only at g;omega)):=cX _;generalize (q.q[k]'(by simp only at g;omega))=y at r;refine uB (bS.fW (o1.fr eu).rq) r λS W F=>eB (F 0 _ rfl) (eB (F 1 _ rfl) ?_);refine G5 (all := #[.agg #[.int .i64 y.1,.int .i64 y.2],.pointer (some ⟨U.size,0,none⟩)]) (by kernel_rfl) aA (W4.o ?_);unfold W4.v;refine nw (cs:=lj y) λv3 N E A=>A.rI rfl ((E.bV z id).uj rfl (cN (λp=>?_) λC=>?_))
  ·have d:y.1=a:=by simpa using p
   have:=hR v3 ((e.trans eu).trans E);rw[zI (zE.2 ⟨y,zG r,d⟩)]at this;show R (decide ((k:Int)≥0)) v3;rw[zI (show(k:Int)≥0 by omega)];exact this
  ·have d:y.1≠a:=by simpa using C
   exact cT (m:=k+1) O O ⟨⟨eu.trans E,k+1,rfl,by simp only at g;omega,λj e s p=>by
    by_cases hjk:j=k
    ·subst hjk;rw[r]at p;cases p;exact d
    ·exact hno j e O p⟩,by simp only at g;omega⟩
 ·have B:k=q.q.length:=by simp only at D;omega
  subst B;have:=hR u (e.trans eu);rw[zJ λQ=>by
   obtain⟨y,M,d⟩:=zE.1 Q;obtain⟨j,s⟩:=zP M;exact hno j y (cY.1 s).1 s d]at this
  exact this
def UA (x:Gu)(q:Qu)(a:Int):Bool:=q.q.any λe=>match bU x.kn e.1 with
 | some b=>decide (a∈XO b)
 | none=>false
theorem F2 (o:QP σ0 U L H held s0 P gb km fm x qb Qq Qr qs rs q)(xi:∀e∈x.kn,e.1=e.2.1/\gS e.2)(hkl:x.kn.length<=1000000)(hqi:∀e∈q.q,jx e.1)(a:Int){R:aO}(hR:∀w,aG U w->R (UA x q a) w):WK.c (aW qb) a U R:=by
 refine WK.o ?_;unfold WK.v;refine nw (cs:=[.pointer (some ⟨qb,0,none⟩)]) λv0 hz0 e0 hb0=>nw (cs:=[.int .i64 a]) λv hz e hb=>?_;have E:=e0.trans e;have o1:=o.fr E;have g:=e.bV hb0 id;refine g.qC rfl (bL (o1.b.rS rfl (Wb.o ?_)));unfold Wb.v;refine We.o ?_;unfold We.v;have hql:=o.rq.kP;have hq66:=o.i.ql
 let f:P2->Bool:=λe=>match bU x.kn e.1 with
  | some b=>decide (a∈XO b)
  | none=>false
 have B:UA x q a=q.q.any f:=rfl;have hf1:∀(e:P2) b,bU x.kn e.1=some b->f e=decide (a∈XO b):=λe b h=>by show(match bU x.kn e.1 with|some b=>decide (a∈XO b)|none=>false)=_;rw[h]
 have X:∀(e:P2),bU x.kn e.1=none->f e=false:=λe h=>by show(match bU x.kn e.1 with|some b=>decide (a∈XO b)|none=>false)=_;rw[h]
 clear_value f
 refine Qp (a:=bO) (λ(i:Int) u=>aG v u/\∃k:Nat,i=k/\k<=q.q.length/\∀j e,j<k->q.q[j]?=some e->f e=false) (λi _=>q.q.length-i.toNat) ⟨Ext.refl _ _,0,rfl,O,λj e Q=>O⟩ ?_;rintro(i:Int) u ⟨eu,k,rfl,hk,hno⟩;have hbu:=eu.bV hb id;have A:=eu.bV g id;have ou:=o1.fr eu;refine cP (λd=>?_) λhge=>?_
 ·have G:q.q[k]?=some (q.q[k]'(by simp only at d;omega)):=cX _;generalize (q.q[k]'(by simp only at d;omega))=y at G;have hyi:=hqi y (zG G);refine uB (bS.fW ou.rq) G λbb oo hc=>eB (hc 0 _ rfl) (eB (hc 1 _ rfl) ?_);refine G5 (all := #[.agg #[.int .i64 y.1,.int .i64 y.2],.pointer (some ⟨U.size,0,none⟩),.pointer (some ⟨v0.size,0,none⟩)]) (by kernel_rfl) aA (WV.o ?_);unfold WV.v;refine nw (cs:=lj y) λv3 hz3 C hb3=>(C.bV A id).qC rfl (hb3.rI rfl ?_);have o3:=ou.fr C;have go:∀J (r:Bool),aG u J->r=f y->If r (R (decide ((k:Int)≥0)) J) (Ar .i64 ((k:Int)+1) λD=>(λ(i:Int) u=>aG v u/\∃k:Nat,i=k/\k<=q.q.length/\∀j e,j<k->q.q[j]?=some e->f e=false) D J/\q.q.length-D.toNat<q.q.length-(k:Int).toNat):=λJ r N hr=>by
   subst hr;refine cN (λht=>?_) λhf=>?_
   ·have:=hR J ((E.trans eu).trans N);rw[B,zy.2 ⟨y,zG G,ht⟩]at this;rw[zI (show(k:Int)≥0 by omega)];exact this
   ·exact cT (m:=k+1) O O ⟨⟨eu.trans N,k+1,rfl,by simp only at d;omega,λj e Q he=>by
     by_cases hjk:j=k
     ·subst hjk;rw[G]at he;cases he;exact hf
     ·exact hno j e O he⟩,by simp only at d;omega⟩
  have box:∀{ty:Nat} {w:Hp} {Z Y W a4:Int} {K:Addr->Hp->Prop},(∀w7,aG w w7->bZ w7 w.size (lJ (Z,Y,W,a4))->K ⟨w.size,0,none⟩ w7) →
   Nw (.cells #[.int .i64 0,.int .i64 0,.int .i64 0,.int .i64 0] ty (0,0)) w λz v2=>dZ (z.add 0) (.int .i64 Z) v2 λv3=>dZ (z.add 1) (.int .i64 Y) v3 λv4=>dZ (z.add 2) (.int .i64 W) v4 λv5=>dZ (z.add 3) (.int .i64 a4) v5 λv6=>K z v6:=λ{ty w Z Y W a4 K} hK=>
   nw (cs:=[.int .i64 0,.int .i64 0,.int .i64 0,.int .i64 0]) λv2 hz2 e2 M=>M.s1 aA λv3 o3 b3=>b3.s1 aA λv4 o4 b4=>b4.s1 aA λv5 o5 b5=>b5.s1 aA λv6 o6 b6=>
    hK v6 (Ext.fresh e2 (((o3.ext.trans o4.ext).trans o5.ext).trans o6.ext) λi (hi:i=w.size)=>O) b6
  refine Cy o3 xi hkl hyi (λw1 e1 hn=>box λp e2 M=>Jn.intro ?_) λw1 bk e1 hg=>box λp e2 M=>Jn.intro ?_
  ·exact⟨λm=>aG p m,Ext.refl _ _,cD rfl (go p false ((C.trans e1).trans e2) (X y hn).symm)⟩
  ·have bi:gS bk:=(xi _ (Z8 hg)).2;have S:∀m,aG p m->bZ m w1.size (lJ (bk.1,bk.2.1,bk.2.2.1,bk.2.2.2.1)):=λm e=>e.bV M id;have aa:∀m,aG p m->bZ m v0.size [.int .i64 a]:=λm N=>(((C.trans e1).trans e2).trans N).bV hbu id;refine⟨λm=>aG p m,Ext.refl _ _,cF rfl (gL (c:=bO) (y:=bk.1) S rfl (gL (c:=bO) (y:=bk.2.1) S rfl (gL (c:=bO) (y:=bk.2.2.1) S rfl (gL (c:=bO) (y:=bk.2.2.2.1) S rfl (rK (c:=bO) (y:=a) aa rfl ?_)))))⟩;refine C0 bi λs w4 Q4 e4 hs4 _=>⟨e4,?_⟩;have hwl:(XO bk).length<=1000000000:=by
    have:=bi.s;have:=ZS (n:=bk.2.1) O;simp[XO,QF];omega
   exact GY (bS.fW hs4) hwl a ⟨e4,go w4 _ (((C.trans e1).trans e2).trans e4) (by rw[hf1 y bk hg];simp)⟩
 ·have V:k=q.q.length:=by simp only at hge;omega
  subst V;have:=hR u (E.trans eu);rw[B,mr.2 λy hy F=>by
   obtain⟨j,Q⟩:=zP hy;rw[hno j y (cY.1 Q).1 Q]at F;cases F]at this
  exact this
theorem DW (o:QP σ0 U L H held s0 P gb km fm x qb Qq Qr qs rs q){R:aN}(hR:∀w,aG U w->R (iE q.q) w):Wx.c (aW qb) U R:=by
 refine Wx.o ?_;unfold Wx.v;have G:=o.rq.kP;have A:=o.i.ql;refine Ur o (cD rfl (bL (o.b.rS rfl ?_)));refine UD (a:=bO) (bb:=bO) (λ(z i:Int) u=>aG U u/\∃k:Nat,i=k/\k<=q.q.length/\z=iE (q.q.take k)) (λ_ i _=>q.q.length-i.toNat) ⟨Ext.refl _ _,0,rfl,O,rfl⟩ ?_;rintro(z:Int) (i:Int) u ⟨eu,k,rfl,hk,rfl⟩;refine cP (λd=>?_) λp=>?_
 ·have g:q.q[k]?=some (q.q[k]'(by simp only at d;omega)):=cX _;generalize (q.q[k]'(by simp only at d;omega))=y at g;have E:=o.i.qs y (zG g);have r:=Wn3 (l:=q.q.take k) λe D=>o.i.qs e (wo D);rw[zY]at r;refine uB (bS.fW (o.fr eu).rq) g λbb J B=>eB (B 0 _ rfl) (eB (B 1 _ rfl) (uf λw C _ s=>s.rI rfl ?_));have F:iE (q.q.take (k+1))=iE (q.q.take k)+y.2:=by rw[kz,g,qz,Wi6]
  exact ar O O (cT (m:=k+1) O O ⟨⟨eu.trans C,k+1,rfl,by simp only at d;omega,F.symm⟩,by simp only at d;omega⟩)
 ·have j:k=q.q.length:=by simp only at p;omega
  subst j;rw[lW];exact hR u eu
theorem Ax (o:QP σ0 U L H held s0 P gb km fm x qb Qq Qr qs rs q){R:Sl->Hp->Prop}(hR:∀s w Q,aG U w->bS s 1 (Wu (q.q.map (·.1))) w Q->(∀c,Q c->U.size<=c/\c<w.size)->R s w):Wy.c (aW qb) U R:=by
 refine Wy.o ?_;unfold Wy.v;have G:=o.rq.kP;have N:=o.i.ql;refine Ur o (cD rfl (bL (o.b.rS rfl (mk aC aC λv Y e S=>?_))));have o1:=o.fr e;have p:(List.replicate qs.len [Value.int .i64 0]).flatten=Wu ((q.q.map (·.1)).take 0++List.replicate (q.q.length-0) 0):=by
  rw[G];simp[Wu]
 rw[p]at S;refine bL (o1.b.rS rfl ?_);refine Qp (a:=bO) (λ(i:Int) u=>∃k:Nat,i=k/\k<=q.q.length/\aG U u/\bZ u U.size (Wu ((q.q.map (·.1)).take k++List.replicate (q.q.length-k) 0))) (λi _=>q.q.length-i.toNat) ⟨0,rfl,O,e,S⟩ ?_;rintro(i:Int) u ⟨k,rfl,hk,eu,hbu⟩;refine cP (λz=>?_) λJ=>?_
 ·have d:k<q.q.length:=by simp only at z;omega
  have D:q.q[k]?=some q.q[k]:=cX d;have A:(q.q.map (·.1))[k]?=some q.q[k].1:=by rw[za,D];rfl
  generalize q.q[k]=y at D A;refine uB (bS.fW (o.fr eu).rq) D λX Z C=>eB (C 0 _ rfl) (eB (C 1 _ rfl) (uf λw K _ F=>F.rI rfl (ix O aC ?_)));rw[add_lit,show 0+(k:Int).toNat*1=k by omega];have r:=K.bV hbu id;have j:(Wu ((q.q.map (·.1)).take k++List.replicate (q.q.length-k) 0)).length=q.q.length:=by simp[Wu];omega
  refine r.s0 (by rw[j];exact d) λW o2 M=>?_;have B:(Wu ((q.q.map (·.1)).take k++List.replicate (q.q.length-k) 0)).set k (.int .i64 y.1)=Wu ((q.q.map (·.1)).take (k+1)++List.replicate (q.q.length-(k+1)) 0):=by
   unfold Wu;rw[←vv,CZ _ _ (by rw[zY];omega),kz,A,qz,zk]
   congr 2
   rw[zY,zj,qu O,oQ];obtain⟨n,V⟩:∃n,q.q.length-k=n+1:=⟨q.q.length-k-1,O⟩;rw[V,show q.q.length-(k+1)=n by omega,tg];rfl
  rw[B]at M;exact cT (m:=k+1) O O ⟨⟨k+1,rfl,O,Ext.fresh (eu.trans K) o2.ext λi (hi:i=U.size)=>O,M⟩,by simp only at z;omega⟩
 ·have E:k=q.q.length:=by simp only at J;omega
  subst E;have g:(q.q.map (·.1)).take q.q.length++List.replicate (q.q.length-q.q.length) 0=q.q.map (·.1):=by
   rw[oQ,List.replicate_zero,kD,lh aA]
  rw[g]at hbu;refine hR _ u (· = U.size) eu ⟨by simp[Wu];omega,.inr ⟨U.size,_,rfl,rfl,hbu,zD _,by simp[Wu];omega,lW⟩⟩ λc C=>?_;have:=hbu.lt;omega
end Go.Ar