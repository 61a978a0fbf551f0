/- Texts joined. -/
import Derived.Shelf.SlSortCmp.NoneTotal
import Derived.Ground.SlsfProg
import Derived.Test.YtoeidadjhkkioaaGreatDoorProg
import Derived.Shelf.SlIterI.Nil
import Derived.Ground.GgzProg
import Derived.Test.YtoeidadjhkkioaaGreatDoorA6
set_option linter.unusedVariables false
set_option linter.unusedSimpArgs false
namespace Go.Ar
open Go Go.Vc Go.Proofs
variable {U w:Hp}
def mW:Nat->Int->Int->List T3
 | 0,_,_=>[]
 | n+1,s,w=>if s<512 then lC s w::mW n (s+wE s w) w else[]
def allM (w:Int):List T3:=mW 64 8 w++[lC 512 w]
def pV (l:List T3)(i:Nat):Bool:=i==l.length-1||(match l[i]?,l[i+1]? with
 | some x,some y=>x.2.1 != y.2.1||mU x != mU y
 | _,_=>false)
def l7 (l:List T3)(n:Nat):List T3:=(List.range n).filterMap λi=>if pV l i then l[i]? else none
def rZ (w:Int):List T3:=l7 (allM w) (allM w).length
def uV (x:T3):Prop:=8<=x.1/\x.1<=512/\1<=x.2.1/\x.2.1<=4
theorem IS (s w:Int)(h1:8<=s)(h2:s<=512):uV (lC s w):=⟨h1,h2,Ι s w 4⟩
theorem tZ {Q:Rg}{s:Sl}{l:List T3}{e1 e2:Nat}(ho:Go.Vc.Own Q U s 3 (lS l))(hQ:∀b,U.size<=b->Q b)(hl:l.length<=1000)(x:T3){K:Sl->Hp->Prop}(hK:∀s' σ',Ext Q U σ'->Go.Vc.Own Q σ' s' 3 (lS (l++[x]))->K s' σ') :
 Nw (.cells #[.int .i64 x.1,.int .i64 x.2.1,.int .i64 x.2.2] e1 (0,0)) U λn20 v3=>App s 3 24 e2 [.int .i64 0,.int .i64 0,.int .i64 0] ⟨some n20,1,1⟩ v3 K:=by
 have g:s.len=l.length:=by have:=ho.1;rw[DS]at this;omega
 refine nw (cs:=v3 x) λv p e a=>?_;refine(ho.bP e).app (ys:=v3 x) (λb a=>hQ b O) rfl rfl ?_ (by simp[v3,dS]) ?_ ?_ nm λs' m _ i d _=>hK s' m ?_ ?_
 ·intro j u hu;rw[add_lit,zH,a.cell];exact hu
 ·simp only;have:(s.len+1)*24<=1001*24:=mD O O;omega
 ·simp only;omega
 ·exact(aF.to e).trans (i.sub λb a=>((ho.bP e).jv a).1)
 ·rw[MI];exact d
theorem MV (w:Int)(h:w<2\/16<w){R:Sl->Int->Hp->Prop}(hR:R ⟨none,0,0⟩ 1 U):Xe.c w U R:=by
 refine Xe.o ?_;unfold Xe.v;exact bX.intro (cN (λa=>cF rfl hR) λa=>cF (zI O) hR)
theorem Ey (w:Int)(hw1:2<=w)(hw2:w<=16){R:Sl->Int->Hp->Prop}(hR:∀s' σ',aF U σ'->iw σ' s' (rZ w)->R s' 0 σ'):Xe.c w U R:=by
 refine Xe.o ?_;unfold Xe.v;refine bX.intro (gA O (cD (zM O) ?_));refine UC (a:=.s) (bb:=bO) (λ(all:Sl) (s:Int) u=>∃(n:Nat) (done:List T3),8<=s/\s<=768/\aF U u/\Go.Vc.Own (λb=>U.size<=b) u all 3 (lS done)/\done++mW n s w=mW 64 8 w/\512<=s+8*(n:Int)/\(∀x∈done,uV x)/\done.length+n=64) (λ_ s _=>1000-s.toNat) ⟨64,[],O,O,Ext.refl _ _,Own.nil _ _ _,rfl,O,by simp,by simp⟩ ?_;rintro(all:Sl) (s:Int) u ⟨n,done,hs1,hs2,eu,ho,hdone,hn,hok,hlen⟩;refine cN (λM=>?_) λP=>?_
 ·obtain⟨n,rfl⟩:∃m,n=m+1:=⟨n-1,O⟩;refine LF s w O O hw1 hw2 λv2 e2=>?_;refine tZ (ho.bP e2) (λb F=>by have:=eu.1;have:=e2.1;omega) O (lC s w) λall1 v4 e4 h4=>?_;have e04:aF U v4:=Ext.dQ (eu.trans e2) e4 λb F=>.inr F;refine ι s w O O hw1 λd1 d2=>ar O O ⟨⟨n,done++[lC s w],O,O,e04,h4,?_,O,λx C=>?_,by simp;omega⟩,O⟩
  ·rw[←hdone,zl]
   congr 1
   conv=>rhs;rw[mW,zC M]
   rfl
  ·rcases zK.1 C with h1|h1
   ·exact hok x h1
   ·rw[zN]at h1;subst h1;exact IS s w O O
 ·have W:mW n s w=[]:=by
   cases n with
   | zero=>rfl
   | succ n=>rw[mW,zB P]
  rw[W,kb]at hdone;refine LF 512 w O O hw1 hw2 λv6 e6=>?_;refine tZ (ho.bP e6) (λb F=>by have:=eu.1;have:=e6.1;omega) O (lC 512 w) λg v8 e8 L=>?_;have e08:aF U v8:=Ext.dQ (eu.trans e6) e8 λb F=>.inr F;rw[hdone]at L;have A:∀x∈allM w,uV x:=λx C=>by
   rcases zK.1 C with h1|h1
   ·rw[←hdone]at h1;exact hok x h1
   ·rw[zN]at h1;subst h1;exact IS 512 w O O
  have hml:(allM w).length<=65:=by unfold allM;rw[←hdone];simp;omega
  have L:Go.Vc.Own (λb=>U.size<=b) v8 g 3 (lS (allM w)):=L;generalize hall:allM w=l at L A hml;have hmk:rZ w=l7 l l.length:=by unfold rZ;rw[hall]
  have hl2:g.len=l.length:=by have:=L.1;rw[DS]at this;omega
  refine UC (a:=.s) (bb:=bO) (λ(out:Sl) (z:Int) u=>∃i:Nat,z=(i:Int)/\i<=l.length/\aF v8 u/\Go.Vc.Own (λb=>v8.size<=b) u out 3 (lS (l7 l i))/\(l7 l i).length<=i) (λ_ z _=>l.length-z.toNat) ⟨0,rfl,O,Ext.refl _ _,Own.nil _ _ _,by simp[l7]⟩ ?_;rintro(out:Sl) (z:Int) u ⟨i,rfl,hi,eu8,hout,hol⟩;refine cN (λM=>?_) λP=>?_
  ·have hi':i<l.length:=by omega
   have C:l[i]?=some l[i]:=cW hi';generalize l[i]=x at C;have E:=A x (zG C);have j:l7 l (i+1)=l7 l i++(if pV l i then[x]else[]):=by
    unfold l7;rw[qR,xI]
    congr 1
    by_cases hk:pV l i=true
    ·simp[hk,C]
    ·simp[hk]
   have hA:∀m,aF u m->iw m g l:=λm d=>Ir (L.bP (eu8.trans d));refine xV (λr u'=>aF u u'/\r=pV l i) (λr u' ⟨B,hr⟩=>?_) λJ3 J=>?_
   ·have X:=hout.bP B;cases hk:pV l i with
    | true=>
     rw[hk]at hr j;refine cF hr (Aq (hA u' B) C ?_);refine tZ X (λb F=>by have:=eu8.1;have:=B.1;omega) O x λout1 v12 e12 h12=>?_;refine cT (m:=i+1) O O ⟨⟨i+1,rfl,O,Ext.dQ (eu8.trans B) e12 λb F=>.inr F,?_,?_⟩,O⟩
     ·rw[j];exact h12
     ·rw[j];simp;omega
    | false=>
     rw[hk]at hr j;refine cD hr (cT (m:=i+1) O O ⟨⟨i+1,rfl,O,eu8.trans B,?_,?_⟩,O⟩)
     ·rw[j];simpa using X
     ·rw[j];simp;omega
   ·refine⟨λm=>aF u m,Ext.refl _ _,ar O O ?_⟩;refine cQ (λH=>J _ _ ⟨Ext.refl _ _,?_⟩) λhnl=>?_
    ·have:i=l.length-1:=by simp only[zU]at H;omega
     unfold pV;rw[this];simp
    ·have hi2:i+1<l.length:=by simp only[mX]at hnl;omega
     have hy:l[i+1]?=some l[i+1]:=cW hi2;generalize l[i+1]=y at hy;have D:=A y (zG hy);have Q:pV l i=(x.2.1 != y.2.1||mU x != mU y):=by
      unfold pV;rw[C,hy];have:(i==l.length-1)=false:=by simp only[mX];omega
      rw[this];rfl
     have N:=λ(m:Hp) (d:aF u m)=>(hA m d).2 i x.1 x.2.1 x.2.2 C;have hcy:=λ(m:Hp) (d:aF u m)=>(hA m d).2 (i+1) y.1 y.2.1 y.2.2 hy;obtain⟨b,o,Z,_,_⟩:=N u (Ext.refl _ _);have rx:∀m,aF u m->cell m ⟨b,o+i*3,none⟩=some (.int .i64 x.1)/\cell m ⟨b,o+i*3+1,none⟩=some (.int .i64 x.2.1)/\cell m ⟨b,o+i*3+2,none⟩=some (.int .i64 x.2.2):=λm d=>by
      obtain⟨b',o',p,_,h⟩:=N m d;rw[Z]at p;cases p;exact h
     have ry:∀m,aF u m->cell m ⟨b,o+(i+1)*3,none⟩=some (.int .i64 y.1)/\cell m ⟨b,o+(i+1)*3+1,none⟩=some (.int .i64 y.2.1)/\cell m ⟨b,o+(i+1)*3+2,none⟩=some (.int .i64 y.2.2):=λm d=>by
      obtain⟨b',o',p,_,h⟩:=hcy m d;rw[Z]at p;cases p;exact h
     have V:∀{K:Addr->Prop},K ⟨b,o+i*3,none⟩->Ix g.a g.len (i:Int) 3 K:=λhK=>by
      rw[Z];exact ix O O (by rw[add_lit,dG];exact hK)
     have Y:∀{K:Addr->Prop},K ⟨b,o+(i+1)*3,none⟩->Ix g.a g.len ((i+1:Nat):Int) 3 K:=λhK=>by
      rw[Z];exact ix O O (by rw[add_lit,dG];exact hK)
     refine V ⟨x.2.1,λm d=>by rw[add_lit];exact(rx m d).2.1,cT (m:=i+1) O O (Y ⟨y.2.1,λm d=>by rw[add_lit];exact(ry m d).2.1,?_⟩)⟩;refine cQ (λhp=>J _ _ ⟨Ext.refl _ _,by rw[Q,hp];rfl⟩) λhp=>?_;refine V ⟨x.1,λm d=>by rw[add_lit];exact(rx m d).1,⟨x.2.1,λm d=>by rw[add_lit];exact(rx m d).2.1,⟨x.2.2,λm d=>by rw[add_lit];exact(rx m d).2.2,?_⟩⟩⟩;refine cT (m:=i+1) O O (Y ⟨y.1,λm d=>by rw[add_lit];exact(ry m d).1,⟨y.2.1,λm d=>by rw[add_lit];exact(ry m d).2.1,⟨y.2.2,λm d=>by rw[add_lit];exact(ry m d).2.2,?_⟩⟩⟩);refine Fp x E.1 E.2.1 E.2.2.1 E.2.2.2 λv13 G=>⟨G,Fp y D.1 D.2.1 D.2.2.1 D.2.2.2 λv14 S=>⟨G.trans S,J _ _ ⟨G.trans S,by rw[Q,hp];rfl⟩⟩⟩
  ·have hil:i=l.length:=by omega
   subst hil;refine hR out u (e08.trans eu8) ?_;rw[hmk];exact Ir hout
theorem GQ:∀w:Nat,2<=w->w<=16->QY (rZ (w:Int))=true:=by
 have h:((List.range 17).all λw=>decide (w<2)||QY (rZ (w:Int)))=true:=by decide +kernel
 intro w h1 h2;have:=ko.1 h w (zg.2 O);simp only[nO,zV]at this;exact this.resolve_left O
end Go.Ar
namespace Go.Proofs
open Go.Shelf
def Tryz.eW:Go.Shelf.Ren:=⟨fun|6=>297|15=>160|14=>323|28=>224|29=>225|20=>344|21=>345|22=>346|23=>347|24=>348|25=>349|26=>350|27=>351|46=>357|47=>276|48=>277|49=>358|50=>359|57=>361|n=>n,fun|22=>141|24=>147|25=>369|3=>3|39=>230|0=>0|53=>311|55=>313|4=>4|46=>304|45=>303|50=>171|5=>5|9=>9|66=>353|70=>357|76=>383|77=>384|n=>n,fun|n=>n⟩
theorem Tryz.pT:Go.Proofs.SlLaysF0.n6 Tryz.prog Tryz.eW:={
 mixed:=by kernel_rfl
 f6:=⟨Tryz.f297.name,by decide,Tryz.func297.trans (congrArg some (by kernel_rfl))⟩
 f14:=⟨Tryz.f323.name,by decide,Tryz.func323.trans (congrArg some (by kernel_rfl))⟩
 f15:=Tryz.func160.trans (congrArg some (by kernel_rfl))
 f20:=⟨Tryz.f344.name,by decide,Tryz.func344.trans (congrArg some (by kernel_rfl))⟩
 f21:=⟨Tryz.f345.name,by decide,Tryz.func345.trans (congrArg some (by kernel_rfl))⟩
 f22:=⟨Tryz.f346.name,by decide,Tryz.func346.trans (congrArg some (by kernel_rfl))⟩
 f23:=⟨Tryz.f347.name,by decide,Tryz.func347.trans (congrArg some (by kernel_rfl))⟩
 f24:=⟨Tryz.f348.name,by decide,Tryz.func348.trans (congrArg some (by kernel_rfl))⟩
 f25:=⟨Tryz.f349.name,by decide,Tryz.func349.trans (congrArg some (by kernel_rfl))⟩
 f26:=⟨Tryz.f350.name,by decide,Tryz.func350.trans (congrArg some (by kernel_rfl))⟩
 f27:=⟨Tryz.f351.name,by decide,Tryz.func351.trans (congrArg some (by kernel_rfl))⟩
 f28:=Tryz.func224.trans (congrArg some (by kernel_rfl))
 f29:=Tryz.func225.trans (congrArg some (by kernel_rfl))
 f46:=⟨Tryz.f357.name,by decide,Tryz.func357.trans (congrArg some (by kernel_rfl))⟩
 f47:=Tryz.func276.trans (congrArg some (by kernel_rfl))
 f48:=Tryz.func277.trans (congrArg some (by kernel_rfl))
 f49:=⟨Tryz.f358.name,by decide,Tryz.func358.trans (congrArg some (by kernel_rfl))⟩
 f50:=⟨Tryz.f359.name,by decide,Tryz.func359.trans (congrArg some (by kernel_rfl))⟩
 f57:=⟨Tryz.f361.name,by decide,Tryz.func361.trans (congrArg some (by kernel_rfl))⟩
 t0:=Tryz.underlying0
 a0:=Tryz.isAgg0
 z0:=Tryz.sizeOf0
 v0:=Tryz.zeroValue0
 t3:=Tryz.underlying3
 a3:=Tryz.isAgg3
 z3:=Tryz.sizeOf3
 v3:=Tryz.zeroValue3
 t4:=Tryz.underlying4
 a4:=Tryz.isAgg4
 z4:=Tryz.sizeOf4
 v4:=Tryz.zeroValue4
 t5:=Tryz.underlying5
 a5:=Tryz.isAgg5
 z5:=Tryz.sizeOf5
 v5:=Tryz.zeroValue5
 t9:=Tryz.underlying9
 a9:=Tryz.isAgg9
 z9:=Tryz.sizeOf9
 v9:=Tryz.zeroValue9
 t22:=Tryz.underlying141
 a22:=Tryz.isAgg141
 z22:=Tryz.sizeOf141
 v22:=Tryz.zeroValue141
 t25:=Tryz.underlying369
 a25:=Tryz.isAgg369
 z25:=Tryz.sizeOf369
 v25:=Tryz.zeroValue369
 t39:=Tryz.underlying230
 a39:=Tryz.isAgg230
 z39:=Tryz.sizeOf230
 v39:=Tryz.zeroValue230
 t45:=Tryz.underlying303
 a45:=Tryz.isAgg303
 z45:=Tryz.sizeOf303
 v45:=Tryz.zeroValue303
 t46:=Tryz.underlying304
 a46:=Tryz.isAgg304
 z46:=Tryz.sizeOf304
 v46:=Tryz.zeroValue304
 t50:=Tryz.underlying171
 a50:=Tryz.isAgg171
 z50:=Tryz.sizeOf171
 v50:=Tryz.zeroValue171
 t53:=Tryz.underlying311
 a53:=Tryz.isAgg311
 z53:=Tryz.sizeOf311
 v53:=Tryz.zeroValue311
 t55:=Tryz.underlying313
 a55:=Tryz.isAgg313
 z55:=Tryz.sizeOf313
 v55:=Tryz.zeroValue313
 t66:=Tryz.underlying353
 a66:=Tryz.isAgg353
 z66:=Tryz.sizeOf353
 v66:=Tryz.zeroValue353
 t70:=Tryz.underlying357
 a70:=Tryz.isAgg357
 z70:=Tryz.sizeOf357
 v70:=Tryz.zeroValue357
 t76:=Tryz.underlying383
 a76:=Tryz.isAgg383
 z76:=Tryz.sizeOf383
 v76:=Tryz.zeroValue383
 t77:=Tryz.underlying384
 a77:=Tryz.isAgg384
 z77:=Tryz.sizeOf384
 v77:=Tryz.zeroValue384}
end Go.Proofs
namespace Go.Ar
open Go Go.Vc Go.Proofs Go.RowKit Go.Sort Go.Shelf Go.Lib
abbrev uA:=Fin 64×Sl
instance:Inhabited uA:=⟨(0,⟨none,0,0⟩)⟩
def kQ (x:uA):List Value:=[.int .i64 (x.1.val:Int),.slice x.2.a x.2.len x.2.cap]
def pJ (x y:uA):Int:=(x.1.val:Int)-(y.1.val:Int)
theorem Ch (x y:uA)(W:World):Calls Tryz.prog 298 #[.agg #[.int .i64 (x.1.val:Int),.slice x.2.a x.2.len x.2.cap],.agg #[.int .i64 (y.1.val:Int),.slice y.2.a y.2.len y.2.cap]] W λe w'=>e=.returned (.int .i64 (pJ x y))/\∃q os',w'=grow (W.drewN q) os':=by
 have d:IntKind.i64.wrap ((x.1.val:Int)-(y.1.val:Int))=pJ x y:=by
  have b:=x.1.isLt;have g:=y.1.isLt;unfold pJ;exact Un O O
 go_enter Tryz.func298,Tryz.ntmps298
 go_wp2
 go_ret
 exact⟨rfl,0,_,by rw[alloc_eq_grow,alloc_eq_grow,grow_grow];rfl⟩
theorem Du:SWO (ltOf pJ) where
 irrefl x:=by simp[ltOf,pJ]
 trans x y z a h2:=by
  have a:=uE a;have h2:=uE h2;unfold pJ at a h2;exact zI (by unfold pJ;omega)
 ntrans x y z a h2:=by
  have a:=AJ a;have h2:=AJ h2;unfold pJ at a h2;exact zM (by unfold pJ;omega)
def ui (x:uA):Nat×Sl:=(x.1.val,x.2)
theorem JX (l:List uA)(j:Nat)(hj:j<l.length*2):(fJ (l.map ui))[j]?=some (flatK kQ 2 l.toArray)[j]! := by
 rw[get_flatK _ _ _ _ (by simpa using hj)];have hi:j/2<l.length:=by omega
 have e1:l.toArray[j/2]! = l[j/2]:=by rw[getElem!_pos _ _ (by simpa using hi)];simp
 have a:(l.map ui)[j/2]?=some (ui l[j/2]):=by simp[hi]
 have:=Wlu a (d:=j%2) O;rw[show 2*(j/2)+j%2=j by omega]at this;rw[this,e1];have hd:j%2=0\/j%2=1:=by omega
 rcases hd with h|h<;>rw[h]<;>rfl
theorem Fb:oL:=by
 intro U F s xs hrow hk hlen R hR;rintro w rfl;have Y:s.len=xs.length:=by have:=hrow.1;rw[Vn]at this;omega
 rcases hrow.2 with⟨h0,hc0⟩|⟨b,cs,hF,ha,hb,hle,hcl,ht⟩
 ·have M:xs=[]:=C1.1 O;have:=AnyF.slices_SortFunc_none Tryz.pT s.a s.cap (.func (.func 298) #[] #[]) w;show Calls _ _ #[.slice s.a s.len s.cap,.func (.func 298) #[] #[]] w _;rw[h0];refine this.mono ?_;rintro e w' ⟨rfl,rfl⟩;subst M;exact⟨.refl _,[],rfl,hR [] _ (.refl _) List.Pairwise.nil (Ext.refl _ _) hrow⟩
 ·have J:∀x∈xs,x.1<64:=hk
  let toK:Nat×Sl->uA:=λx=>(Fin.ofNat 64 x.1,x.2)
  have r:(xs.map toK).map ui=xs:=by
   rw[lM]
   conv=>rhs;rw[←vf xs]
   apply kA;intro x hx;simp only[Function.comp,toK,ui,Fin.ofNat,id];rw[vU (J x hx)]
  have H:(xs.map toK).length=xs.length:=by simp
  generalize xs.map toK=l at r H;have C:=hb.lt;have Z:HoldsK kQ 2 w b 0 l.toArray:=by
   intro j hj;simp only[size_flatK,AO]at hj;have W:Vc.cell w.heap ⟨b,0+j,none⟩=some (flatK kQ 2 l.toArray)[j]! := by
    rw[hb.cell,zH,←JX l j hj,r];rw[←ht,zm,zC (by rw[Vn];omega)]
   exact⟨W,hb.od⟩
  have eg:∀args w,(callFunc 298 args).run Tryz.prog w=.ok (.enter 298 args) w:=enters_of Tryz.func298 (by kernel_rfl) rfl;have z:∀w,(isAgg (Tryz.eW.t 24)).run Tryz.prog w=.ok true w:=λw=>by
   have h:=VA (P:=Tryz.prog) (t:=Tryz.eW.t 24) (d:=(Tryz.prog.underlying (Tryz.eW.t 24)).getD .bool) (by kernel_rfl) w
   rwa [show UT ((Tryz.prog.underlying (Tryz.eW.t 24)).getD .bool)=true by kernel_rfl]at h
  have E:∀w,(Go.sizeOf (Tryz.eW.t 24)).run Tryz.prog w=.ok 2 w:=λw=>by
   have h:=Kr (P:=Tryz.prog) (t:=Tryz.eW.t 24) (by kernel_rfl) w
   rwa [show Tryz.prog.cellsOf (Tryz.eW.t 24)=2 by kernel_rfl]at h
  have B:=AnyQ.slices_SortFunc Tryz.pT 2 z E kQ (λ_=>rfl) (λx v Q=>by simp only[kQ,zW,Bf,or_false]at Q;rcases Q with rfl|rfl<;>rfl) pJ Du 298 #[] b 0 s.cap l.toArray w eg (λ_ _ _ _ x y=>Ch x y _) Z C (by simp only[AO];omega)
  show Calls _ _ #[.slice s.a s.len s.cap,.func (.func 298) #[] #[]] w _;rw[ha,show s.len=l.toArray.size by simp only[AO];omega];refine B.mono ?_;rintro e w' ⟨rfl,d',n,os,S,G,rfl⟩;have g:d'.size=l.length:=by simpa using S.1
  have u:d'.toList.Perm l:=by
   have K:=S.2.2;rw[show l.toArray.size=d'.size by simp[g]]at K;have e1:(d'.extract 0 d'.size)=d':=by simp
   have e2:(l.toArray.extract 0 d'.size)=l.toArray:=by rw[g];simp
   rw[e1,e2]at K;simpa using K
  obtain⟨X,L⟩:=hb;have m:(sortWorldK kQ 2 w b 0 n d' os).heap=(w.heap.modify b (onCells (putCells id 0 (flatK kQ 2 d'))))++os:=rfl;have p:(w.heap.modify b (onCells (putCells id 0 (flatK kQ 2 d')))).size=w.heap.size:=by simp
  refine⟨⟨rfl,rfl,rfl,by rw[m,Array.size_append,p];omega⟩,[],rfl,?_⟩;rw[m];have A:Ext F w.heap ((w.heap.modify b (onCells (putCells id 0 (flatK kQ 2 d'))))++os):=by
   refine⟨by rw[Array.size_append,p];omega,λq V hf=>?_⟩;rw[ym (by rw[p];exact V),yC,zB λ(e:b=q)=>hf (by rw[←e];exact hF)]
  refine hR (d'.toList.map ui) _ ?_ ?_ A ⟨?_,.inr ⟨b,(putCells id 0 (flatK kQ 2 d') cs.toArray).toList,hF,ha,⟨X,?_⟩,hle,?_,?_⟩⟩
  ·rw[←r];exact u.map _
  ·rw[q9];rw[kS];intro i j hi hj hij;have D:=G i j O hij (by simp only[xj]at hj;simp only[AO];omega);rw[getElem!_pos d' i (by simpa using hi),getElem!_pos d' j (by simpa using hj)]at D;have D:=AJ D;unfold pJ at D;simp only[ui,Array.getElem_toList];omega
  ·rw[Vn,zk,xj,g];omega
  ·rw[ym (by rw[p];exact C),yC,zC rfl,L];simp[onCells]
  ·simp[putCells,hcl]
  ·rw[Vn,zk,xj,g];apply zy;intro j;rw[zm];by_cases hj:j<l.length*2
   ·rw[zC hj,JX d'.toList j (by simpa[g]using hj)];have N:j<cs.length:=by
     have:l.length*2<=s.cap*2:=mA _ O;omega
    simp only[putCells,AK,Array.getElem?_mapIdx,List.getElem?_toArray,cW N,ze];rw[zC ⟨O,by rw[size_flatK,g];omega⟩];simp
   ·rw[zB hj,zX (by rw[Vn,zk,xj,g];omega)]
end Go.Ar
namespace Go.Proofs
open Go.Vc
set_option maxRecDepth 100000
def Yb.h:Hn:=.q .o1 (.q .o5 .l)
def Yb.v (a:Sl)(b:Int)(c:Hp)(d:aO):Prop:=d (decide (((a.len:Nat):Int)>b)) c
theorem Yb.o {a b c d}(e:Yb.v a b c d):Yb.c a b c d:=Wa Tryz.func14 (x:=Yb.h) (R0 e)
def Y1.h:Hn:=.q .o2 (.q (.q (.cU (.seq [.op,.op,.op,.op,.cY false 3 (RI.ops 3)])) (.c (.q .o3 .l) .l)) (.q (.oq 12) .l))
def Y1.v (a:Sl)(b c d e f g h:Int)(i:ByteArray)(j:Hp)(k:aN):Prop:=aV #[.I b,.I c,.I d,.I e,.I f,.I g,.I h,.string i] 40 j λl m=>aQ l 4 m λn=>bX (λo p=>If o (aQ l 5 p λq=>k q p) (aQ l 4 p λr=>Nz ((a.len:Nat):Int) <| Ix a.a a.len (r.tmod ((a.len:Nat):Int)) 1 λs=>bN s p λt=>aQ l 5 p λu=>bM (t+u) λv=>k v p)) λw=>If (n<0) (w true m) (w (((a.len:Nat):Int)==0) m)
theorem Y1.o {a b c d e f g h i j k}(l:Y1.v a b c d e f g h i j k):Y1.c a b c d e f g h i j k:=Wa Tryz.func25 (x:=Y1.h) (R0 l)
def XO.h:Hn:=.q .o1 (.q .o4 .l)
def XO.v (a:Hp)(b:Option Addr->Hp->Prop):Prop:=WM.c 8 64 1 1 1024 2 a λc d=>b c d
theorem XO.o {a b}(c:XO.v a b):XO.c a b:=Wa Tryz.func39 (x:=XO.h) (R0 c)
def W9.h:Hn:=.q .o2 (.q .o5 .l)
def W9.v (a b c d e f:Int)(g:Hp)(h:aO):Prop:=aV #[.I a,.I b,.I c,.I d,.I e,.I f] 25 g λi j=>bN ((i.add 1).add 0) j λk=>h (decide (k>128)) j
theorem W9.o {a b c d e f g h}(i:W9.v a b c d e f g h):W9.c a b c d e f g h:=Wa Tryz.func52 (x:=W9.h) (R0 i)
def WM.h:Hn:=.q .o2 (.q .o8 (.q .o9 (.q (.q .o2 .aK) .aL)))
def WM.v (a b c d e f:Int)(g:Hp)(h:Option Addr->Hp->Prop):Prop:=aV #[.I a,.I b,.I c,.I d,.I e,.I f] 25 g λi j=>aQ i 0 j λk=>Xe.c k j λl m n=>bN ((i.add 1).add 0) n λo=>bN ((i.add 1).add 1) n λp=>bN ((i.add 1).add 2) n λq=>bN ((i.add 1).add 3) n λr=>bN ((i.add 1).add 4) n λs=>Vl.c l o p q r s n λt u v=>If (u != 0) (h none v) (h t v)
theorem WM.o {a b c d e f g h}(i:WM.v a b c d e f g h):WM.c a b c d e f g h:=Wa Tryz.func53 (x:=WM.h) (R0 i)
end Go.Proofs
namespace Go.Ar
open Go Go.Vc Go.Proofs
variable {U w w':Hp}{F P Q:Rg}{L:dE}{H H':Hw}{held:List Pc}{s0:Sp}{t n:Nat}{g:Th}
structure fB where
 kd:Int
 th:Int
 a:Int
 b:Int
 of:Int
 pl:Int
 va:Int
 s:ByteArray
def tU (d:fB):List Value:=[.int .i64 d.kd,.int .i64 d.th,.int .i64 d.a,.int .i64 d.b,.int .i64 d.of,.int .i64 d.pl,.int .i64 d.va,.string d.s]
def iN (x:Int):Prop:=-9223372036854775808<=x/\x<=9223372036854775807
structure kV (d:fB):Prop where
 a:iN d.a
 b:iN d.b
 pl:iN d.pl
 va:iN d.va
structure jE (U:Hp) (sl:Sl) (ds:List fB):Prop where
 len:sl.len=ds.length
 at_:∀(i:Nat) (d:fB),ds[i]?=some d->∃b o,sl.a=some ⟨b,o,none⟩/\b<U.size/\∀(j:Nat) v,(tU d)[j]?=some v->cell U ⟨b,o+i*8+j,none⟩=some v
 i:∀d∈ds,kV d
 AA:ds.length<=9223372036854775807
theorem jE.bP {sl:Sl}{ds:List fB}(h:jE U sl ds)(e:aF U w):jE w sl ds:=⟨h.len,λi d m=>by
 obtain⟨b,o,g,p,r⟩:=h.at_ i d m;exact⟨b,o,g,by have:=e.1;omega,λj v a=>by rw[KW e p id];exact r j v a⟩,h.i,h.AA⟩
theorem jE.rd {sl:Sl}{ds:List fB}(h:jE U sl ds)(e:aF U w){i:Nat}{d:fB}(hx:ds[i]?=some d){K:Addr->Prop}(hK:∀b o,(∀w',aF U w'->∀(j:Nat) v,(tU d)[j]?=some v->cell w' ⟨b,o+j,none⟩=some v)->K ⟨b,o,none⟩):Ix sl.a sl.len (i:Int) 8 K:=by
 obtain⟨b,o,p,r,u⟩:=h.at_ i d hx;have x:=(cX.1 hx).1;have g:=h.len;rw[p];refine ix O O ?_;rw[add_lit,dG];exact hK b _ λw' s j v m=>by rw[KW s r id];exact u j v m
theorem CP {b o i:Nat}{h:Hp}{x:ByteArray}{K:ByteArray->Prop}(hc:cell h ⟨b,o+i,none⟩=some (.string x))(hK:K x):xm (Addr.add ⟨b,o,none⟩ i) h K:=⟨x,by rw[add_lit];exact hc,hK⟩
theorem _root_.Go.Vc.bZ.rT {b o i:Nat}{cs:List Value}(hb:bZ U b cs){x:ByteArray}{K:ByteArray->Prop}(hc:cs[o+i]?=some (.string x))(hK:K x):xm (Addr.add ⟨b,o,none⟩ i) U K:=⟨x,by rw[add_lit,hb.cell];exact hc,hK⟩
def sL (ad:List Int)(d:fB):Int:=if d.of<0\/ad=[]then d.pl else IntKind.i64.wrap (ad.getD (d.of.toNat%ad.length) 0+d.pl)
theorem Tb {ad:List Int}{d:fB}(h:kV d):iN (sL ad d):=by
 unfold sL;split
 ·exact h.pl
 ·exact Rm _
theorem WoC {addrs:Sl}{ad:List Int}(hs:cV addrs 1 (Wy ad) U F)(d:fB){R:aN}(hR:∀σ',aF U σ'->R (sL ad d) σ'):Y1.c addrs d.kd d.th d.a d.b d.of d.pl d.va d.s U R:=by
 refine Y1.o ?_;unfold Y1.v;have z:addrs.len=ad.length:=by have:=hs.1;simp[Wy]at this;omega
 refine nw (cs:=tU d) λv D e j=>j.rI rfl (KM (λr w=>w=v/\r=decide (d.of<0\/ad=[])) (λr w ⟨C,A⟩=>?_) λJ x=>cN (λp=>x _ _ ⟨rfl,by rw[zI (.inl p)]⟩) λp=>x _ _ ⟨rfl,?_⟩)
 ·subst C;have g:=hR w e;by_cases hc:d.of<0\/ad=[]
  ·refine cF (by rw[A];exact zI hc) (j.rI rfl ?_);unfold sL at g;rw[zC hc]at g;exact g
  ·have i:0<ad.length:=pY.2 λh=>hc (.inr h);refine cD (by rw[A];exact zM hc) (j.rI rfl (nz O ?_));have u:0<=d.of:=by omega
   have B:d.of.tmod (addrs.len:Int)=((d.of.toNat%ad.length:Nat):Int):=by
    rw[Kj u,z,Int.natCast_emod,Int.toNat_of_nonneg u]
   rw[B];have m:d.of.toNat%ad.length<ad.length:=wm _ i;have y:ad[d.of.toNat%ad.length]?=some ad[d.of.toNat%ad.length]:=cW m;refine(cV.loc _ _ _ |>.bP (aH.cut hs) e).lQ y (j.rI rfl (vz ?_));unfold sL at g;rw[zB hc,zQ,y]at g;exact g
 ·rw[z];rw[kW];simp only[zU,zV];constructor
  ·intro h;exact .inr (C1.1 O)
  ·rintro(h|h)
   ·exact(p h).elim
   ·rw[h];rfl
theorem R7 {l:Sl}{most:Int}{R:aO}(hR:R (decide ((l.len:Int)>most)) U):Yb.c l most U R:=by
 refine Yb.o ?_;unfold Yb.v;exact hR
theorem Tj {xs:List (Int×Int×Int)}(h:QY xs=true):(xs.map QI).map mQ=xs:=by
 rw[lM]
 conv=>rhs;rw[←vf xs]
 apply kA;intro t ht;obtain⟨i,hi⟩:=zP ht;have:=((QT xs).1 h).2.2.1 i t hi;obtain⟨c,_,g,d,a,b⟩:=AP this;simp only[Function.comp,id];rw[show QI t=c from g];unfold mQ;rw[←d,←a,←b]
theorem WnT {xs:List (Int×Int×Int)}(h:QY xs=true):(xs.map QI).length<=40/\∀c∈xs.map QI,c.ok:=by
 refine⟨by have:=((QT xs).1 h).2.1;simpa using this,λc d=>?_⟩;obtain⟨t,g,rfl⟩:=zD.1 d;obtain⟨i,hi⟩:=zP g;have:=((QT xs).1 h).2.2.1 i t hi;obtain⟨c,a,b,_⟩:=AP this;rw[show QI t=c from b];exact a
structure uU (H:Hw) (aG:Int):Prop where
 hi:HI H [] (V6 H.cf.aG)
 cf:jk H
 pg:(H.cf.aG:Int)=aG
 live:H.live=[]
 ph:∀g∈H.bR,g.ph=none
 th:1<=H.cf.threads
theorem JA {xs:List (Int×Int×Int)}{p a t b r:Int}(h:QY xs=true)(hc:sB p a t b r=true):uU (Uo (xs.map QI) ⟨p.toNat,a.toNat,t.toNat,b.toNat,r.toNat⟩) p:=by
 obtain⟨⟨q1,q2,q3⟩,⟨q4,s⟩,⟨m,u⟩,_⟩:=(FP p a t b r).1 hc;obtain⟨d,i⟩:=WnT h;refine⟨SV (cf:=⟨p.toNat,a.toNat,t.toNat,b.toNat,r.toNat⟩) aC aC aC aC d i,⟨by simp only[Uo];omega,by simp[Uo],?_⟩,by simp only[Uo];omega,rfl,λg j=>by rw[Cm j],by simp only[Uo];omega⟩;show QY ((xs.map QI).map mQ)=true;rw[Tj h];exact h
theorem RY (g:Gl U)(gd:Gd U)(b b1 b2 b3 b4 b5:Int){R:Option Addr->Hp->Prop}(h0:∀σ',aF U σ'->R none σ')
 (h1:∀σ' L N H,aF U σ'->U.size<=N->N<=σ'.size->HH σ' (λb=>N<=b) L H->uU H b1->R (some ⟨L.p,0,none⟩) σ'):WM.c b b1 b2 b3 b4 b5 U R:=by
 refine WM.o ?_;unfold WM.v;refine nw (cs:=[.int .i64 b,.int .i64 b1,.int .i64 b2,.int .i64 b3,.int .i64 b4,.int .i64 b5]) λv E e j=>j.rI rfl ?_;by_cases hw:2<=b/\b<=16
 ·refine Ey b hw.1 hw.2 λs B e1 w=>?_;have d:=e1.bV j id;have a:=e.trans e1;have m:QY (rZ b)=true:=by
   have:=GQ b.toNat O O;rw[show((b.toNat:Nat):Int)=b by omega]at this;exact this
  refine d.fL rfl (d.fL rfl (d.fL rfl (d.fL rfl (d.fL rfl ?_))));refine CM w (g.bP a) (gd.bP a) b1 b2 b3 b4 b5 (λr=>by rw[m]at r;cases r) (λ_ A u e2=>?_) λ_ A u L e2 C=>?_
  ·exact cF rfl (h0 u (a.trans e2))
  ·exact cD rfl (h1 u L B.size _ (a.trans e2) a.1 e2.1 C (JA m A))
 ·refine MV b O (j.fL rfl (j.fL rfl (j.fL rfl (j.fL rfl (j.fL rfl ?_)))));have w:iw v ⟨none,0,0⟩ []:=⟨rfl,λi x y z D=>by simp at D⟩;refine CM w (g.bP e) (gd.bP e) b1 b2 b3 b4 b5 (λ_ u e2=>cF rfl (h0 u (e.trans e2))) (λm=>?_) λm=>?_
  ·exact absurd m aB
  ·exact absurd m aB
def Safe (H:Hw)(d:fB)(x:Int)(e:Int×Bk):Prop:=(∀j,fG H j≠some (.find e.1))/\¬((d.kd=3\/d.kd=1\/d.kd=6)/\e.1<=x/\x<e.1+e.2.2.1)
structure nT (H:Hw) (d:fB) (x:Int) (H':Hw):Prop where
 hi:∃held s0,HI H' held s0
 kp:Q0 H' H
 fx:∀e∈H.live,Safe H d x e->e∈H'.live/\(∀w:Nat,e.1<=((8*w:Nat):Int)->((8*w:Nat):Int)<e.1+e.2.2.1->H'.sp.wd w=H.sp.wd w)/\∀j,fG H' j≠some (.find e.1)
theorem nT.same (h:HI H held s0)(d:fB)(x:Int):nT H d x H:=⟨⟨_,_,h⟩,Q0.refl _,λe a b=>⟨a,λ_ _ _=>rfl,b.1⟩⟩
theorem nT.op (h:HI H held s0){d:fB}{x:Int}(o:fR H H')(hl:∀e∈H.live,Safe H d x e->e∈H'.live):nT H d x H':=
 ⟨o.hi,o.kp,λe a b=>⟨hl e a b,h.kl o.ks e a,λj=>by rw[o.ph];exact b.1 j⟩⟩
theorem nT.ar {d:fB}{x:Int}(o:mT H H'):nT H d x H':=
 ⟨o.hi,o.kp,λe a b=>⟨by rw[o.live];exact a,o.kl e a,λj=>by unfold fG;rw[o.bR];exact b.1 j⟩⟩
theorem HI.ka (h:HI H held s0){e:Int×Bk}(he:e∈H.live):8<=e.2.2.1/\0<=e.1/\e.1%8=0/\e.2.2.1%8=0/\e.1+e.2.2.1<=270000:=by
 obtain⟨_,p,d,E,D,z,C,_⟩:=h.lv e he;have B:=h.A3.size_pos d;have F:=h.A3.jW d;obtain⟨A,y,hd⟩:=h.A3.hf p d;have G:p.addr%8=0:=by
  rcases hd with⟨_,_,r,hr,c2,c3⟩|⟨j,c,c1,c2,c3,c4,_⟩
  ·omega
  ·obtain⟨a,u,b,w⟩:=c4;have:a=c:=Option.some.inj (b.1.symm.trans c2);subst this;have m:=(h.A3.ga _ A y).cG j a u b;obtain⟨l,s,i,J,hi,e,_⟩:=(Ug m).1 w;have g:=m.ok;unfold cA.ok at g;unfold at_ at e;have x:a.size=8*(a.size/8):=by omega
   have:i*a.size=8*(i*(a.size/8)):=by rw[Nat.mul_left_comm,←x]
   omega
 omega
theorem nT.write (h:HI H held s0){d:fB}{x:Int}(hd:d.kd=3)(v:Int):nT H d x {H with sp:=ZF H.sp x v}:=by
 refine⟨⟨_,_,h.write x v⟩,⟨rfl,rfl,rfl,rfl⟩,λe a b=>⟨a,λw j g=>?_,b.1⟩⟩;have i:=h.ka a;rw[(Bl H.sp x v).2.2,zB];rintro⟨h0,hw⟩;have m:=FG h0;exact b.2 ⟨.inl hd,O,O⟩
theorem nT.free (h:HI H held s0){d:fB}{x thread e:Int}(hd:d.kd=1)(o:fR H H')(hf:nM H thread x H' e):nT H d x H':=by
 refine nT.op h o λm a g=>?_;have i:=h.ka a;rcases hf with⟨_,h2,_⟩|⟨_,_,_,h4⟩|⟨_,b,_,_,h4⟩
 ·rw[h2];exact a
 ·rw[h4];exact a
 ·rw[h4];refine y7.2 ⟨a,λj=>g.2 ⟨.inr (.inl hd),O,O⟩⟩
theorem nT.step (h:HI H held s0){d:fB}{x:Int}(hg:H.bR[t]?=some g){p:Ph}(hp:g.ph=some p):nT H d x (Kd H t p):=by
 have J:=(cX.1 hg).1;have s:=h.stp hg hp;have E:fG H t=some p:=by unfold fG;rw[hg];exact hp
 have live:∀e∈H.live,p≠.find e.1->e∈(Kd H t p).live:=λe i z=>by
  by_cases hf:lR p
  ·obtain⟨_,_,_,K,m⟩:=ri h hg hp hf;by_cases u:∃y,p=.find y
   ·obtain⟨y,rfl⟩:=u;cases hm:bU H.live y with
    | none=>rw[((m y rfl).1 hm).2.2];exact i
    | some b=>
     rw[((m y rfl).2 b hm).2];exact y7.2 ⟨i,λa=>z (by rw[a])⟩
   ·rw[(K λy a=>u ⟨y,a⟩).2];exact i
  ·obtain⟨cl,G,C⟩:=DL h hg hp hf;obtain⟨_,r⟩:=r6 h hg hp C;rcases r with⟨_,_,_,e2,_⟩|⟨_,_,_,e4⟩|⟨_,_,e3,e4⟩
   ·rw[e2];exact i
   ·rw[e4];exact i
   ·rw[e4];exact(Ay e3).2 (.inl i)
 have A:∀y,(WG H t p).2.1≠some (.find y):=λy a=>by
  by_cases hf:lR p
  ·obtain⟨_,_,r,_⟩:=ri h hg hp hf;rcases r with⟨p',w,e1,_,e3,_⟩|e1
   ·rw[e1]at a;exact e3 y (Option.some.inj a)
   ·rw[e1]at a;cases a
  ·obtain⟨cl,G,C⟩:=DL h hg hp hf;obtain⟨_,r⟩:=r6 h hg hp C;rcases r with⟨p',w,e1,_,_,e4,_⟩|⟨e1,_⟩|⟨e1,_⟩
   ·rw[e1]at a;cases a;exact e4.elim
   ·rw[e1]at a;cases a
   ·rw[e1]at a;cases a
 refine⟨s.hi,U6 H t p,λe i F=>⟨live e i λu=>F.1 t (by rw[E,u]),h.kl s.ks e i,λj=>?_⟩⟩;by_cases hj:j=t
 ·subst hj;obtain⟨w,B,D⟩:=HF (p:=p) J;unfold fG;rw[B];show w.ph≠_;rw[D];exact A _
 ·unfold fG;rw[UQ p hj];exact F.1 j
end Go.Ar
namespace Go.Ar
open Go Go.Vc Go.Proofs
variable {U w w':Hp}{F P Q X:Rg}{L:dE}{H H':Hw}{held:List Pc}{s0:Sp}{t n:Nat}{g:Th}
structure gg (σ0 U:Hp) (L:dE) (H:Hw) (held:List Pc) (s0:Sp) (P Q:Rg) (addrs:Sl) (ad:List Int):Prop where
 e:aF σ0 U
 h:HH U P L H
 hi:HI H held s0
 cf:jk H
 pg:H.cf.aG<=128
 pP:∀b,P b->σ0.size<=b/\b<U.size
 pQ:∀b,Q b->σ0.size<=b/\b<U.size/\¬P b
 row:bT addrs 1 (Wy ad) U Q
 al:ad.length<=60
 g0:jf (λb=>σ0.size<=b)/\¬σ0.size<=1
variable {σ0:Hp}{addrs:Sl}{ad:List Int}
theorem gg.step (p:gg σ0 U L H held s0 P Q addrs ad){ts':List eP}(e:Ext P U w)(h':HH w (Grow P U) {L with ts:=ts'} H'){held':List Pc}{s0':Sp}(hi':HI H' held' s0')(k:Q0 H' H) :
 gg σ0 w {L with ts:=ts'} H' held' s0' (Cut (Grow P U) w) Q addrs ad:=by
 have j:=e.1;refine⟨Ext.dQ p.e e λb a=>.inr (p.pP b a).1,h'.cut,hi',p.cf.bS k,by rw[k.2.1];exact p.pg,λb a=>⟨?_,a.2⟩,λb a=>?_,aI.bS p.row e λb _ d i=>(p.pQ b d).2.2 i,p.al,p.g0⟩
 ·have:=p.e.1;rcases a.1 with h1|h1
  ·exact(p.pP b h1).1
  ·omega
 ·obtain⟨q1,q2,q3⟩:=p.pQ b a;exact⟨q1,O,λg=>by
   rcases g.1 with h1|h1
   ·exact q3 h1
   ·omega⟩
theorem gg.fr (p:gg σ0 U L H held s0 P Q addrs ad)(e:aF U w):gg σ0 w L H held s0 P Q addrs ad:=
 ⟨p.e.trans e,p.h.bP e,p.hi,p.cf,p.pg,λb a=>⟨(p.pP b a).1,by have:=(p.pP b a).2;have:=e.1;omega⟩,λb a=>⟨(p.pQ b a).1,by have:=(p.pQ b a).2.1;have:=e.1;omega,(p.pQ b a).2.2⟩,aI.bP p.row e,p.al,p.g0⟩
theorem gg.out (p:gg σ0 U L H held s0 P Q addrs ad){T:Rg}(e:Ext T U w)(hT:∀b,b<U.size->T b->¬P b/\¬Q b/\σ0.size<=b):gg σ0 w L H held s0 P Q addrs ad:=by
 have r:=e.1;have g:Ext (λb=>T b/\b<U.size) U w:=⟨e.1,λb a m=>e.2 b a λd=>m ⟨d,a⟩⟩;refine⟨Ext.dQ p.e g λb a=>.inr (hT b a.2 a.1).2.2,p.h.bS g (λb a j d=>(hT b a d.1).1 j) (λb a=>?_) (λa=>?_),p.hi,p.cf,p.pg,λb a=>⟨(p.pP b a).1,by have:=(p.pP b a).2;omega⟩,λb a=>⟨(p.pQ b a).1,by have:=(p.pQ b a).2.1;omega,(p.pQ b a).2.2⟩,aI.bS p.row g λb a i d=>(hT b a d.1).2.1 i,p.al,p.g0⟩
 ·exact p.g0.1 b (hT b a.2 a.1).2.2
 ·exact p.g0.2 (hT _ a.2 a.1).2.2
theorem wJ (hr:bT addrs 1 (Wy ad) U Q)(hl:ad.length<=1000000)(x:Int){e t:Nat}{K:Sl->Hp->Prop}(hK:∀s' w,Ext Q U w->bT s' 1 (Wy (ad++[x])) w (λb=>Q b\/U.size<=b/\b<w.size)->K s' w) :
 Nw (.cells #[.int .i64 x] t (0,0)) U λn v=>App addrs 1 8 e [.int .i64 0] ⟨some n,1,1⟩ v K:=by
 have j:addrs.len=ad.length:=by have:=hr.1;simp[Wy]at this;omega
 refine bT.push (F:=λb=>Q b\/U.size<=b) (vs:=[.int .i64 x]) (aI.mono hr λb _ a=>.inl a) (λb a=>.inr a) rfl rfl (by simp[dS]) O O λs' w m g p=>hK s' w ⟨g.1,λb a i=>g.2 b a λd=>d.elim i λd=>O⟩ ?_;have:Wy (ad++[x])=Wy ad++[.int .i64 x]:=by simp[Wy]
 rw[this];refine aI.mono (aI.cut p) λb a d=>?_;rcases d.1 with h1|h1
 ·exact .inl h1
 ·exact .inr ⟨h1,a⟩
end Go.Ar
namespace Go.Ar
open Go.Vc (bU dA cO)
def i63 (x:Int):Bool:=decide (x<=9223372036854775807)
def qQ (H:Hw)(t:Nat):Ph->Bool
 | .take k=>decide (k<H.tb.length)&&(match KN (H.cls k) ((H.j4 t).li k)with
  | (some y,_)=>i63 y
  | (none,_)=>true)
 | .cJ k _=>decide (k<H.tb.length)&&(QE (H.eM t) (k:Int) != 0 || !(YP (H.eM t) (k:Int)).isEmpty)
 | .cL _ _=>true
 | .grow _ _=>true
 | .fill=>match (H.j4 t).bQ with
  | (k,x::xs)::_=>decide (k<H.tb.length)&&(i63 x&&decide (((H.j4 t).li k).os.length+xs.length<=256))
  | _=>false
 | .eO m=>decide (QD (H.eM t) H.sp (m:Int) 1<=1000000)
 | .find x=>i63 x&&((bU H.live x).isSome&&decide (0<=x))
 | .put k _=>decide (k<H.tb.length) && !(H.j4 t).bQ.isEmpty
 | .back=>match (H.j4 t).bQ with
  | (_,xs)::_=>(xs.all λx=>i63 x&&decide (0<=Yf H.bY x))&&decide (xs.length<=1000000)
  | _=>false
 | .dH _ a=>decide (0<=a)&&(decide (a.toNat<H.bY.length)&&H.bY.all λA=>A.runs.all λr=>decide (r.1<=1000000))
 | .drain=>true
theorem AU {x:Int}(h:i63 x=true):iP x:=by
 unfold i63 at h;unfold iP;exact uE h
theorem ω {H:Hw}{t:Nat}{p:Ph}(h:qQ H t p=true):vu H t p:=by
 cases p with
 | take k=>
  simp only[qQ,zF,zV]at h;refine⟨h.1,λy l z=>?_⟩;have g:=h.2;rw[z]at g;exact AU g
 | cJ k w=>
  simp only[qQ,zF,zV,nO]at h;refine⟨h.1,λu d=>?_⟩;rw[u,d]at h;simp at h
 | cL k w=>trivial
 | grow k w=>trivial
 | fill=>
  simp only[qQ]at h;split at h
  ·rename_i k x xs r hh;simp only[zF,zV]at h;exact⟨k,x,xs,r,hh,h.1,AU h.2.1,h.2.2⟩
  ·cases h
 | eO m=>
  simp only[qQ,zV]at h;exact h
 | find x=>
  simp only[qQ,zF,zV]at h;exact⟨AU h.1,λj=>by rw[j]at h;simp at h,λb _=>h.2.2⟩
 | put k x=>
  simp only[qQ,zF,zV]at h;exact⟨h.1,λd=>by rw[d]at h;simp at h⟩
 | back=>
  simp only[qQ]at h;split at h
  ·rename_i k xs r hh;simp only[zF,zV,ko]at h;exact⟨k,xs,r,hh,λx i=>⟨AU (h.1 x i).1,(h.1 x i).2⟩,h.2⟩
  ·cases h
 | dH s a=>
  simp only[qQ,zF,zV,ko]at h;exact⟨h.1,h.2.1,h.2.2⟩
 | drain=>trivial
def qm:Nat->Hw->Nat->Ph->Option (Hw×Int×Int)
 | 0,_,_,_=>none
 | n+1,H,t,p=>if qQ H t p&&decide ((H.j4 t).bQ.length<=900)then(match (WG H t p).2.1 with
  | none=>some (Kd H t p,(WG H t p).2.2.1,(WG H t p).2.2.2)
  | some p'=>qm n (Kd H t p) t p')else none
theorem EH:∀{n:Nat} {H:Hw} {t:Nat} {p:Ph} {r:Hw×Int×Int},qm n H t p=some r->∃m,iK m H t p r.1 r.2.1 r.2.2
 | 0,_,_,_,_,h=>by simp[qm]at h
 | n+1,H,t,p,r,h=>by
  rw[qm]at h;split at h
  ·rename_i hc;simp only[zF,zV]at hc;have hok:wy H t p:=⟨ω hc.1,λg a=>by rw[←G3 a];exact hc.2⟩;split at h
   ·rename_i hn;cases h;exact⟨1,.done hok hn⟩
   ·rename_i p' hs;obtain⟨m,b⟩:=EH h;exact⟨m+1,.next hok hs b⟩
  ·cases h
def UY (H:Hw)(thread kind size align addr:Int):Option (Hw×Int×Int):=match Vd H thread kind size align addr with
 | .inl e=>if e=0 then none else some (H,0,e)
 | .inr (t,p)=>qm 40 (eX H t (some p)) t p
theorem IN {H:Hw}{thread kind size align addr:Int}{r:Hw×Int×Int}(h:UY H thread kind size align addr=some r):KK H thread kind size align addr r.1 r.2.1 r.2.2:=by
 unfold UY at h;split at h
 ·rename_i e he;split at h
  ·cases h
  ·rename_i hne;cases h;exact .inl ⟨he,hne,rfl,rfl⟩
 ·rename_i t p he;obtain⟨m,a⟩:=EH h;exact .inr ⟨t,p,m,he,a⟩
def F7:List cA:=(rZ 8).map QI
def w0:Hw:=Uo F7 ⟨64,1,1,1024,2⟩
theorem wO:Uo ((rZ 8).map QI) ⟨(64:Int).toNat,(1:Int).toNat,(1:Int).toNat,(1024:Int).toNat,(2:Int).toNat⟩=w0:=rfl
end Go.Ar
namespace Go.Ar
open Go Go.Vc Go.Proofs
variable {U u u':Hp}{F:Rg}{L:dE}{H H':Hw}{N:Nat}
attribute [local irreducible] w0 F7
theorem Ru (g:Gl U)(gd:Gd U){R:Option Addr->Hp->Prop}(hR:∀σ' L N,aF U σ'->U.size<=N->N<=σ'.size->HH σ' (λb=>N<=b) L w0->R (some ⟨L.p,0,none⟩) σ'):XO.c U R:=by
 refine XO.o ?_;unfold XO.v;refine WM.o ?_;unfold WM.v;refine nw (cs:=[.int .i64 8,.int .i64 64,.int .i64 1,.int .i64 1,.int .i64 1024,.int .i64 2]) λv y e m=>m.rI rfl ?_;refine Ey 8 aB aB λs u e1 r=>?_;have a:=e1.bV m id;have d:=e.trans e1;refine a.fL rfl (a.fL rfl (a.fL rfl (a.fL rfl (a.fL rfl ?_))));refine CM r (g.bP d) (gd.bP d) 64 1 1 1024 2 (λi=>?_) (λ_ w=>?_) λ_ _ x L e2 j=>?_
 ·have:=GQ 8 aB aB;rw[show((8:Nat):Int)=8 from rfl]at this;rw[this]at i;cases i
 ·exact absurd w aB
 ·rw[wO]at j;exact cD rfl (hR x L u.size (d.trans e2) d.1 e2.1 j)
end Go.Ar
namespace Go.Proofs
open Go.Vc
set_option maxRecDepth 100000
def Yv.h:Hn:=.q .o1 (.q (.q .o3 .aK) (.q .o1 (.q (.q .o8 (.k (.loop [(3,.one .s),(16,.I)] (.q .o1 (.q (.c .l .l) (.q (.k (.q .o3 (.o 11))) .o2)))))) .aL)))
def Yv.v (a:R2)(b:Hp)(c:Sl->Hp->Prop):Prop:=Xm.c a b λd e=>If (!d) (c ⟨none,0,0⟩ e) (bJ a 1 e λg=>ZB.c g e λh i=>Kl.c h i λj k=>X6 [.s,bO] (λl=>l ⟨none,0,0⟩ 0 k) λm (n:Sl) (o:Int) p=>If (o<((j.len:Nat):Int)) (Ix j.a j.len o 1 λq=>bN q p λr=>bW a λs=>bC s 1 p λt=>Lk .i64 (.ag 5) t r p λu=>aV #[.I ((u.getD (0,0,0,0,0)).1),.I ((u.getD (0,0,0,0,0)).2.1),.I ((u.getD (0,0,0,0,0)).2.2.1),.I ((u.getD (0,0,0,0,0)).2.2.2.1)] 48 p λv w=>App n 4 32 48 [.I 0,.I 0,.I 0,.I 0] ⟨some v,1,1⟩ w λx y=>bM (o+1) λz=>m x z y) (c n p))
theorem Yv.o {a b c}(d:Yv.v a b c):Yv.c a b c:=Wa Tryz.func33 (x:=Yv.h) (R0 d)
def Kf.h:Hn:=.q .o2 (.q (.q .o3 .aJ) (.q .o7 .l))
def Kf.v (a:R2)(b:Hp)(c:Option Addr->Int->Hp->Prop):Prop:=Q8.c a b λd e=>If (!d) (c none 1 e) (Nw (.map #[] 0) e λf g=>Nw (.map #[] 0) g λh i=>aV #[.pointer a,.map (some f.block),.map (some h.block),.I 0] 75 i λj k=>c (some j) 0 k)
theorem Kf.o {a b c}(d:Kf.v a b c):Kf.c a b c:=Wa Tryz.func38 (x:=Kf.h) (R0 d)
def XE.h:Hn:=.q .o1 (.q (.q .o3 .aK) (.q .o5 .l))
def XE.v (a:R2)(b:Hp)(c:Option Addr->Hp->Prop):Prop:=Xm.c a b λd e=>If (!d) (c none e) (bG a 0 e λg=>c g e)
theorem XE.o {a b c}(d:XE.v a b c):XE.c a b c:=Wa Tryz.func43 (x:=XE.h) (R0 d)
def Yc.h:TX:=.nx (.o 3) (.nx (.seq (.o 3) (.cond (.seq (.o 2) (.leaf)) (.leaf))) (.nx (.seq (.cU (.seq [.op,.op,.op,.cY false 2 [.op,.op],.op,.cY false 2 [.op,.op],.op,.cY false 2 [.op,.op],.op,.cY false 5 [.op,.op,.op,.op,.op]])) (.cond (.seq (.o 2) (.leaf)) (.leaf))) (.nx (.o 3) (.nx (.o 5) (.nx (.cU (.held true [] (.take 0 (.take 1 (.take 2 (.take 3 (.take 4 (.take 5 (.take 6 (.take 10 (.all [(7,.take 8 (.take 9 (.all [(11,.take 12 (.take 13 (.take 14 (.take 15 (.take 16 (.done))))))])))]))))))))))) (.nx (.seq (.o 2) (.cond (.seq (.o 3) (.leaf)) (.leaf))) (.nx (.o 8) (.nx (.o 16) (.nx (.o 12) (.r1 (.o 2) bO (.block (.cU (.held true [] (.take 0 (.take 1 (.take 2 (.take 3 (.take 4 (.take 5 (.all [(6,.all [(7,.done)])])))))))))) (.seq (.o 3) (.seq (.cU (.held true [8] (.take 0 (.take 1 (.take 2 (.take 3 (.take 4 (.take 5 (.take 6 (.take 7 (.all [(8,.done)]))))))))))) (.seq (.o 5) (.leaf))))))))))))))
def Yc.v (a:R2)(b c d:Int)(e:Hp)(f:Int->Int->Hp->Prop):Prop:=aV #[.pointer a] 50 e λg h=>fY g h λi=>Xm.c i h λj k=>If (!j) (f 0 5 k) (bX (λl m=>bX (λn o=>bX (λp q=>bX (λr s=>If r (f 0 1 s) (aV #[.I 0,.I 0,.I 0,.I 0,.I 0] 106 s λt u=>aR t 0 (.I 0) u λv=>aR t 1 (.I c) v λw=>aR t 2 (.I 0) w λx=>aR t 3 (.I 0) x λy=>aR t 4 (.I 0) y λz=>dY z λaa=>gG aa .p g λ(ab:R2)=>bW ab λac=>aU aa ac 0 λad=>aS aa t 0 λae=>aS aa t 1 λaf=>aS aa t 2 λag=>aS aa t 3 λah=>aS aa t 4 λai=>XG.c ae af ag ah ai z λaj ak=>And (aa ak) <| bM ((if 16>d then 16 else d)+aj) λal=>bM (al+16) λam=>Zc.c ad b am (if 16>d then 16 else d) ak λan ao ap=>And (aa ap) <| If (ao != 0) (f 0 ao ap) (fY g ap λaq=>bE aq 3 ap λau=>bM (au+1) λav=>bW aq λaw=>aR aw 3 (.I av) ap λax=>fY g ax λay=>bE ay 3 ax λa0=>bM (an+(if 16>d then 16 else d)) λa1=>aR t 4 (.I a0) ax λa2=>dX ((t.add 0).add 2) (.I an) a2 λa3=>dX ((t.add 0).add 0) (.I a1) a3 λa4=>fY g a4 λa5=>bG a5 0 a4 λa7=>XV.c a7 an a4 λa8 a9 ba=>dX ((t.add 0).add 3) (.I a8) ba λbb=>aQ t 0 bb λbc=>aQ t 1 bb λbd=>aQ t 2 bb λbe=>aQ t 3 bb λbf=>aQ t 4 bb λbg=>
 X5.c bc bd be bf bg bb λbh bi=>C2 Tryz.prog (e1 bO) bh bi (λ(bj:Int) bk bl=>dY bl λbm=>gG bm .p g λ(bn:Option Addr)=>bW bn λbo=>aU bm bo 0 λbp=>Z6.c bj bl λbq br=>And (bm br) <| Xx.c bp bj bq br λbs bt=>And (bm bt) <| bk bt) λbu=>fY g bu λbv=>aQ t 0 bu λbw=>aQ t 1 bu λbx=>aQ t 2 bu λbz=>aQ t 3 bu λb0=>aQ t 4 bu λb1=>Ys.c bv bw bx bz b0 b1 0 bu λb2=>dY b2 λb3=>gG b3 .p g λ(b4:Option Addr)=>bW b4 λb5=>gG b3 .m (b5.add 1) λ(b6:Option Nat)=>gG b3 bO ((t.add 0).add 0) λ(b7:Int)=>aS b3 t 0 λb8=>aS b3 t 1 λb9=>aS b3 t 2 λca=>aS b3 t 3 λcb=>aS b3 t 4 λcc=>kD .i64 (.ag 5) b6 b7 (b8,b9,ca,cb,cc) b2 λcd=>bN ((t.add 0).add 0) cd λce=>wj bi.size cd λcf=>f ce 0 cf))) λcg=>If p (cg true q) (bM (d-1) λch=>cg ((bits .and .i64 d ch) != 0) q)) λci=>If n (ci true o) (ci (decide (d>256)) o)) λcj=>If l (cj true m) (cj (decide (d<1)) m)) λck=>If (c<1) (ck true k) (ck (decide (c>1024)) k))
theorem Yc.o {a b c d e f}(g:Yc.v a b c d e f):Yc.c a b c d e f:=EF Tryz.func56 (x:=Yc.h) (R0 g)
def Xm.h:Hn:=.q .o1 (.q (.cU (.seq [.op,.op,.op,.cY true 5 (RI.ops 5),.op])) .l)
def Xm.v (a:R2)(b:Hp)(c:aO):Prop:=bX (λd e=>c d e) λf=>If (!a.isNone) (bG a 0 b λh=>f (!h.isNone) b) (f false b)
theorem Xm.o {a b c}(d:Xm.v a b c):Xm.c a b c:=Wa Tryz.func58 (x:=Xm.h) (R0 d)
def ZN.h:Hn:=.q .o2 (.q .o1 (.q .o2 (.q (.q .o5 (.k (.loop [(9,.one .b),(10,.one .b)] (.q (.cU (.seq [.it .i64 (.ag 5),.op])) (.q (.c .l .l) (.k (.q (.cU (.seq [.it .i64 (.ag 5),.op,.op,.op])) (.q (.q (.cU (.gI true [] [(38,.one .b)] (.tk [0,1,2,3,4,5] (.split 28 (.tk [6,7,8,9,10,11,12,13,14,15] (.done)) (.tk [6,7,8,9,10,11] (.all [(12,.tk [13,14,15] (.done))])))))) (.c .l .l)) (.q .o5 (.q (.cU (.seq [.op,.op,.op,.cY false 5 [.op,.op,.cY true 2 [.op,.op]],.op,.cY false 10 [.op,.op,.op,.op,.cY true 5 (RI.ops 5)]])) (.c .o5 .l))))))))))) (.q .o4 .l))))
def ZN.v (a:R2)(b:Int)(c:Fv)(d:Hp)(e:Int->Int->Int->Int->Int->Bool->Hp->Prop):Prop:=aV #[.I 0,.I 0,.I 0,.I 0,.I 0] 106 d λf g=>aV #[.I 0,.I 0,.I 0,.I 0,.I 0] 106 g λh i=>bJ a 1 i λk=>pz .i64 (.ag 5) k i λl m=>X6 [.b,.b] (λn=>n false false m) λo (p:Bool) (q:Bool) r=>oT .i64 (.ag 5) l r (aQ h 0 r λs=>aQ h 1 r λt=>aQ h 2 r λu=>aQ h 3 r λv=>aQ h 4 r λw=>aR f 0 (.I s) r λx=>aR f 1 (.I t) x λy=>aR f 2 (.I u) y λz=>aR f 3 (.I v) z λaa=>aR f 4 (.I w) aa λab=>aQ f 0 ab λac=>aQ f 1 ab λad=>aQ f 2 ab λae=>aQ f 3 ab λaf=>aQ f 4 ab λag=>e ac ad ae af ag p ab) (λah ai aj=>oY .i64 (.ag 5) l aj λak al=>aV #[.I 0,.I 0,.I 0,.I 0,.I 0] 106 aj λam an=>aR am 0 (.I al.1) an λao=>aR am 1 (.I al.2.1) ao λap=>aR am 2 (.I al.2.2.1) ap λaq=>aR am 3 (.I al.2.2.2.1) aq λar=>aR am 4 (.I al.2.2.2.2) ar λau=>Jn [.b] (λ(av:Bool) aw=>If av (o p q aw) (aQ am 0 aw λax=>aQ am 1 aw λay=>aQ am 2 aw λaz=>aQ am 3 aw λa0=>aQ am 4 aw λa1=>XH.c a ax ay az a0 a1 aw λa2 a3=>bX (λa4 a5=>bX (λa6 a7=>If a6 (aQ am 0 a7 λa8=>aQ am 1 a7 λa9=>aQ am 2 a7 λba=>aQ am 3 a7 λbb=>aQ am 4 a7 λbc=>aR h 0 (.I a8) a7 λbd=>
 aR h 1 (.I a9) bd λbe=>aR h 2 (.I ba) be λbf=>aR h 3 (.I bb) bf λbg=>aR h 4 (.I bc) bg λbh=>o true (!a2) bh) (o p q a7)) λbi=>If a4 (bi true a5) (bX (λbj bk=>bi bj bk) λbl=>If ((!a2)==q) (aQ am 4 a5 λbm=>aQ h 4 a5 λbn=>bl (decide (bm>bn)) a5) (bl false a5))) λbo=>If (!p) (bo true a3) (bX (λbp bq=>bo bp bq) λbr=>If (!a2) (br (!q) a3) (br false a3)))) λbs=>dY au λbt=>gG bt bO ((am.add 0).add 0) λ(bu:Int)=>If (b<bu) (bs true au) (gG bt bO ((am.add 0).add 0) λ(bv:Int)=>aS bt am 0 λbw=>aS bt am 1 λbx=>aS bt am 2 λbz=>aS bt am 3 λb0=>aS bt am 4 λb1=>VU Tryz.prog c [.agg #[.I bw,.I bx,.I bz,.I b0,.I b1]] [.I] au λb2 b3=>And (bt b3) <| bM (bv+b2) λb4=>bs (decide (b≥b4)) b3))
theorem ZN.o {a b c d e}(f:ZN.v a b c d e):ZN.c a b c d e:=Wa Tryz.func59 (x:=ZN.h) (R0 f)
def Y3.h:Hn:=.q .o1 (.q .o5 .l)
def Y3.v (a:R2)(b c:Int)(d:Hp)(e:aN):Prop:=XS.c a b c true d λf g=>e f g
theorem Y3.o {a b c d e}(f:Y3.v a b c d e):Y3.c a b c d e:=Wa Tryz.func70 (x:=Y3.h) (R0 f)
def XY.h:Hn:=.q .o2 (.q (.q .o3 .aJ) (.q (.o 12) (.q (.q .o2 .aJ) (.q (.q .o3 .aJ) (.q .o5 .l)))))
def XY.v (a:R2)(b:Int)(c:Hp)(d:Sl->Int->Hp->Prop):Prop:=Xm.c a c λe f=>If (!e) (d ⟨none,0,0⟩ 5 f) (bJ a 1 f λh=>Lk .i64 (.ag 5) h b f λi=>aV #[.I 0,.I 0,.I 0,.I 0,.I 0] 106 f λj k=>aR j 0 (.I ((i.getD (0,0,0,0,0)).1)) k λl=>aR j 1 (.I ((i.getD (0,0,0,0,0)).2.1)) l λm=>aR j 2 (.I ((i.getD (0,0,0,0,0)).2.2.1)) m λn=>aR j 3 (.I ((i.getD (0,0,0,0,0)).2.2.2.1)) n λo=>aR j 4 (.I ((i.getD (0,0,0,0,0)).2.2.2.2)) o λp=>If (!i.isSome) (d ⟨none,0,0⟩ 8 p) (aQ j 0 p λq=>aQ j 1 p λr=>aQ j 2 p λs=>aQ j 3 p λt=>aQ j 4 p λu=>XH.c a q r s t u p λv w=>If v (d ⟨none,0,0⟩ 5 w) (aQ j 0 w λx=>aQ j 1 w λy=>aQ j 2 w λz=>aQ j 3 w λaa=>aQ j 4 w λab=>XL.c a x y z aa ab w λac ad=>d ac 0 ad)))
theorem XY.o {a b c d}(e:XY.v a b c d):XY.c a b c d:=Wa Tryz.func71 (x:=XY.h) (R0 e)
def Y6.h:Hn:=.q .o2 (.q (.q .o4 (.q .o2 (.c (.q .o3 .l) .l))) (.q .fX .l))
def Y6.v (a:R2)(b:Int)(c:Hp)(d:Int->Int->Hp->Prop):Prop:=Yq.c a b c λe f=>If (e != 0) (d 0 e f) (bG a 0 f λh=>YJ.c h b f λi j k=>d i j k)
theorem Y6.o {a b c d}(e:Y6.v a b c d):Y6.c a b c d:=Wa Tryz.func76 (x:=Y6.h) (R0 e)
def Q8.h:Hn:=.q .o1 (.q (.cU (.seq [.op,.op,.op,.cY true 4 (RI.ops 4),.op])) .l)
def Q8.v (a:R2)(b:Hp)(c:aO):Prop:=bX (λd e=>c d e) λf=>If (!a.isNone) (XR.c a b λg h i j k l=>f (decide (g>0)) l) (f false b)
theorem Q8.o {a b c}(d:Q8.v a b c):Q8.c a b c:=Wa Tryz.func77 (x:=Q8.h) (R0 d)
def YA.h:Hn:=.q .o1 (.q (.q .o4 (.q .o2 .aJ)) (.q .o8 .l))
def YA.v (a:R2)(b c:Int)(d:Hp)(e:aN):Prop:=Yq.c a b d λf g=>If (f != 0) (e f g) (bG a 0 g λi=>Xx.c i b c g λj k=>e j k)
theorem YA.o {a b c d e}(f:YA.v a b c d e):YA.c a b c d e:=Wa Tryz.func78 (x:=YA.h) (R0 f)
def XG.h:Hn:=.q .o2 (.q .o8 .l)
def XG.v (a b c d e:Int)(f:Hp)(g:aN):Prop:=aV #[.I a,.I b,.I c,.I d,.I e] 106 f λh i=>bN ((h.add 0).add 1) i λj=>bM (j+8) λk=>bM (k-1) λl=>Nz 8<|bM (l.tdiv 8) λm=>bM (m*8) λn=>g n i
theorem XG.o {a b c d e f g}(h:XG.v a b c d e f g):XG.c a b c d e f g:=Wa Tryz.func98 (x:=XG.h) (R0 h)
def X5.h:Hn:=.q .o2 .aL
def X5.v (a b c d e:Int)(f:Hp)(g:Fv->Hp->Prop):Prop:=aV #[.I a,.I b,.I c,.I d,.I e] 106 f λh i=>g ⟨156,#[],#[.pointer (some h)]⟩ i
theorem X5.o {a b c d e f g}(h:X5.v a b c d e f g):X5.c a b c d e f g:=Wa Tryz.func100 (x:=X5.h) (R0 h)
def Z6.h:Hn:=.q .o1 (.q .o4 .l)
def Z6.v (a:Int)(b:Hp)(c:aN):Prop:=bM (0-a) λd=>bM (d-1) λe=>c e b
theorem Z6.o {a b c}(d:Z6.v a b c):Z6.c a b c:=Wa Tryz.func101 (x:=Z6.h) (R0 d)
def Ys.h:Hn:=.q .o1 (.q .o1 (.k (.loop [(6,.I)] (.q (.q .o4 (.c .l .l)) (.q (.k (.cU (.tail 10 (RI.ops 10) [.op]))) .o3)))))
def Ys.v (a:R2)(b c d e f g:Int)(h:Hp)(i:aP):Prop:=aV #[.I b,.I c,.I d,.I e,.I f] 106 h λj k=>X6 [bO] (λl=>l 0 k) λm (n:Int) o=>aQ j 0 o λp=>aQ j 1 o λq=>aQ j 2 o λr=>aQ j 3 o λs=>aQ j 4 o λt=>XG.c p q r s t o λu v=>If (n<u) (bG a 0 v λx=>bN ((j.add 0).add 0) v λy=>bM (y+n) λz=>Xx.c x z g v λaa ab=>bM (n+8) λac=>m ac ab) (i v)
theorem Ys.o {a b c d e f g h i}(j:Ys.v a b c d e f g h i):Ys.c a b c d e f g h i:=Wa Tryz.func102 (x:=Ys.h) (R0 j)
def XH.h:Hn:=.q .o2 (.q (.cU (.held true [7] (.tk [0,1,2,3,4,5,6] (.all [(7,.tk [8,9,10,11,12] (.done))])))) (.q (.cU (.seq [.op,.op,.op,.cY false 5 (RI.ops 5),.op])) .l))
def XH.v (a:R2)(b c d e f:Int)(g:Hp)(h:aO):Prop:=aV #[.I b,.I c,.I d,.I e,.I f] 106 g λi j=>dY j λk=>bW a λl=>aU k l 0 λm=>gG k bO ((i.add 0).add 2) λ(n:Int)=>XV.c m n j λo p q=>bX (λr s=>h r s) λt=>If (p != 0) (t true q) (bN ((i.add 0).add 3) q λu=>t (o != u) q)
theorem XH.o {a b c d e f g h}(i:XH.v a b c d e f g h):XH.c a b c d e f g h:=Wa Tryz.func103 (x:=XH.h) (R0 i)
def Zh.h:Hn:=.q .o1 (.q .o5 .l)
def Zh.v (a:R2)(b c:Int)(d:Hp)(e:aN):Prop:=XS.c a b c false d λf g=>e f g
theorem Zh.o {a b c d e}(f:Zh.v a b c d e):Zh.c a b c d e:=Wa Tryz.func109 (x:=Zh.h) (R0 f)
def XS.h:Hn:=.q .o1 (.q (.q .o3 .aK) (.q (.q .o4 (.q .o2 .aJ)) (.q (.o 12) (.q (.k (.q (.cU (.seq [.op,.op,.op,.cY true 6 (RI.ops 6),.op])) (.c .aM (.q .o3 (.c .aM (.q .o4 (.c .aM (.q (.cU (.seq [.op,.op,.cY true 5 (RI.ops 5),.op])) .aK)))))))) (.q .o3 (.q .o6 (.q .o6 (.q (.cU (.tail 8 (RI.ops 8) [.op])) .aM))))))))
def XS.v (a:R2)(b c:Int)(d:Bool)(e:Hp)(f:aN):Prop:=Xm.c a e λg h=>If (!g) (f 5 h) (YM.c a b h λi j=>If (i != 0) (f i j) (bJ a 1 j λl=>Lk .i64 (.ag 5) l c j λm=>aV #[.I 0,.I 0,.I 0,.I 0,.I 0] 106 j λn o=>aR n 0 (.I ((m.getD (0,0,0,0,0)).1)) o λp=>aR n 1 (.I ((m.getD (0,0,0,0,0)).2.1)) p λq=>aR n 2 (.I ((m.getD (0,0,0,0,0)).2.2.1)) q λr=>aR n 3 (.I ((m.getD (0,0,0,0,0)).2.2.2.1)) r λs=>aR n 4 (.I ((m.getD (0,0,0,0,0)).2.2.2.2)) s λt=>bX (λu v=>If u (f 9 v) (If (!m.isSome) (f 8 v) (aQ n 0 v λw=>aQ n 1 v λx=>aQ n 2 v λy=>aQ n 3 v λz=>aQ n 4 v λaa=>XH.c a w x y z aa v λab ac=>If ab (f 5 ac) (bX (λad ae=>If ad (f 10 ae) (aQ n 0 ae λaf=>aQ n 1 ae λag=>aQ n 2 ae λah=>aQ n 3 ae λai=>aQ n 4 ae λaj=>Ys.c a af ag ah ai aj (-1234567) ae λak=>bJ a 1 ak λam=>mn .i64 (.ag 5) am c ak λan=>bJ a 2 an λap=>kD .i64 .b ap c true an λaq=>bG a 0 aq λau=>bN ((n.add 0).add 2) aq λav=>ZJ.c au b av aq λaw ax=>f 0 ax)) λay=>If d (aQ n 0 ac λaz=>aQ n 1 ac λa0=>aQ n 2 ac λa1=>aQ n 3 ac λa2=>aQ n 4 ac λa3=>XL.c a az a0 a1 a2 a3 ac λa4 a5=>ay (decide (((a4.len:Nat):Int)>0)) a5) (ay false ac))))) λa6=>If (!m.isSome) (bJ a 2 t λa8=>
 Lk .i64 .b a8 c t λa9=>a6 (a9.getD false) t) (a6 false t)))
theorem XS.o {a b c d e f}(g:XS.v a b c d e f):XS.c a b c d e f:=Wa Tryz.func118 (x:=XS.h) (R0 g)
def XL.h:TX:=.nx (.o 3) (.nx (.o 1) (.r1 (.o 2) bO (.block (.seq (.o 11) (.seq (.cU (.seq [.op,.op,.op,.cY false 4 [.op,.op,.op,.op]])) (.cond (.o 5) (.leaf))))) (.seq (.o 2) (.leaf))))
def XL.v (a:R2)(b c d e f:Int)(g:Hp)(h:Sl->Hp->Prop):Prop:=aV #[.pointer a] 50 g λi j=>aV #[.I b,.I c,.I d,.I e,.I f] 106 j λk l=>aV #[.slice none 0 0] 31 l λm n=>aQ k 0 n λo=>aQ k 1 n λp=>aQ k 2 n λq=>aQ k 3 n λr=>aQ k 4 n λs=>X5.c o p q r s n λt u=>C2 Tryz.prog (e1 bO) t u (λ(v:Int) w x=>fY i x λy=>bG y 0 x λaa=>YJ.c aa v x λab ac ad=>bX (λae af=>If ae (jG m af λag=>aV #[.I v] 3 af λah ai=>App ag 1 8 3 [.I 0] ⟨some ah,1,1⟩ ai λaj ak=>dX m (.slice aj.a aj.len aj.cap) ak λal=>w al) (w af)) λam=>If (ac != 0) (am true ad) (Z6.c v ad λan ao=>am (ab != an) ao)) λap=>jG m ap λaq=>wj u.size ap λar=>h aq ar
theorem XL.o {a b c d e f g h}(i:XL.v a b c d e f g h):XL.c a b c d e f g h:=EF Tryz.func119 (x:=XL.h) (R0 i)
def Yq.h:Hn:=.q .o1 (.q (.q .o3 .aK) (.q .o9 (.q (.k (.q (.cU (.seq [.op,.op,.op,.cY false 3 (RI.ops 3),.op])) (.c .aM (.q .o4 .aK)))) .aM)))
def Yq.v (a:R2)(b:Int)(c:Hp)(d:aN):Prop:=Xm.c a c λe f=>If (!e) (d 5 f) (ZN.c a b ⟨98,#[],#[]⟩ f λg h i j k l m=>aV #[.I 0,.I 0,.I 0,.I 0,.I 0] 106 m λn o=>aR n 0 (.I g) o λp=>aR n 1 (.I h) p λq=>aR n 2 (.I i) q λr=>aR n 3 (.I j) r λs=>aR n 4 (.I k) s λt=>bX (λu v=>If u (d 7 v) (aQ n 0 v λw=>aQ n 1 v λx=>aQ n 2 v λy=>aQ n 3 v λz=>aQ n 4 v λaa=>XH.c a w x y z aa v λab ac=>If ab (d 5 ac) (d 0 ac))) λad=>If (!l) (ad true t) (Nz 8 <| ad ((b.tmod 8) != 0) t))
theorem Yq.o {a b c d}(e:Yq.v a b c d):Yq.c a b c d:=Wa Tryz.func123 (x:=Yq.h) (R0 e)
def cI.tg (l:Nat)(cap0:Addr)(U:Hp)(R:aP):Prop:=Dk Tryz.prog 156 #[.func (.yield l) #[] #[],.pointer (some cap0)] U R
def cI.xq:Hn:=.seq (.seq (.o 4) (.block (.loop [(3,.one bO)] (.seq (.seq (.o 5) (.cond (.leaf) (.leaf))) (.seq (.block (.seq (.leaf) (.cond (.leaf) (.leaf)))) (.o 3)))))) (.seq (.cU (.held true [] (.tk [0,1,2,3] (.all [(4,.take 5 (.take 6 (.done)))])))) (.block (.loop [(4,.one bO)] (.seq (.seq (.o 10) (.cond (.leaf) (.leaf))) (.seq (.block (.seq (.leaf) (.cond (.leaf) (.leaf)))) (.o 3))))))
def cI.wK (l:Nat)(cap0:Addr)(U:Hp)(R:aP):Prop:=
 gM .i64 ((cap0.add 0).add 2) U λvw=>
 X6 [bO] (λI=>I vw U) λJ (vw1:Int) v=>
 gM .i64 ((cap0.add 0).add 0) v λt11=>
 If (decide (vw1<t11)) (H8 Tryz.prog l [.int .i64 vw1] v λmore v1=>
  If (!more) (R v1)
   (Ar .i64 (vw1+8) λvw2=>
   J vw2 v1))
  (dY v λS=>
  gG S bO ((cap0.add 0).add 0) λ(t21:Int)=>
  gG S bO (cap0.add 0) λ(t22:Int)=>
  gG S bO (cap0.add 1) λ(t221:Int)=>
  gG S bO (cap0.add 2) λ(t222:Int)=>
  gG S bO (cap0.add 3) λ(t223:Int)=>
  gG S bO (cap0.add 4) λ(t224:Int)=>
  XG.c t22 t221 t222 t223 t224 v λt23 v2=>
  And (S v2) <|
  Ar .i64 (t21+t23) λvw3=>
  X6 [bO] (λI1=>I1 vw3 v2) λJ1 (vw4:Int) v3=>
  Ar .i64 (vw4+8) λt26=>
  gM .i64 ((cap0.add 0).add 2) v3 λt29=>
  gM .i64 ((cap0.add 0).add 3) v3 λt32=>
  Ar .i64 (t29+t32) λt33=>
  If (decide (t26<=t33)) (H8 Tryz.prog l [.int .i64 vw4] v3 λmore1 v4=>
   If (!more1) (R v4)
    (Ar .i64 (vw4+8) λvw5=>
    J1 vw5 v4))
   (R v3))
theorem cI.ud {l:Nat}{cap0:Addr}{U:Hp}{R:aP}(hv:cI.wK l cap0 U R):cI.tg l cap0 U R:=
 SZ Tryz.func156 (x:=cI.xq) (args:=[.func (.yield l) #[] #[],.pointer (some cap0)]) (R:=R) (R0 hv)
def YM.h:Hn:=.q .o1 (.q (.q (.cU (.seq [.op,.op,.op,.cY false 8 (RI.ops 8)])) .aK) (.q (.q .o7 .aK) .aM))
def YM.v (a:R2)(b:Int)(c:Hp)(d:aN):Prop:=bX (λe f=>If e (d 1 f) (bG a 0 f λh=>YX.c h b f λi j=>If (!(i.toList==(ByteArray.mk #[]).toList)) (d 5 j) (d 0 j))) λk=>If (b<0) (k true c) (bG a 0 c λm=>XR.c m c λn o p q r s=>k (decide (b≥p)) s)
theorem YM.o {a b c d}(e:YM.v a b c d):YM.c a b c d:=Wa Tryz.func162 (x:=YM.h) (R0 e)
end Go.Proofs
namespace Go.Ar
open Go Go.Vc Go.Proofs
open Go.Vc (bU dA cO)
variable {U σ0 v w w':Hp}{F P Q X T:Rg}{L:dE}{H H':Hw}{held:List Pc}{s0 sp:Sp}{t n:Nat}{g:Th}{gb km fm m:Nat}
theorem gL {S:aP}{b i:Nat}{cs:List Value}{c:CK}{y:c.T}(hS:∀m,S m->bZ m b cs)(hc:cs[i]?=some (c.v y)){K:c.T->Prop}(hK:K y):gG S c (Addr.add ⟨b,0,none⟩ i) K:=
 ⟨y,λm a=>by rw[add_lit,(hS m a).cell,zH];exact hc,hK⟩
theorem rj {S:aP}{b:Nat}{cs:List Value}{c:CK}{y:c.T}(hS:∀m,S m->bZ m b cs)(hc:cs[0]?=some (c.v y)){K:c.T->Prop}(hK:K y):gG S c ⟨b,0,none⟩ K:=
 ⟨y,λm a=>by rw[(hS m a).cell];exact hc,hK⟩
theorem qv {S:aP}{b i j:Nat}{cs:List Value}{c:CK}{y:c.T}(hS:∀m,S m->bZ m b cs)(hc:cs[i+j]?=some (c.v y)){K:c.T->Prop}(hK:K y):gG S c (Addr.add (Addr.add ⟨b,0,none⟩ i) j) K:=
 ⟨y,λm a=>by rw[add_lit,add_lit,(hS m a).cell,zH];exact hc,hK⟩
abbrev B5:=Int×Int×Int×Int×Int
def fQ (b:B5):List Value:=[.int .i64 b.1,.int .i64 b.2.1,.int .i64 b.2.2.1,.int .i64 b.2.2.2.1,.int .i64 b.2.2.2.2]
def ZE (n:Int):Int:=(n+7)/8*8
structure gT (b:B5):Prop where
 s:1<=b.2.1/\b.2.1<=1024
 base:0<=b.2.2.1/\b.2.2.1%8=0
 z:16<=b.1-b.2.2.1/\b.1-b.2.2.1<=256/\b.1%8=0
 t:b.1+ZE b.2.1+16<=b.2.2.1+b.2.2.2.1/\b.2.2.2.1%8=0
 m:b.2.2.1+b.2.2.2.1<=270000
theorem ZU {n:Int}(h:0<=n):n<=ZE n/\ZE n<=n+7/\ZE n%8=0:=by unfold ZE;omega
structure Gu where
 kn:List (Int×B5)
 fr:List (Int×Bool)
 no:Int
def qj:Gu:=⟨[],[],0⟩
def VK (b:B5):Nat:=(b.1-b.2.2.1).toNat/8
def oF (b:B5):Nat:=(b.2.2.1+b.2.2.2.1-b.1-ZE b.2.1).toNat/8
def Zg (b:B5):List Int:=((List.range (VK b)).map λ(i:Nat)=>b.2.2.1+8*(i:Int))++(List.range (oF b)).map λ(i:Nat)=>b.1+ZE b.2.1+8*(i:Int)
theorem Gi (b:B5):(Zg b).length=VK b+oF b:=by unfold Zg;simp
theorem Mf {b:B5}{i:Nat}(h:i<VK b):(Zg b)[i]?=some (b.2.2.1+8*(i:Int)):=by
 unfold Zg;rw[zd (by simpa using h)];simp[h]
theorem Oo {b:B5}{i:Nat}(h:i<oF b):(Zg b)[VK b+i]?=some (b.1+ZE b.2.1+8*(i:Int)):=by
 unfold Zg;rw[zp aA];simp[h]
theorem Gg {b:B5}(bi:gT b){z:Int}(hz:z∈Zg b):b.2.2.1<=z/\z%8=0/\z+8<=b.2.2.1+b.2.2.2.1/\(z+8<=b.1\/b.1+ZE b.2.1<=z):=by
 obtain⟨s,⟨a,j⟩,⟨r,d,p⟩,⟨t,g⟩,m⟩:=bi;have u:=ZU (n:=b.2.1) O;unfold Zg at hz;rcases zK.1 hz with h|h
 ·obtain⟨i,hi,rfl⟩:=zD.1 h;have:=zg.1 hi;unfold VK at this;exact⟨O,O,O,.inl O⟩
 ·obtain⟨i,hi,rfl⟩:=zD.1 h;have:=zg.1 hi;unfold oF at this;exact⟨O,O,O,.inr O⟩
def jy (z:Int):Int:=-z-1
def sM (hp km fm:Nat)(x:Gu):List Value:=[.pointer (some ⟨hp,0,none⟩),.map (some km),.map (some fm),.int .i64 x.no]
structure GP (σ0 U:Hp) (L:dE) (H:Hw) (held:List Pc) (s0:Sp) (P:Rg) (gb km fm:Nat) (x:Gu):Prop where
 e:aF σ0 U
 h:HH U P L H
 hi:HI H held s0
 cf:jk H
 pg:H.cf.aG<=128
 pP:∀b,P b->σ0.size<=b/\b<U.size
 rp:σ0.size<=gb/\¬P gb
 sJ:σ0.size<=km/\¬P km
 sH:σ0.size<=fm/\¬P fm
 n1:gb≠km
 n2:gb≠fm
 n3:km≠fm
 b:bZ U gb (sM L.p km fm x)
 m:dJ U km .i64 (.ag 5) x.kn
 f:dJ U fm .i64 .b x.fr
 g0:jf (λb=>σ0.size<=b)/\¬σ0.size<=1
variable {x y:Gu}
theorem GP.fr (p:GP σ0 U L H held s0 P gb km fm x)(e:aF U w):GP σ0 w L H held s0 P gb km fm x:=
 ⟨p.e.trans e,p.h.bP e,p.hi,p.cf,p.pg,λb a=>⟨(p.pP b a).1,by have:=(p.pP b a).2;have:=e.1;omega⟩,p.rp,p.sJ,p.sH,p.n1,p.n2,p.n3,e.bV p.b id,e.fV p.m id,e.fV p.f id,p.g0⟩
theorem GP.out (p:GP σ0 U L H held s0 P gb km fm x)(e:Ext T U w)(hT:∀b,b<U.size->T b->¬P b/\b≠gb/\b≠km/\b≠fm/\σ0.size<=b):GP σ0 w L H held s0 P gb km fm x:=by
 have s:=e.1;have a:=p.b.lt;have j:=p.m.lt;have g:=p.f.lt;have i:Ext (λb=>T b/\b<U.size) U w:=⟨e.1,λb a g=>e.2 b a λd=>g ⟨d,a⟩⟩;refine⟨Ext.dQ p.e i λb a=>.inr (hT b a.2 a.1).2.2.2.2,p.h.bS i (λb a r d=>(hT b a d.1).1 r) (λb a=>?_) (λa=>?_),p.hi,p.cf,p.pg,λb a=>⟨(p.pP b a).1,by have:=(p.pP b a).2;omega⟩,p.rp,p.sJ,p.sH,p.n1,p.n2,p.n3,e.bV p.b λd=>(hT gb a d).2.1 rfl,e.fV p.m λd=>(hT km j d).2.2.1 rfl,e.fV p.f λd=>(hT fm g d).2.2.2.1 rfl,p.g0⟩
 ·exact p.g0.1 b (hT b a.2 a.1).2.2.2.2
 ·exact p.g0.2 (hT _ a.2 a.1).2.2.2.2
theorem GP.step (p:GP σ0 U L H held s0 P gb km fm x){ts':List eP}(e:Ext P U w)(h':HH w (Grow P U) {L with ts:=ts'} H'){held':List Pc}{s0':Sp}(hi':HI H' held' s0')(k:Q0 H' H) :
 GP σ0 w {L with ts:=ts'} H' held' s0' (Cut (Grow P U) w) gb km fm x:=by
 have u:=e.1;have a:=p.b.lt;have r:=p.m.lt;have s:=p.f.lt;have d:∀b,b<U.size->¬P b->¬Cut (Grow P U) w b:=λb g i j=>by
  rcases j.1 with h3|h3
  ·exact i h3
  ·omega
 refine⟨Ext.dQ p.e e λb a=>.inr (p.pP b a).1,h'.cut,hi',p.cf.bS k,by rw[k.2.1];exact p.pg,λb a=>⟨?_,a.2⟩,⟨p.rp.1,d gb a p.rp.2⟩,⟨p.sJ.1,d km r p.sJ.2⟩,⟨p.sH.1,d fm s p.sH.2⟩,p.n1,p.n2,p.n3,e.bV p.b p.rp.2,e.fV p.m p.sJ.2,e.fV p.f p.sH.2,p.g0⟩;have:=p.e.1;rcases a.1 with g|g
 ·exact(p.pP b g).1
 ·omega
theorem GP.eY (p:GP σ0 U L H held s0 P gb km fm x)(e:Ext (λb=>b=gb\/b=km\/b=fm) U w)(hb:bZ w gb (sM L.p km fm y))(hm:dJ w km .i64 (.ag 5) y.kn)(hf:dJ w fm .i64 .b y.fr):GP σ0 w L H held s0 P gb km fm y:=by
 have i:=e.1;have a:∀b,(b=gb\/b=km\/b=fm)->σ0.size<=b/\¬P b:=λb hb=>by
  rcases hb with rfl|rfl|rfl
  ·exact p.rp
  ·exact p.sJ
  ·exact p.sH
 exact⟨Ext.dQ p.e e λb hb=>.inr (a b hb).1,p.h.bS e (λb _ g d=>(a b d).2 g) (λb hb=>p.g0.1 b (a b hb).1) (λhb=>p.g0.2 (a _ hb).1),p.hi,p.cf,p.pg,λb hb=>⟨(p.pP b hb).1,by have:=(p.pP b hb).2;omega⟩,p.rp,p.sJ,p.sH,p.n1,p.n2,p.n3,hb,hm,hf,p.g0⟩
theorem Hi (p:GP σ0 U L H held s0 P gb km fm x){R:aO}(hR:R true U):Xm.c (aW gb) U R:=by
 refine Xm.o ?_;unfold Xm.v;exact bX.intro (cF rfl (bL (p.b.rP rfl hR)))
theorem H7 (b:B5)(h0:0<=b.2.1)(h1:b.2.1<=1000000){R:aN}(hR:∀σ',aF U σ'->R (ZE b.2.1) σ'):XG.c b.1 b.2.1 b.2.2.1 b.2.2.2.1 b.2.2.2.2 U R:=by
 refine XG.o ?_;unfold XG.v;refine nw (cs:=fQ b) λv d e a=>a.fL rfl (ar O O (ar O O (nz aB (ar (by rw[YR O];omega) (by rw[YR O];omega) ?_))));rw[YR O];refine ar O O ?_;have:(b.2.1+8-1)/8*8=ZE b.2.1:=by unfold ZE;omega
 rw[this];exact hR v e
theorem J5 (z:Int)(h0:0<=z)(h1:z<=1000000){R:aN}(hR:R (jy z) U):Z6.c z U R:=by
 refine Z6.o ?_;unfold Z6.v;refine ar O O (ar O O ?_);have:0-z-1=jy z:=by unfold jy;omega
 rw[this];exact hR
theorem IL (b:B5){R:Fv->Hp->Prop}(hR:∀σ',σ'.size=U.size+1->aF U σ'->bZ σ' U.size (fQ b)->R ⟨156,#[],#[.pointer (some ⟨U.size,0,none⟩)]⟩ σ'):X5.c b.1 b.2.1 b.2.2.1 b.2.2.2.1 b.2.2.2.2 U R:=by
 refine X5.o ?_;unfold X5.v;exact nw (cs:=fQ b) λv d e a=>hR v d e a
theorem Ie {P:Program}{l:Nat}{args:List Value}{h:Hp}{R R':Bool->Hp->Prop}(hy:H8 P l args h R)(hm:∀b w,R b w->R' b w):H8 P l args h R':=λw u=>by
 obtain⟨j,a,s,r,i,d⟩:=hy w u;exact⟨j,a,s,r,i,d.mono λe x ⟨m,b,g,p⟩=>⟨m,b,g,hm _ _ p⟩⟩
theorem Fo {b:B5}(bi:gT b):xE Tryz.prog ⟨156,#[],#[.pointer (some ⟨n,0,none⟩)]⟩ ((Zg b).map (e1 bO)) (λs=>bZ s n (fQ b)):=by
 intro l J hst hKp hy h h0;obtain⟨s,⟨H,P⟩,⟨R,Q,L⟩,⟨t,K⟩,M⟩:=bi;have N:=ZU (n:=b.2.1) O;have D:(VK b:Int)*8=b.1-b.2.2.1:=by unfold VK;omega
 have F:(oF b:Int)*8=b.2.2.1+b.2.2.2.1-b.1-ZE b.2.1:=by unfold oF;omega
 show cI.tg l ⟨n,0,none⟩ h λG=>J ((Zg b).map (e1 bO)).length G;rw[zk,Gi];refine cI.ud ?_;unfold cI.wK;refine(hKp 0 h h0).fL rfl (Qv (a:=bO) (λ(z:Int) s=>∃i:Nat,z=b.2.2.1+8*(i:Int)/\i<=VK b/\J i s) (λz _=>(b.1-z).toNat) ⟨0,O,O,h0⟩ ?_);rintro(z:Int) s ⟨i,rfl,hi,hJ⟩;have B:=hKp i s hJ;refine B.fL rfl (cN (λx=>?_) λA=>?_)
 ·have d:i<VK b:=by omega
  have w:((Zg b).map (e1 bO))[i]?=some [Value.int .i64 (b.2.2.1+8*(i:Int))]:=by rw[zZ,Mf d];rfl
  refine Ie (hy i _ w s hJ) λC E ⟨j,g⟩=>?_;subst j;exact cD rfl (ar O O ⟨⟨i+1,O,O,g⟩,O⟩)
 ·have d:i=VK b:=by omega
  subst d;have p:∀m,aF s m->bZ m n (fQ b):=λm e=>e.bV B id;refine⟨λm=>aF s m,Ext.refl _ _,qv (c:=bO) (y:=b.1) p rfl (gL (c:=bO) (y:=b.1) p rfl (gL (c:=bO) (y:=b.2.1) p rfl (gL (c:=bO) (y:=b.2.2.1) p rfl (gL (c:=bO) (y:=b.2.2.2.1) p rfl (gL (c:=bO) (y:=b.2.2.2.2) p rfl ?_)))))⟩;refine H7 b O O λs1 r=>⟨r,ar O O ?_⟩;refine Qv (a:=bO) (λ(z:Int) s=>∃i:Nat,z=b.1+ZE b.2.1+8*(i:Int)/\i<=oF b/\J (VK b+i) s) (λz _=>(b.2.2.1+b.2.2.2.1-z).toNat) ⟨0,O,O,hst _ _ _ hJ r⟩ ?_;rintro(z:Int) s2 ⟨i,rfl,hi,hJ2⟩;have u:=hKp _ s2 hJ2;refine ar O O (u.fL rfl (u.fL rfl (ar O O (cN (λx=>?_) λA=>?_))))
  ·have d:i<oF b:=by omega
   have w:((Zg b).map (e1 bO))[VK b+i]?=some [Value.int .i64 (b.1+ZE b.2.1+8*(i:Int))]:=by rw[zZ,Oo d];rfl
   refine Ie (hy _ _ w s2 hJ2) λC E ⟨j,g⟩=>?_;subst j;exact cD rfl (ar O O ⟨⟨i+1,O,O,g⟩,O⟩)
  ·have d:i=oF b:=by omega
   subst d;exact hJ2
def UK (H:Hw)(b:B5):Bool:=!(Kx H b.2.2.1==some b.2.2.2.1)
theorem yR (p:GP σ0 U L H held s0 P gb km fm x)(b:B5){R:aO}(hR:∀σ',aF U σ'->R (UK H b) σ'):XH.c (aW gb) b.1 b.2.1 b.2.2.1 b.2.2.2.1 b.2.2.2.2 U R:=by
 refine XH.o ?_;unfold XH.v;refine nw (cs:=fQ b) λv s e j=>?_;have g:=p.fr e;refine⟨λm=>aF v m,Ext.refl _ _,bL (gL (c:=.p) (y:=some ⟨L.p,0,none⟩) (λm e=>e.bV g.b id) rfl (qv (c:=bO) (y:=b.2.2.1) (λm e=>e.bV j id) rfl (FZ g.h b.2.2.1 λr e1=>?_)))⟩;have d:=e1.bV j id;have a:=hR r (e.trans e1);refine bX.intro ?_;cases hu:Kx H b.2.2.1 with
 | none=>
  unfold UK at a;rw[hu]at a;exact cF rfl a
 | some u=>
  unfold UK at a;rw[hu]at a;refine cD rfl (d.fL rfl ?_);have:(!(some u==some b.2.2.2.1))=((some u).getD 0 != b.2.2.2.1):=by simp[bne]
  rw[this]at a;exact a
def ZH (H:Hw)(thread:Int):Int:=if thread<0\/thread≥(H.cf.threads:Int)then 1 else if(UH H thread).isSome then 5 else 0
theorem OR (p:GP σ0 U L H held s0 P gb km fm x)(thread:Int){R:aN}(hR:∀σ',aF U σ'->R (ZH H thread) σ'):YM.c (aW gb) thread U R:=by
 refine YM.o ?_;unfold YM.v;refine KM (λr u=>aF U u/\r=decide (thread<0\/thread≥(H.cf.threads:Int))) (λr u ⟨d,j⟩=>?_) λJ i=>?_
 ·by_cases hc:thread<0\/thread≥(H.cf.threads:Int)
  ·have a:=hR u d;unfold ZH at a;rw[zC hc]at a;exact cF (by rw[j];exact zI hc) a
  ·have g:=p.fr d;refine cD (by rw[j];exact zM hc) (bL (g.b.rP rfl (Lc g.h thread λs w e2 y=>?_)));have a:=hR w (d.trans e2);unfold ZH at a;rw[zB hc]at a;rw[y];cases hp:UH H thread with
   | none=>rw[hp]at a;exact cD rfl a
   | some q=>rw[hp]at a;exact cF rfl a
 ·refine cN (λh=>i _ _ ⟨Ext.refl _ _,by rw[zI];exact .inl h⟩) λh=>bL (p.b.rP rfl (Gw p.h λu e=>i _ _ ⟨e,?_⟩));rw[kW,decide_eq_true_iff,decide_eq_true_iff];exact⟨.inr,λm=>m.resolve_left h⟩
theorem Sy (h:HH U F L H)(hp:1<=H.cf.aG){R:aO}(hR:∀σ',aF U σ'->R true σ'):Q8.c (aW L.p) U R:=by
 refine Q8.o ?_;unfold Q8.v;refine bX.intro (cF rfl (Gw h λw e=>?_));have:decide ((H.cf.aG:Int)>0)=true:=zI O;rw[this];exact hR w e
theorem FX (e0:aF σ0 U)(h:HH U P L H)(hi:HI H held s0)(hc:jk H)(hpg:H.cf.aG<=128)(hP:∀b,P b->σ0.size<=b/\b<U.size)(hg:jf (λb=>σ0.size<=b)/\¬σ0.size<=1){R:Option Addr->Int->Hp->Prop}
 (hR:∀w gb km fm,aF U w->U.size<=gb/\U.size<=km/\U.size<=fm->GP σ0 w L H held s0 P gb km fm qj->R (some ⟨gb,0,none⟩) 0 w):Kf.c (aW L.p) U R:=by
 refine Kf.o ?_;unfold Kf.v;refine Sy h hc.1 λv e=>cD rfl (uW λi y e1 z=>uW λs m e2 r=>nw (cs:=sM L.p v.size i.size qj) λv3 u d A=>?_);have B:=e.1;have D:=e0.1;have a:=((e.trans e1).trans e2).trans d;have g:∀b,U.size<=b->¬P b:=λb C x=>by have:=(hP b x).2;omega
 exact hR v3 s.size v.size i.size a ⟨O,O,O⟩ ⟨e0.trans a,h.bP a,hi,hc,hpg,λb j=>⟨(hP b j).1,by have:=(hP b j).2;have:=a.1;omega⟩,⟨O,g _ O⟩,⟨O,g _ O⟩,⟨O,g _ O⟩,O,O,O,A,(e2.trans d).fV (z _ _) id,d.fV (r _ _) id,hg⟩
end Go.Ar
namespace Go.Ar
open Go Go.Vc Go.Proofs
open Go.Vc (bU dA cO)
variable {U σ0 v w w':Hp}{F P Q X T:Rg}{L:dE}{H H':Hw}{held:List Pc}{s0 sp:Sp}{t n:Nat}{g:Th}{gb km fm m:Nat}{x y:Gu}{b:B5}
def iJ (sp:Sp)(l:List Int)(f:Int->Int):Sp:=l.foldl (λs z=>ZF s z (f z)) sp
theorem M7 (sp:Sp)(z:Int)(l:List Int)(f:Int->Int):iJ sp (z::l) f=iJ (ZF sp z (f z)) l f:=rfl
theorem Cq (sp:Sp)(l:List Int)(z:Int)(f:Int->Int):iJ sp (l++[z]) f=ZF (iJ sp l f) z (f z):=by unfold iJ;rw[vp];rfl
theorem U5 {sp:Sp}{x:Nat}:eI sp ((8*x:Nat):Int)=0↔gf sp.st (x/32)≠0:=by
 unfold eI;rw[zB O,show((8*x:Nat):Int).toNat/256=x/32 by omega];unfold gf;split
 ·rename_i h;rw[h];simp
 ·rename_i h;exact⟨λ_=>h,λ_=>rfl⟩
theorem y9 (sp:Sp)(x:Nat):QZ sp ((8*x:Nat):Int)=if gf sp.st (x/32)≠0 then sp.wd x else 0:=by
 unfold QZ;by_cases h:gf sp.st (x/32)≠0
 ·rw[zC (U5.2 h),zC h];congr 1;omega
 ·rw[zB (λa=>h (U5.1 a)),zB h]
theorem yJ (f:Int->Int):∀(l:List Int) (sp:Sp),(∀z∈l,0<=z/\z%8=0)->(iJ sp l f).st.length=sp.st.length/\(∀p,gf (iJ sp l f).st p=0↔gf sp.st p=0) ∧
 ∀w:Nat,(iJ sp l f).wd w=if((8*w:Nat):Int)∈l/\gf sp.st (w/32)≠0 then f ((8*w:Nat):Int)else sp.wd w
 | [],sp,_=>⟨rfl,λ_=>Iff.rfl,λw=>by rw[zB aA];rfl⟩
 | z::l,sp,hl=>by
  obtain⟨i1,i2,i3⟩:=yJ f l (ZF sp z (f z)) λz a=>hl z (mu _ a);obtain⟨d,b,g⟩:=Bl sp z (f z);have r:=hl z mY;obtain⟨zn,rfl⟩:∃c:Nat,z=((8*c:Nat):Int):=⟨z.toNat/8,O⟩;rw[M7];refine⟨i1.trans d,λp=>(i2 p).trans (b p),λw=>?_⟩;rw[i3,g];have a:=b (w/32);by_cases hm:gf sp.st (w/32)≠0
  ·by_cases hw:((8*w:Nat):Int)∈l
   ·rw[zC ⟨hw,λh=>hm (a.1 h)⟩,zC ⟨mu _ hw,hm⟩]
   ·rw[zB λh=>hw h.1];by_cases he:w=zn
    ·subst he;rw[zC ⟨U5.2 hm,O⟩,zC ⟨mY,hm⟩]
    ·rw[zB λh=>he (by have:=h.2;omega),zB λh=>(zW.1 h.1).elim (λh=>he O) hw]
  ·have key:¬(eI sp ((8*zn:Nat):Int)=0/\w=((8*zn:Nat):Int).toNat/8):=λh=>by
    have j:=U5.1 h.1;have i:w=zn:=by omega
    subst i;exact hm j
   rw[zB λh=>hm λm=>h.2 (a.2 m),zB key,zB λh=>hm h.2]
theorem HI.iJ (f:Int->Int):∀(l:List Int) {H:Hw} {s0:Sp},HI H held s0->∃s0',HI {H with sp:=Go.Ar.iJ H.sp l f} held s0'
 | [],H,s0,h=>⟨s0,h⟩
 | z::l,H,s0,h=>HI.iJ f l (h.write z (f z))
theorem KX {f:Int->Int}{l:List Int}{sp:Sp}(hl:∀z∈l,0<=z/\z%8=0)(w:Nat):QZ (iJ sp l f) ((8*w:Nat):Int)=if((8*w:Nat):Int)∈l/\gf sp.st (w/32)≠0 then f ((8*w:Nat):Int)else QZ sp ((8*w:Nat):Int):=by
 obtain⟨_,a,d⟩:=yJ f l sp hl;rw[y9,y9];by_cases hm:gf sp.st (w/32)≠0
 ·rw[zC λh=>hm ((a _).1 h),d];by_cases hw:((8*w:Nat):Int)∈l
  ·rw[zC ⟨hw,hm⟩,zC ⟨hw,hm⟩]
  ·rw[zB λh=>hw h.1,zB λh=>hw h.1,zC hm]
 ·rw[zB λh=>hm λb=>h ((a _).2 b),zB λh=>hm h.2,zB hm]
def QJ (b:B5):Nat:=(ZE b.2.1/8).toNat
def XP (b:B5):List Int:=(List.range (QJ b)).map λ(i:Nat)=>b.1+8*(i:Int)
theorem HT (bi:gT b){z:Int}(hz:z∈XP b):b.1<=z/\z%8=0/\z+8<=b.1+ZE b.2.1:=by
 obtain⟨s,⟨a,j⟩,⟨r,d,p⟩,⟨t,g⟩,m⟩:=bi;have u:=ZU (n:=b.2.1) O;obtain⟨i,hi,rfl⟩:=zD.1 hz;have:=zg.1 hi;unfold QJ at this;omega
theorem GP.write (p:GP σ0 U L H held s0 P gb km fm x)(gc:Gc σ0)(z u:Int)(hz:z<=9223372036854775807){R:aN}
 (hR:∀w s0' P',Ext P U w->GP σ0 w L {H with sp:=ZF H.sp z u} held s0' P' gb km fm x->(∀c,P' c->P c\/U.size<=c)->R (eI H.sp z) w):Xx.c (aW L.p) z u U R:=by
 refine LW p.h (gc.bP p.e) z u hz λw e b=>?_;exact hR w _ _ e (p.step (ts':=L.ts) e b (p.hi.write z u) ⟨rfl,rfl,rfl,rfl⟩) λc a=>a.1
theorem JG {D:Nat}{s:Hp}{K:aP}(h:s[D]?=some (.deferred (some [])))(hK:∀w,Ext (· = D) s w->K w):wj D s K:=
 ⟨h,hK _ ⟨by simp,λb d a=>by rw[Array.getElem?_setIfInBounds,zB λh=>a h.symm]⟩⟩
set_option maxRecDepth 8000 in
theorem Ip (p:GP σ0 U L H held s0 P gb km fm x)(gc:Gc σ0)(bi:gT b)(val:Int){R:aP}
 (hR:∀w s0' P',Ext P U w->GP σ0 w L {H with sp:=iJ H.sp (XP b) λ_=>val} held s0' P' gb km fm x->(∀c,P' c->P c\/U.size<=c)->R w):Ys.c (aW gb) b.1 b.2.1 b.2.2.1 b.2.2.2.1 b.2.2.2.2 val U R:=by
 obtain⟨⟨s1,s2⟩,⟨K,W⟩,⟨z1,Y,Q⟩,⟨t,M⟩,S⟩:=bi;have V:=ZU (n:=b.2.1) O;have N:(QJ b:Int)*8=ZE b.2.1:=by unfold QJ;omega
 refine Ys.o ?_;unfold Ys.v;refine nw (cs:=fQ b) λv X e D=>?_;refine Qv (a:=bO) (λ(z:Int) u=>∃(i:Nat) (s0':Sp) (P':Rg),z=8*(i:Int)/\i<=QJ b/\Ext P v u/\bZ u U.size (fQ b)/\GP σ0 u L {H with sp:=iJ H.sp ((List.range i).map λ(j:Nat)=>b.1+8*(j:Int)) λ_=>val} held s0' P' gb km fm x/\∀c,P' c->P c\/v.size<=c) (λz _=>(ZE b.2.1-z).toNat)
  ⟨0,s0,P,O,O,Ext.refl _ _,D,p.fr e,λc m=>.inl m⟩ ?_
 rintro(z:Int) u ⟨i,s0',P',rfl,hi,eu,hbu,pu,hP⟩;refine hbu.rI rfl (hbu.rI rfl (hbu.rI rfl (hbu.rI rfl (hbu.rI rfl (H7 b O O λC e1=>?_)))));have g:=e1.bV hbu id;have y:=pu.fr e1;refine cN (λE=>?_) λJ=>?_
 ·refine bL (y.b.rP rfl (g.fL rfl (ar O O (y.write gc _ val O λZ d P'' e2 F s=>?_))));have G:=e1.1;have A:=eu.1;refine ar O O ⟨⟨i+1,d,P'',O,O,Ext.dQ (eu.gp e1) e2 hP,e2.bV g λB=>?_,?_,λc m=>?_⟩,O⟩
  ·rcases hP _ B with h|h
   ·have:=(p.pP _ h).2;omega
   ·omega
  ·rw[qR,zj,List.map_singleton,Cq];exact F
  ·rcases s c m with h|h
   ·exact hP c h
   ·exact .inr O
 ·have r:i=QJ b:=by omega
  subst r;refine hR C _ _ ((aF.to e).trans (eu.gp e1)) y λc m=>?_;have:=e.1;exact(hP c m).imp id λh=>by omega
def jL (sp:Sp)(z:Int):Bool:=eI sp z != 0||QZ sp z != jy z
def QV (sp:Sp)(b:B5):List Int:=(Zg b).filter (jL sp)
set_option maxRecDepth 16000 in
theorem F9 (p:GP σ0 U L H held s0 P gb km fm x)(bi:gT b){R:Sl->Hp->Prop}
 (hR:∀s w Q,aF U w->bT s 1 (Wy (QV H.sp b)) w Q->(∀c,Q c->U.size<=c/\c<w.size)->R s w):XL.c (aW gb) b.1 b.2.1 b.2.2.1 b.2.2.2.1 b.2.2.2.2 U R:=by
 refine XL.o ?_;unfold XL.v;refine nw (cs:=[.pointer (some ⟨gb,0,none⟩)]) λv1 hz1 e1 b1=>nw (cs:=fQ b) λM hz2 e2 b2=>nw (cs:=[.slice none 0 0]) λv3 hz3 e3 b3=>?_;have y:=e3.bV b2 id;have b1':=(e2.trans e3).bV b1 id;refine y.rI rfl (y.rI rfl (y.rI rfl (y.rI rfl (y.rI rfl (IL b λW hz4 e4 b4=>?_)))));have aa:=((e1.trans e2).trans e3).trans e4;have hzs:(Zg b).length<=100000:=by
  obtain⟨⟨s1,s2⟩,⟨b1,b2⟩,⟨z1,z2,z3⟩,⟨t,t2⟩,hm⟩:=bi;have hw:=ZU (n:=b.2.1) O;rw[Gi];unfold VK oF;omega
 refine⟨rfl,by kernel_rfl,Zg b,_,λk s=>aF U s/\bZ s U.size [.pointer (some ⟨gb,0,none⟩)]/\bZ s v3.size (fQ b)/\∃(sl:Sl) (Q:Rg),bZ s M.size [.slice sl.a sl.len sl.cap]/\bT sl 1 (Wy (((Zg b).take k).filter (jL H.sp))) s Q/\∀c,Q c->W.size+2<=c/\c<s.size,Fo bi,?_,λk s h=>h.2.2.1,?_,?_,?_⟩
 ·rintro k s s' ⟨B,D,F,sl,Q,C,E,A⟩ e;have hz:=e.1;refine⟨Ext.dQ B e λc d=>.inr O,e.bV D O,e.bV F O,sl,Q,e.bV C O,aI.bS E e λc _ X d=>?_,λc d=>?_⟩
  ·have:=A c X;omega
  ·have:=A c d;omega
 ·exact⟨aa,(e4).bV b1' id,b4,⟨none,0,0⟩,λ_=>False,e4.bV b3 id,⟨rfl,.inl ⟨rfl,rfl⟩⟩,λc d=>d.elim⟩
 ·rintro k z Z s ⟨B,D,F,sl,Q,C,E,A⟩ hsz;have zi:=Gg bi (zG Z);have N:=bi.base;have hm:=bi.m;have hkl:=(cX.1 Z).1;have ps:=p.fr B;have K:(Zg b).take (k+1)=(Zg b).take k++[z]:=by rw[j6,Z];rfl
  refine D.pf rfl (bL (ps.b.rP rfl (C6 ps.h z O λv5 g=>?_)));have hz5:=g.1;refine KM (λr u=>u=v5/\r=jL H.sp z) (λr u ⟨hu,hr⟩=>?_) λJ hJ=>?_
  ·subst hu;have G:=aI.bP E g;have i:∀c,Q c->c≠W.size/\c≠W.size+1/\c≠U.size/\c≠v3.size/\c≠M.size:=λc d=>by have:=A c d;omega
   refine cQ (λN=>?_) λN=>?_
   ·refine(g.bV C id).wc rfl (wJ G ?_ z λs' v8 Y h8=>?_)
    ·have B:=oV (jL H.sp) ((Zg b).take k);rw[zY]at B;omega
    have hz8:=Y.1;have S:=Y.bV (g.bV C id) λd=>(i _ d).2.2.2.2 rfl;refine S.s0 aA λv9 o9 h9=>?_;have e9:=o9.ext;have hz9:=o9.1;have j:Ext (λc=>Q c\/c=M.size) u v9:=(Y.sub λc d=>.inl d).trans (e9.sub λc d=>.inr d);refine⟨⟨Ext.dQ (B.trans g) j λc d=>?_,j.bV (g.bV D id) ?_,j.bV (g.bV F id) ?_,s',λc=>Q c\/u.size<=c/\c<v8.size,h9,?_,λc d=>?_⟩,?_,?_⟩
    ·rcases d with d|d
     ·have:=A c d;exact .inr O
     ·exact .inr O
    ·rintro(d|d)
     ·exact(i _ d).2.2.1 rfl
     ·omega
    ·rintro(d|d)
     ·exact(i _ d).2.2.2.1 rfl
     ·omega
    ·have:((Zg b).take (k+1)).filter (jL H.sp)=((Zg b).take k).filter (jL H.sp)++[z]:=by
      rw[K,yl,vS (by rw[←hr];exact N)];rfl
     rw[this];refine aI.bS h8 e9 λc _ d (hx:c=M.size)=>?_;rcases d with d|d
     ·exact(i _ d).2.2.2.2 hx
     ·omega
    ·rcases d with d|d
     ·have:=A c d;omega
     ·omega
    ·rw[j.2 _ O (by rintro(d|d);exact(i _ d).1 rfl;omega)];exact g.2 _ O id
    ·rw[j.2 _ O (by rintro(d|d);exact(i _ d).2.1 rfl;omega)];exact g.2 _ O id
   ·refine⟨⟨B.trans g,g.bV D id,g.bV F id,sl,Q,g.bV C id,?_,λc d=>?_⟩,g.2 _ O id,g.2 _ O id⟩
    ·have:((Zg b).take (k+1)).filter (jL H.sp)=((Zg b).take k).filter (jL H.sp):=by
      rw[K,yl,vj (by rw[←hr,N];decide),List.filter_nil,kb]
     rw[this];exact G
    ·have:=A c d;omega
  ·refine cQ (λh=>hJ _ _ ⟨rfl,by unfold jL;rw[h];rfl⟩) λh=>J5 z O O (hJ _ _ ⟨rfl,by unfold jL;rw[h];rfl⟩)
 ·rintro s ⟨B,D,F,sl,Q,C,E,A⟩ hD;rw[lL]at E;refine C.wc rfl (JG hD λw V=>?_);have hz:=V.1;refine hR sl w Q (Ext.dQ B V λc d=>.inr O) (aI.bS E V λc _ X d=>?_) λc d=>?_
  ·have:=A c X;omega
  ·have:=A c d;omega
end Go.Ar
namespace Go.Ar
open Go Go.Vc Go.Proofs
open Go.Vc (bU dA cO)
variable {U w w':Hp}{F P Q X:Rg}{L:dE}{H H':Hw}{held:List Pc}{s0:Sp}{t n:Nat}{g:Th}{σ0:Hp}{addrs:Sl}{ad:List Int}{l:Sl}{ds:List fB}
theorem gg.push (p:gg σ0 U L H held s0 P Q addrs ad){s':Sl}{x:Int}(e:Ext Q U w)(hr:bT s' 1 (Wy (ad++[x])) w (λb=>Q b\/U.size<=b/\b<w.size))(hl:(ad++[x]).length<=60):gg σ0 w L H held s0 P (λb=>Q b\/U.size<=b/\b<w.size) s' (ad++[x]):=by
 have j:=e.1;have g:=p.e.1;refine⟨Ext.dQ p.e e λb a=>.inr (p.pQ b a).1,p.h.bS e (λb a d i=>(p.pQ b i).2.2 d) (λb a=>p.g0.1 b (p.pQ b a).1) (λa=>p.g0.2 (p.pQ _ a).1),p.hi,p.cf,p.pg,λb a=>⟨(p.pP b a).1,by have:=(p.pP b a).2;omega⟩,λb a=>?_,hr,hl,p.g0⟩;rcases a with a|a
 ·exact⟨(p.pQ b a).1,by have:=(p.pQ b a).2.1;omega,(p.pQ b a).2.2⟩
 ·exact⟨O,a.2,λd=>by have:=(p.pP b d).2;omega⟩
theorem Ff {tb:List cA}{size align:Int}{k:Nat}(h:gV tb size align=some k):∃c,tb[k]?=some c/\size<=(c.size:Int)/\(c.size:Int)%align=0:=by
 unfold gV at h;obtain⟨b,a,_⟩:=n4.1 h;simp only[zF,zV,zU]at a;exact⟨tb[k],cW b,a.1,a.2⟩
theorem O3 {tb:List cA}{size align:Int}(h:size<=16384/\Hl size align=true):size<=(oU tb size align).1/\(oU tb size align).2=0:=by
 unfold oU;rw[zC h];refine⟨?_,rfl⟩;cases hc:gV tb size align with
 | some k=>
  obtain⟨c,a,b,_⟩:=Ff hc;simp only;rw[zQ,a];exact b
 | none=>simp only;unfold yN;omega
theorem DG {live:List (Int×Bk)}{x:Int}(b:Bk):bU (dA live x b) x=some b:=by rw[US,zC rfl]
end Go.Ar
namespace Go.Ar
open Go Go.Vc Go.Proofs
open Go.Vc (bU dA cO)
open Go.Bu (fo VN HD)
variable {size align:Int}{U σ0 v w w':Hp}{F P Q X T:Rg}{L:dE}{H H' H1:Hw}{held:List Pc}{s0 sp:Sp}{t n:Nat}{g:Th}{gb km fm m:Nat}{x y:Gu}{b:B5}
theorem _root_.Go.Vc.bZ.s2 {U:Hp}{b o i j:Nat}{cs:List Value}(hb:bZ U b cs){v:Value}(ho:o+i+j<cs.length){K:aP}(hK:∀h',Ka U h' b->bZ h' b (cs.set (o+i+j) v)->K h'):dX (Addr.add (Addr.add ⟨b,o,none⟩ i) j) v U K:=by
 rw[add_lit];exact hb.s1 ho hK
def Mg (P:Rg)(gb km fm:Nat):Rg:=λb=>P b\/b=gb\/b=km\/b=fm
def mw (size align:Int):Bool:=decide (1<=size/\size<=1024/\1<=align/\align<=256)&&fo align
def zA (align:Int):Int:=if 16>align then 16 else align
theorem yz {align:Int}(h:align<=256):16<=zA align/\zA align<=256:=by unfold zA;split<;>omega
structure vQ (H:Hw) (x:Gu) (size align:Int) (b:B5) (H1:Hw):Prop where
 me:rF H (zA align+ZE size+16) (zA align) H1 b.2.2.1 0
 a:b.1=b.2.2.1+zA align
 s:b.2.1=size
 u:Kx H1 b.2.2.1=some b.2.2.2.1
 n:b.2.2.2.2=x.no+1
 ok:mw size align=true
 bi:gT b
def jR (sp:Sp)(b:B5):Sp:=iJ (iJ sp (Zg b) jy) (XP b) λ_=>0
def Gu.eH (x:Gu)(b:B5):Gu:=⟨dA x.kn b.1 b,x.fr,x.no+1⟩
theorem Dm {a:Int}(h1:1<=a)(h2:a<=256)(hp:fo a=true):a%8=0\/a<8:=by
 by_cases h:a<8
 ·exact .inr h
 ·left;obtain⟨a,rfl⟩:=zc (show 0<=a by omega);rw[VN]at hp;have key:∀a:Nat,a<=256->8<=a->(a &&& (a-1)=0)->a%8=0:=by decide +kernel
  have:=key a O O (by have:=HD (a:=a) O O;rw[hp]at this;simpa using this);omega
theorem MG (hi:HI H1 held s0)(hok:mw size align=true){base:Int}(me:rF H (zA align+ZE size+16) (zA align) H1 base 0):∃u,Kx H1 base=some u/\gT (base+zA align,size,base,u,x.no+1):=by
 unfold mw at hok;rw[zF,zV]at hok;obtain⟨⟨j,k2,k3,k4⟩,kp⟩:=hok;have s:=yz k4;have r:=ZU (n:=size) O;rcases me with⟨h,_⟩|⟨_,hm,hok,cl,hl,hcl⟩
 ·exact absurd rfl h
 have g:Kx H1 base=some (oU H.tb (zA align+ZE size+16) (zA align)).1:=by unfold Kx;rw[hl,DG];rfl
 have m:=(O3 (tb:=H.tb) ⟨hok.2.1,hok.2.2⟩).1;obtain⟨p,d,b⟩:=oz.1 g;have a:=hi.ka (Z9 d);simp only at a;rw[b]at a;have i:zA align%8=0:=by
  unfold zA;split
  ·decide
  ·rcases Dm k3 k4 kp with h|h
   ·exact h
   ·omega
 exact⟨_,g,⟨⟨j,k2⟩,⟨a.2.1,a.2.2.1⟩,⟨by simp only;omega,by simp only;omega,by simp only;omega⟩,⟨by simp only;omega,a.2.2.2.1⟩,by simp only;omega⟩⟩
set_option maxRecDepth 16000 in
theorem Td (p:GP σ0 U L H held s0 P gb km fm x)(gc:Gc σ0)(x0:0<=x.no/\x.no<=100000)(thread size align:Int){R:Int->Int->Hp->Prop}
 (h0:∀w,mw size align=false->aF U w->R 0 1 w)
 (h1:∀e w ts H' held' s0' P',mw size align=true->e≠0->KK H thread 0 (zA align+ZE size+16) (zA align) 0 H' 0 e->fR H H'->H'.live=H.live->Ext P U w->GP σ0 w {L with ts:=ts} H' held' s0' P' gb km fm x->(∀c,P' c->P c\/U.size<=c)->R 0 e w)
 (h2:∀b w ts H1 held' s0' P',vQ H x size align b H1->KK H thread 0 (zA align+ZE size+16) (zA align) 0 H1 b.2.2.1 0->fR H H1->Ext (Mg P gb km fm) U w->GP σ0 w {L with ts:=ts} {H1 with sp:=jR H1.sp b} held' s0' P' gb km fm (x.eH b)->(∀c,P' c->P c\/U.size<=c)->R b.1 0 w) :
 Yc.c (aW gb) thread size align U R:=by
 refine Yc.o ?_;unfold Yc.v;rw[show(if(16:Int)>align then(16:Int)else align)=zA align from rfl]
 refine nw (cs:=[.pointer (some ⟨gb,0,none⟩)]) λv hz e hn4=>hn4.pf rfl (Hi (p.fr e) (cD rfl ?_));refine KM (λr u=>u=v/\r = !decide (1<=size/\size<=1024)) (λr u ⟨hu,hr⟩=>?_) λJ hJ=>cN (λh=>hJ _ _ ⟨rfl,by rw[zM O];rfl⟩) λh=>hJ _ _ ⟨rfl,?_⟩
 ·rw[hu];refine KM (λr u=>u=v/\r = !decide (1<=size/\size<=1024/\1<=align)) (λr1 u1 ⟨hu1,hr1⟩=>?_) λJ1 hJ1=>?_
  ·rw[hu1];refine KM (λr u=>u=v/\r = !decide (1<=size/\size<=1024/\1<=align/\align<=256)) (λr2 u2 ⟨hu2,hr2⟩=>?_) λJ2 hJ2=>?_
   ·rw[hu2];refine KM (λr u=>u=v/\r = !mw size align) (λr3 u3 ⟨hu3,hr3⟩=>?_) λJ3 hJ3=>?_
    ·rw[hu3];clear hr hr1 hr2 hu hu1 hu2 hu3;by_cases hgk:mw size align=true
     ·refine cD (by rw[hr3,hgk];rfl) ?_;have hk:=hgk;unfold mw at hk;rw[zF,zV]at hk;obtain⟨⟨k1,k2,k3,k4⟩,kp⟩:=hk;have hzz:=yz k4;have hww:=ZU (n:=size) O;refine nw (cs:=[.int .i64 0,.int .i64 0,.int .i64 0,.int .i64 0,.int .i64 0]) λv6 hz6 e6 b6=>?_;refine b6.s1 aA λv7 o7 b7=>b7.s1 aA λv8 o8 b8=>b8.s1 aA λv9 o9 b9=>b9.s1 aA λv10 fX b10=>b10.s1 aA λv11 o11 b11=>?_;have bb:bZ v11 v.size (fQ (0,size,0,0,0)):=b11;have eo:Ext (· = v.size) v6 v11:=(((o7.ext.trans o8.ext).trans o9.ext).trans fX.ext).trans o11.ext;have e11:aF v v11:=Ext.fresh e6 eo λi (hi:i=v.size)=>by omega
      have p11:=(p.fr e).fr e11;have M:=e11.bV hn4 id;have zv:U.size<v.size:=by omega
      have zb:=bb.lt;refine⟨λm=>bZ m U.size [.pointer (some ⟨gb,0,none⟩)]/\bZ m gb (sM L.p km fm x)/\bZ m v.size (fQ (0,size,0,0,0)),⟨M,p11.b,bb⟩,?_⟩;refine rj (c:=.p) (y:=some ⟨gb,0,none⟩) (λm F=>F.1) rfl (bL (gL (c:=.p) (y:=some ⟨L.p,0,none⟩) (λm F=>F.2.1) rfl ?_));refine gL (c:=bO) (y:=0) (λm F=>F.2.2) rfl (gL (c:=bO) (y:=size) (λm F=>F.2.2) rfl (gL (c:=bO) (y:=0) (λm F=>F.2.2) rfl (gL (c:=bO) (y:=0) (λm F=>F.2.2) rfl (gL (c:=bO) (y:=0) (λm F=>F.2.2) rfl ?_))));refine H7 (0,size,0,0,0) aC aC λv12 B=>⟨⟨B.bV M id,B.bV p11.b id,B.bV bb id⟩,?_⟩;refine ar aC aC (ar aC aC ?_);have p12:=p11.fr B;have e012:=(e.trans e11).trans B;have z1112:=B.1;obtain⟨H',a,er,hw,o,me⟩:=OS p.hi thread (zA align+ZE size+16) (zA align);obtain⟨held',s0',hi'⟩:=o.hi;refine Pk Fb p12.h p12.cf.2.2 hw λv13 ts G h13=>?_;have A:=p12.step G h13 hi' o.kp;have z12:=e012.1;have z13:=G.1;have nP:∀c,U.size<=c->¬P c:=λc h1 h2=>by have:=(p.pP c h2).2;omega
      have V:=G.bV (B.bV M id) (nP _ (zE _));have bb13:=G.bV (B.bV bb id) (nP _ O);refine⟨⟨V,G.bV p12.b p.rp.2,bb13⟩,?_⟩;generalize hP1:Cut (Grow P v12) v13=P1 at A;have E:∀c,P1 c->P c\/U.size<=c:=λc d=>by
       rw[←hP1]at d;exact d.1.imp id λh=>by omega
      have X:∀c,P1 c->c<v13.size:=λc d=>by rw[←hP1]at d;exact d.2
      have K:∀c,c<v12.size->¬P c->¬P1 c:=λc h1 h2 D=>by
       rw[←hP1]at D;rcases D.1 with h4|h4
       ·exact h2 h4
       ·omega
      have E13:Ext P U v13:=(aF.to e012).trans G;refine cQ (λhne=>?_) λheq=>?_
      ·have hne':er≠0:=by simpa using hne
       rcases me with⟨_,ha,hl⟩|⟨h,_⟩
       ·subst ha;exact h1 er v13 ts H' held' s0' P1 hgk hne' hw o hl E13 A E
       ·exact absurd h hne'
      ·have he0:er=0:=by simpa using heq
       subst he0;obtain⟨u,hu,Y⟩:=MG (x:=x) (size:=size) (align:=align) hi' hgk me;obtain⟨b,g⟩:∃b:B5,b=(a+zA align,size,a,u,x.no+1):=⟨_,rfl⟩;rw[←g]at Y;have hbs:=Y.base;have hbm:=Y.m;have hbz:=Y.z;have hbt:=Y.t;have hb1:b.1=a+zA align:=by rw[g]
       have hb2:b.2.1=size:=by rw[g]
       rw[hb2]at hbt;have W:b.2.2.1=a:=by rw[g]
       have hb4:b.2.2.2.1=u:=by rw[g]
       rw[W]at hbs;have gr:vQ H x size align b H':=⟨by rw[W];exact me,by rw[hb1,W],by rw[g],by rw[W,hb4];exact hu,by rw[g],hgk,Y⟩;have hgb13:=A.b.lt;have hvg:v.size≠gb:=λh=>by have:=p.b.lt;omega
       have hsg:U.size≠gb:=λh=>by have:=p.b.lt;omega
       have hvk:v.size≠km:=λh=>by have:=p.m.lt;omega
       have hsk:U.size≠km:=λh=>by have:=p.m.lt;omega
       have hvf:v.size≠fm:=λh=>by have:=p.f.lt;omega
       refine V.pf rfl (bL (A.b.rI rfl (ar O O (bL (A.b.s1 (by simp[sM]) λQ C b14=>?_)))));have p14:GP σ0 Q {L with ts:=ts} H' held' s0' P1 gb km fm {x with no:=x.no+1}:=A.eY (C.ext.sub λc d=>.inl d) b14 (C.ext.fV A.m λ(h:km=gb)=>p.n1 h.symm) (C.ext.fV A.f λ(h:fm=gb)=>p.n2 h.symm);have hn14:=C.ext.bV V hsg;have bb14:=C.ext.bV bb13 hvg;refine hn14.pf rfl (bL (p14.b.rI rfl (ar O O ?_)));refine bb14.s1 (by simp[fQ]) λv15 o15 b15=>b15.s2 (by simp[fQ]) λv16 o16 b16=>b16.s2 (by simp[fQ]) λv17 o17 b17=>?_;have e17:Ext (· = v.size) Q v17:=(o15.ext.trans o16.ext).trans o17.ext;have hout:∀c,c<Q.size->c=v.size->¬P1 c/\c≠gb/\c≠km/\c≠fm/\σ0.size<=c:=λc _ d=>by
        subst d;have:=p.e.1;exact⟨K _ O (nP _ O),hvg,hvk,hvf,O⟩
       have p17:=p14.out e17 hout;have hn17:=e17.bV hn14 (show ¬U.size=v.size by omega);refine hn17.pf rfl (bL (p17.b.rP rfl (FZ p17.h a λv18 N=>?_)));rw[hu];refine(N.bV b17 id).s2 (by simp[fQ]) λv19 o19 b19=>?_;have j:bZ v19 v.size (fQ b):=by rw[g];exact b19
       have p18:=p17.fr N;have z17:=o17.1;have z16:=o16.1;have z15:=o15.1;have z14:=C.1;have z18:=N.1;have z19:=o19.1;have p19:=p18.out o19.ext λc hc1 (d:c=v.size)=>by
        subst d;have:=p.e.1;exact⟨K _ O (nP _ O),hvg,hvk,hvf,O⟩
       have hn19:=o19.ext.bV (N.bV hn17 id) (show ¬U.size=v.size by omega);have E19:Ext (Mg P gb km fm) U v19:=by
        refine Ext.dQ (((((E13.sub λc d=>.inl d).trans (C.ext.sub λc d=>.inr (.inl d))))):Ext (Mg P gb km fm) U Q) (((e17.trans (aF.to N)).trans o19.ext):Ext (· = v.size) Q v19) λc (d:c=v.size)=>.inr O
       refine j.rI rfl (j.rI rfl (j.rI rfl (j.rI rfl (j.rI rfl (IL b λv20 hz20 S b20=>?_)))));have p20:=p19.fr S;have hn20:=S.bV hn19 id;have bb20:=S.bV j id;have z20:=S.1;have E20:Ext (Mg P gb km fm) U v20:=E19.gp S;refine⟨rfl,by kernel_rfl,Zg b,_,λk s=>Ext (Mg P gb km fm) U s/\v20.size<=s.size/\bZ s U.size [.pointer (some ⟨gb,0,none⟩)]/\bZ s v.size (fQ b)/\bZ s v19.size (fQ b)/\∃(s0':Sp) (P':Rg),GP σ0 s {L with ts:=ts} {H' with sp:=iJ H'.sp ((Zg b).take k) jy} held' s0' P' gb km fm {x with no:=x.no+1}/\∀c,P' c->P1 c\/v20.size+2<=c,Fo Y,?_,λk s h=>h.2.2.2.2.1,?_,?_,?_⟩
       ·rintro k s s' ⟨i1,i2,i3,Z,i5,s1',P',i6,i7⟩ es;have zs:=es.1;have nn:∀c,c<v20.size->¬(c=v20.size\/c=v20.size+1):=λc h=>by omega
        refine⟨Ext.dQ i1 es λc d=>.inr O,O,es.bV i3 (nn _ O),es.bV Z (nn _ O),es.bV i5 (nn _ O),s1',P',i6.out es λc _ d=>?_,i7⟩;have:=p.e.1;have g1:=p.b.lt;have g2:=p.m.lt;have g3:=p.f.lt;refine⟨λhx=>?_,O,O,O,O⟩;rcases i7 c hx with h|h
        ·have:=X c h;omega
        ·omega
       ·exact⟨E20,zE _,hn20,bb20,b20,s0',P1,p20,λc d=>.inl d⟩
       ·rintro k (z:Int) hk s ⟨i1,i2,i3,Z,i5,s1',P',i6,i7⟩ hsz;have zi:=Gg Y (zG hk);have hzk:0<=z/\z<=1000000:=by
         have z1:=zi.1;have z2:=zi.2.2.1;have h0:=Y.base.1;omega
        have htk:(Zg b).take (k+1)=(Zg b).take k++[z]:=by rw[j6,hk];rfl
        have n7:∀c,c<v20.size+2->(¬P1 c)->¬P' c:=λc h1 h2 D=>(i7 c D).elim h2 λh=>by omega
        have q1:¬P1 U.size:=K _ O (nP _ (zE _));have q2:¬P1 v.size:=K _ O (nP _ O);have q3:∀c,v13.size<=c->¬P1 c:=λc h1 h2=>by have:=X c h2;omega
        refine⟨λm=>bZ m U.size [.pointer (some ⟨gb,0,none⟩)]/\bZ m gb (sM L.p km fm {x with no:=x.no+1}),⟨i3,i6.b⟩,rj (c:=.p) (y:=some ⟨gb,0,none⟩) (λm h=>h.1) rfl (bL (gL (c:=.p) (y:=some ⟨L.p,0,none⟩) (λm h=>h.2) rfl ?_))⟩;refine J5 z hzk.1 hzk.2 ⟨⟨i3,i6.b⟩,?_⟩;refine i6.write gc z (jy z) O λs2 s2' P2 e2 p2 hP2=>?_;have zs2:=e2.1;have i3':=e2.bV i3 (n7 _ O q1);refine⟨⟨i3',p2.b⟩,⟨Ext.dQ i1 e2 λc d=>?_,O,i3',e2.bV Z (n7 _ O q2),e2.bV i5 (n7 _ O (q3 _ O)),s2',P2,?_,λc d=>?_⟩,e2.2 _ O (n7 _ O (q3 _ O)),e2.2 _ O (n7 _ O (q3 _ O))⟩
        ·rcases i7 c d with h|h
         ·exact(E c h).imp .inl id
         ·exact .inr O
        ·rw[htk,Cq];exact p2
        ·rcases hP2 c d with h|h
         ·exact i7 c h
         ·exact .inr O
       ·rintro s ⟨i1,i2,i3,Z,i5,s1',P',i6,i7⟩ hD;rw[lL]at i6;have n7:∀c,c<v20.size+2->(¬P1 c)->¬P' c:=λc h1 h2 D=>(i7 c D).elim h2 λh=>by omega
        have q1:¬P1 U.size:=K _ O (nP _ (zE _));have q2:¬P1 v.size:=K _ O (nP _ O);have q3:∀c,v13.size<=c->¬P1 c:=λc h1 h2=>by have:=X c h2;omega
        refine i3.pf rfl (Z.rI rfl (Z.rI rfl (Z.rI rfl (Z.rI rfl (Z.rI rfl (Ip i6 gc Y 0 λs2 s2' P2 e2 p2 hP2=>?_))))));have zs2:=e2.1;have hlt:=(jS.1 hD).1;have i3':=e2.bV i3 (n7 _ O q1);have i4':=e2.bV Z (n7 _ O q2);have hS:∀m,(bZ m U.size [.pointer (some ⟨gb,0,none⟩)]/\bZ m gb (sM L.p km fm {x with no:=x.no+1})/\bZ m v.size (fQ b))->bZ m v.size (fQ b):=λm h=>h.2.2;refine⟨λm=>bZ m U.size [.pointer (some ⟨gb,0,none⟩)]/\bZ m gb (sM L.p km fm {x with no:=x.no+1})/\bZ m v.size (fQ b),⟨i3',p2.b,i4'⟩,rj (c:=.p) (y:=some ⟨gb,0,none⟩) (λm h=>h.1) rfl (bL (gL (c:=.m) (y:=some km) (λm h=>h.2.1) rfl ?_))⟩;refine qv (c:=bO) (y:=b.1) hS rfl (gL (c:=bO) (y:=b.1) hS rfl (gL (c:=bO) (y:=b.2.1) hS rfl (gL (c:=bO) (y:=b.2.2.1) hS rfl (gL (c:=bO) (y:=b.2.2.2.1) hS rfl (gL (c:=bO) (y:=b.2.2.2.2) hS rfl ⟨km,x.kn,rfl,p2.m,λs3 o3 m3=>?_⟩)))));have p3:GP σ0 s3 {L with ts:=ts} {H' with sp:=jR H'.sp b} held' s2' P2 gb km fm (x.eH b):=p2.eY (y:=x.eH b) (o3.ext.sub λc d=>.inr (.inl d)) (o3.ext.bV p2.b p.n1) m3 (o3.ext.fV p2.f λ(h:fm=km)=>p.n3 h.symm);have zs3:=o3.1;have hkm:=p.m.lt;have hfm:=p.f.lt;have hgb:=p.b.lt;have hD3:s3[v20.size]?=some (.deferred (some [])):=(o3.2 _ O).trans ((e2.2 _ hlt (n7 _ O (q3 _ O))).trans hD);refine(o3.ext.bV i4' hvk).fL rfl (JG hD3 λs4 e4=>?_);have hP2':∀c,P2 c->P c\/U.size<=c:=λc d=>by
         rcases hP2 c d with h|h
         ·rcases i7 c h with h|h
          ·exact E c h
          ·exact .inr O
         ·exact .inr O
        refine h2 b s4 ts H' held' s2' P2 gr (by rw[W];exact hw) o ?_ (p3.out e4 λc _ (d:c=v20.size)=>?_) hP2'
        ·have E1:Ext (Mg P gb km fm) U s2:=Ext.dQ i1 e2 λc d=>by
          rcases i7 c d with h|h
          ·exact(E c h).imp .inl id
          ·exact .inr O
         have E2:Ext (Mg P gb km fm) U s3:=E1.trans (o3.ext.sub λc d=>.inr (.inr (.inl d)));exact Ext.dQ E2 e4 λc (d:c=v20.size)=>.inr O
        ·subst d;have:=p.e.1;refine⟨λhx=>?_,O,O,O,O⟩;rcases hP2 _ hx with h|h
         ·exact n7 _ O (q3 _ O) h
         ·omega
     ·exact cF (by rw[hr3];simp[hgk]) (h0 v (by simpa using hgk) e)
    ·by_cases g:1<=size/\size<=1024/\1<=align/\align<=256
     ·refine cD (by rw[hr2,zI g];rfl) (ar O O (hJ3 _ _ ⟨rfl,?_⟩));rw[Ms g.2.2.1 g.2.2.2];unfold mw;rw[zI g];rfl
     ·refine cF (by rw[hr2,zM g];rfl) (hJ3 _ _ ⟨rfl,?_⟩);unfold mw;rw[zM g];rfl
   ·by_cases g:1<=size/\size<=1024/\1<=align
    ·refine cD (by rw[hr1,zI g];rfl) (hJ2 _ _ ⟨rfl,?_⟩);by_cases D:align>256
     ·rw[zI D,zM O];rfl
     ·rw[zM D,zI O];rfl
    ·exact cF (by rw[hr1,zM g];rfl) (hJ2 _ _ ⟨rfl,by rw[zM O];rfl⟩)
  ·by_cases g:1<=size/\size<=1024
   ·refine cD (by rw[hr,zI g];rfl) (hJ1 _ _ ⟨rfl,?_⟩);by_cases D:align<1
    ·rw[zI D,zM O];rfl
    ·rw[zM D,zI O];rfl
   ·exact cF (by rw[hr,zM g];rfl) (hJ1 _ _ ⟨rfl,by rw[zM O];rfl⟩)
 ·by_cases D:size>1024
  ·rw[zI D,zM O];rfl
  ·rw[zM D,zI O];rfl
end Go.Ar
namespace Go.Ar
open Go Go.Vc Go.Proofs Go.RowKit Go.Sort Go.Shelf Go.Lib
variable {U:Hp}{F Q:Rg}{s:Sl}{xs:List Int}
end Go.Ar
namespace Go.Ar
open Go Go.Vc Go.Proofs
open Go.Vc (bU dA cO)
variable {size align:Int}{U σ0 v w w':Hp}{F P Q X T:Rg}{L:dE}{H H' H1:Hw}{held:List Pc}{s0 sp:Sp}{t n:Nat}{g:Th}{gb km fm m:Nat}{x y:Gu}{b:B5}
def Ga:Int:=-1234567
def mi (H:Hw)(x:Gu)(thread addr:Int)(whole:Bool):Int:=
 if ZH H thread≠0 then ZH H thread else match bU x.kn addr with
 | none=>if(bU x.fr addr).getD false then 9 else 8
 | some b=>if UK H b then 5 else if whole&&decide (0<(QV H.sp b).length)then 10 else 0
def Gu.gone (x:Gu)(addr:Int):Gu:=⟨cO x.kn addr,dA x.fr addr true,x.no⟩
def dO (H:Hw)(b:B5):Hw:={H with sp:=iJ H.sp (XP b) λ_=>Ga}
set_option maxRecDepth 16000 in
theorem IU (p:GP σ0 U L H held s0 P gb km fm x)(gc:Gc σ0)(xi:∀e∈x.kn,e.1=e.2.1/\gT e.2)(thread addr:Int)(whole:Bool){R:aN}
 (h0:∀w,mi H x thread addr whole≠0->aF U w->R (mi H x thread addr whole) w)
 (h1:∀b w ts H1 held' s0' P' e,bU x.kn addr=some b->mi H x thread addr whole=0->KK (dO H b) thread 1 0 0 b.2.2.1 H1 0 e->fR (dO H b) H1->nM (dO H b) thread b.2.2.1 H1 e->Ext (Mg P gb km fm) U w->GP σ0 w {L with ts:=ts} H1 held' s0' P' gb km fm (x.gone addr)->(∀c,P' c->P c\/U.size<=c)->R 0 w) :
 XS.c (aW gb) thread addr whole U R:=by
 refine XS.o ?_;unfold XS.v;refine Hi p (cD rfl (OR p thread λC e1=>?_));have p1:=p.fr e1;refine cQ (λhne=>?_) λaa=>?_
 ·have hn:ZH H thread≠0:=by simpa using hne
  have he:mi H x thread addr whole=ZH H thread:=by unfold mi;rw[zC hn]
  have:=h0 C (by rw[he];exact hn) e1;rw[he]at this;exact this
 have hrd:ZH H thread=0:=by simpa using aa
 have a:mi H x thread addr whole=match bU x.kn addr with
  | none=>if(bU x.fr addr).getD false then 9 else 8
  | some b=>if UK H b then 5 else if whole&&decide (0<(QV H.sp b).length)then 10 else 0:=by
  unfold mi;rw[zB (by rw[hrd];decide)]
 refine bL (p1.b.rM rfl ⟨x.kn,p1.m,?_⟩);refine nw (cs:=[.int .i64 0,.int .i64 0,.int .i64 0,.int .i64 0,.int .i64 0]) λv2 hz2 e2 b2=>b2.s1 aA λv3 o3 b3=>b3.s1 aA λv4 o4 b4=>b4.s1 aA λv5 o5 b5=>b5.s1 aA λv6 o6 b6=>b6.s1 aA λv7 o7 b7=>?_;have eo:Ext (· = C.size) v2 v7:=(((o3.ext.trans o4.ext).trans o5.ext).trans o6.ext).trans o7.ext;have e17:aF C v7:=Ext.fresh e2 eo λi (hi:i=C.size)=>by omega
 have E:=e1.trans e17;have p7:=p.fr E;have d:bZ v7 C.size (fQ ((bU x.kn addr).getD (0,0,0,0,0))):=b7;cases hk:bU x.kn addr with
 | none=>
  rw[hk]at a;simp only at a;refine KM (λr u=>u=v7/\r=(bU x.fr addr).getD false) (λr u ⟨hu,K⟩=>?_) λJ M=>cF rfl (bL (p7.b.rM rfl ⟨x.fr,p7.f,M _ _ ⟨rfl,rfl⟩⟩));rw[hu];refine cQ (λh=>?_) λh=>cF rfl ?_
  ·rw[←K,h]at a;have:=h0 v7 (by rw[a];decide) E;rw[a]at this;exact this
  ·rw[←K,h]at a;have:=h0 v7 (by rw[a];decide) E;rw[a]at this;exact this
 | some b=>
  rw[hk]at a d;simp only at a;have d:bZ v7 C.size (fQ b):=d;have F:gT b:=(xi _ (Z9 hk)).2;refine KM (λr u=>u=v7/\r=false) (λr u ⟨hu,K⟩=>?_) λJ M=>cD rfl (M _ _ ⟨rfl,rfl⟩);rw[hu];refine cD K (cD rfl (d.rI rfl (d.rI rfl (d.rI rfl (d.rI rfl (d.rI rfl (yR p7 b λv9 e9=>?_)))))));have D:=E.trans e9;have p9:=p.fr D;have j:=e9.bV d id;refine cQ (λhl=>?_) λhl=>?_
  ·rw[zC hl]at a;have:=h0 v9 (by rw[a];decide) D;rw[a]at this;exact this
  rw[zB (by rw[hl];decide)]at a;refine KM (λr u=>aF U u/\bZ u C.size (fQ b)/\r=(whole&&decide (0<(QV H.sp b).length))) (λr u ⟨G,B,K⟩=>?_) λJ M=>cQ (λN=>?_) λN=>M _ _ ⟨D,j,by rw[N];rfl⟩
  ·refine cQ (λh=>?_) λh=>?_
   ·rw[←K,zC h]at a;have:=h0 u (by rw[a];decide) G;rw[a]at this;exact this
   ·rw[←K,zB (by rw[h];decide)]at a;have pu:=p.fr G;have zu:=G.1;have z1:=e1.1;refine B.rI rfl (B.rI rfl (B.rI rfl (B.rI rfl (B.rI rfl (Ip pu gc F (-1234567) λu1 W P1 Z Y X=>?_)))));have nP:¬P C.size:=λhx=>by have:=(p.pP _ hx).2;omega
    have hb1:=Z.bV B nP;have zf:=Z.1;refine bL (Y.b.rM rfl ⟨x.kn,Y.m,λu2 o2 _ m2=>?_⟩);have o2:=o2 km rfl;have S:GP σ0 u2 L (dO H b) held W P1 gb km fm ⟨cO x.kn addr,x.fr,x.no⟩:=Y.eY (y:=⟨cO x.kn addr,x.fr,x.no⟩) (o2.ext.sub λc g=>.inr (.inl g)) (o2.ext.bV Y.b p.n1) m2 (o2.ext.fV Y.f λ(h:fm=km)=>p.n3 h.symm);refine bL (S.b.rM rfl ⟨fm,x.fr,rfl,S.f,λu3 A m3=>?_⟩);have V:GP σ0 u3 L (dO H b) held W P1 gb km fm (x.gone addr):=S.eY (y:=x.gone addr) (A.ext.sub λc g=>.inr (.inr g)) (A.ext.bV S.b p.n2) (A.ext.fV S.m p.n3) m3;have hkm:=p.m.lt;have hfm:=p.f.lt;have hb3:=A.ext.bV (o2.ext.bV hb1 (show ¬C.size=km by omega)) (show ¬C.size=fm by omega);obtain⟨H',er,N,o,fe⟩:=N6 V.hi thread b.2.2.1 (by have:=F.base;have:=F.m;have:=F.t;have:=F.z;have:=F.s;have:=ZU (n:=b.2.1) O;unfold iP;omega);obtain⟨held',s0',hi'⟩:=o.hi;refine bL (V.b.rP rfl (hb3.fL rfl (Ot Fb V.h V.cf.2.2 N λu4 ts e4 h4=>?_)));have p5:=V.step e4 h4 hi' o.kp;have z2:=o2.1;have z3:=A.1;have z4:=e4.1;refine h1 b u4 ts H' held' s0' _ er hk a N o fe ?_ p5 λc g=>?_
    ·have E1:Ext (Mg P gb km fm) U u1:=(aF.to G).trans (Z.sub λc g=>.inl g);have E3:Ext (Mg P gb km fm) U u3:=(E1.trans (o2.ext.sub λc g=>.inr (.inr (.inl g)))).trans (A.ext.sub λc g=>.inr (.inr (.inr g)));exact Ext.dQ E3 e4 λc g=>(X c g).imp .inl λh=>by omega
    ·rcases g.1 with g|g
     ·exact(X c g).imp id λh=>by omega
     ·exact .inr O
  ·refine j.rI rfl (j.rI rfl (j.rI rfl (j.rI rfl (j.rI rfl (F9 p9 F λs u Q G hs hQ=>M _ _ ⟨D.trans G,G.bV j id,?_⟩)))));have:s.len=(QV H.sp b).length:=by have:=hs.1;simp[Wy]at this;omega
   rw[N,this,rO,kW,decide_eq_true_iff,decide_eq_true_iff];omega
def kZ (H:Hw)(x:Gu)(addr:Int):Int:=match bU x.kn addr with
 | none=>8
 | some b=>if UK H b then 5 else 0
def vN (H:Hw)(x:Gu)(addr:Int):List Int:=match bU x.kn addr with
 | none=>[]
 | some b=>if UK H b then[]else QV H.sp b
set_option maxRecDepth 16000 in
theorem FR (p:GP σ0 U L H held s0 P gb km fm x)(xi:∀e∈x.kn,e.1=e.2.1/\gT e.2)(addr:Int){R:Sl->Int->Hp->Prop}
 (hR:∀s w Q,aF U w->bT s 1 (Wy (vN H x addr)) w Q->(∀c,Q c->U.size<=c/\c<w.size)->R s (kZ H x addr) w):XY.c (aW gb) addr U R:=by
 refine XY.o ?_;unfold XY.v;refine Hi p (cD rfl (bL (p.b.rM rfl ⟨x.kn,p.m,?_⟩)));refine nw (cs:=[.int .i64 0,.int .i64 0,.int .i64 0,.int .i64 0,.int .i64 0]) λB E e2 J=>J.s1 aA λv3 o3 X=>X.s1 aA λZ o4 b4=>b4.s1 aA λv5 o5 S=>S.s1 aA λY o6 K=>K.s1 aA λv7 o7 A=>?_;have W:Ext (· = U.size) B v7:=(((o3.ext.trans o4.ext).trans o5.ext).trans o6.ext).trans o7.ext;have j:aF U v7:=Ext.fresh e2 W λi (hi:i=U.size)=>by omega
 have C:=p.fr j;have a:bZ v7 U.size (fQ ((bU x.kn addr).getD (0,0,0,0,0))):=A;have nil:∀w,bT ⟨none,0,0⟩ 1 (Wy []) w (λ_=>False):=λw=>⟨rfl,.inl ⟨rfl,rfl⟩⟩;unfold kZ vN at hR;cases hk:bU x.kn addr with
 | none=>
  rw[hk]at hR;exact cF rfl (hR _ v7 _ j (nil _) λc h=>h.elim)
 | some b=>
  rw[hk]at a hR;simp only at hR;have a:bZ v7 U.size (fQ b):=a;have z:gT b:=(xi _ (Z9 hk)).2;refine cD rfl (a.rI rfl (a.rI rfl (a.rI rfl (a.rI rfl (a.rI rfl (yR C b λN y=>?_))))));have g:=j.trans y;have V:=p.fr g;have d:=y.bV a id;refine cQ (λr=>?_) λr=>?_
  ·rw[r]at hR;exact hR _ N _ g (nil _) λc h=>h.elim
  ·rw[r]at hR;refine d.rI rfl (d.rI rfl (d.rI rfl (d.rI rfl (d.rI rfl (F9 V z λs u Q F D M=>?_)))));have:=g.1;exact hR s u Q (g.trans F) D λc G=>by have:=M c G;omega
def JH (H:Hw)(e:Int×B5):List Int:=if UK H e.2 then[]else QV H.sp e.2
def Fl (H:Hw)(x:Gu):List Int:=x.kn.flatMap (JH H)
end Go.Ar
namespace Go.Proofs
open Go.Shelf
def Tryz.ik:Go.Shelf.Ren:=⟨fun|7=>74|10=>120|n=>n,fun|23=>124|26=>3|3=>126|28=>116|0=>0|27=>115|33=>118|4=>4|n=>n,fun|n=>n⟩
theorem Tryz.lj:Go.Proofs.SlLaysZI.n7 Tryz.prog Tryz.ik:={
 mixed:=by kernel_rfl
 f7:=⟨Tryz.f74.name,by decide,Tryz.func74.trans (congrArg some (by kernel_rfl))⟩
 f10:=⟨Tryz.f120.name,by decide,Tryz.func120.trans (congrArg some (by kernel_rfl))⟩
 t0:=Tryz.underlying0
 a0:=Tryz.isAgg0
 z0:=Tryz.sizeOf0
 v0:=Tryz.zeroValue0
 t4:=Tryz.underlying4
 a4:=Tryz.isAgg4
 z4:=Tryz.sizeOf4
 v4:=Tryz.zeroValue4
 t23:=Tryz.underlying124
 a23:=Tryz.isAgg124
 z23:=Tryz.sizeOf124
 v23:=Tryz.zeroValue124
 t26:=Tryz.underlying3
 a26:=Tryz.isAgg3
 z26:=Tryz.sizeOf3
 v26:=Tryz.zeroValue3
 t27:=Tryz.underlying115
 a27:=Tryz.isAgg115
 z27:=Tryz.sizeOf115
 v27:=Tryz.zeroValue115
 t28:=Tryz.underlying116
 a28:=Tryz.isAgg116
 z28:=Tryz.sizeOf116
 v28:=Tryz.zeroValue116
 t33:=Tryz.underlying118
 a33:=Tryz.isAgg118
 z33:=Tryz.sizeOf118
 v33:=Tryz.zeroValue118}
end Go.Proofs
namespace Go.Ar
open Go Go.Vc Go.Proofs Go.RowKit Go.Maps Go.Sort Go.Shelf
open Go.Vc (bU dA cO)
open Go.Bu (k5 He VH Hb Vh xL)
variable {U w w':Hp}{F P Q X S:Rg}{L:dE}{H H':Hw}{held:List Pc}{s0 sp:Sp}{t n:Nat}{g:Th}{σ0:Hp}
def Gj:Nat:=Tryz.ik.f 10
def CQ:Nat:=Tryz.ik.t 23
theorem SN (m:Option Nat){R:Fv->Hp->Prop}(hR:R ⟨Gj,#[],#[.pointer (some ⟨U.size,0,none⟩)]⟩ (U.push (.cells #[.map m] CQ (0,0)))) :
 ZX.c m U R:=by
 rintro w rfl;refine(callsIn_wide.1 (AnyZI.keys_in Tryz.lj Fence.wide 5 trivial rfl m w)).mono ?_;rintro e a ⟨rfl,rfl⟩;exact⟨⟨rfl,rfl,rfl,r9 (by show _<(w.heap.push _).size;simp)⟩,[.func (.func Gj) #[] #[.pointer (some ⟨w.heap.size,0,none⟩)]],rfl,⟨Gj,#[],#[.pointer (some ⟨w.heap.size,0,none⟩)]⟩,rfl,hR⟩
theorem Tw {w:World}{c m:Nat}{B:List (Int×Bk)}(hc:cell w.heap ⟨c,0,none⟩=some (.map (some m)))(hm:dJ w.heap m .i64 (.ag 4) B)(hb:∀x∈B,Go.Bu.iN x.1)(hs:B.length<=1000000)(n:Nat)(hn:1<=n) :
 SeqGives Fence.wide n Tryz.prog Gj #[.pointer (some ⟨c,0,none⟩)] encZ (λss=>ss.Perm (B.map (·.1))) B.length w:=by
 obtain⟨D,j,p,a⟩:=Vh (P:=Tryz.prog) Tryz.lj.t26 hm hb hs;have b:c<w.heap.size:=by
  unfold cell at hc;split at hc
  ·rename_i h;exact(jS.1 h).1
  ·cases hc
 have:=AnyZI.keys_gives (ρ:=Tryz.ik) {Tryz.lj with} Fence.wide n trivial rfl hn c m B.length D w b hc j;intro l J W hW hJ hY h0;rw[a]at this;refine(this l J W hW hJ hY h0).mono ?_;rintro e W' ⟨g,ss,i,d⟩;exact⟨g,ss,i.trans p,d⟩
theorem Od {c m:Nat}{B:List (Int×Bk)}(hc:cell U ⟨c,0,none⟩=some (.map (some m)))(hm:dJ U m .i64 (.ag 4) B)(hb:∀x∈B,Go.Bu.iN x.1)(hs:B.length<=1000000){R:Sl->Hp->Prop}
 (hR:∀(s:Sl) (σ':Hp) (ss:List Int),aF U σ'->ss.Perm (B.map (·.1))->ss.Pairwise (· <= ·)->k5 U.size σ' s (ss.map (Value.int .i64))->R s σ') :
 Kl.c ⟨Gj,#[],#[.pointer (some ⟨c,0,none⟩)]⟩ U R:=by
 rintro w rfl;have d:=Tw hc hm hb hs 2 O;have j:B.length<=maxLen:=by unfold maxLen;omega
 have u:=AnyZI.sorted_in Tryz.nr Fence.wide 5 trivial trivial trivial trivial rfl O (xL _) (Tryz.nv.f5.enters rfl) Gj #[.pointer (some ⟨c,0,none⟩)] trivial (Tryz.lj.f10.enters rfl) _ _ j O _ d;refine(callsIn_wide.1 u).mono ?_;rintro e D ⟨v,ss,rfl,z,i,r,g⟩;obtain⟨s,rfl,p⟩:=He i;refine⟨Hb g,[.slice s.a s.len s.cap],rfl,s,rfl,?_⟩;refine hR s _ (ss.mergeSort λx y=>decide (x<=y)) (VH g) ((List.mergeSort_perm _ _).trans z) ?_ p;have:=List.pairwise_mergeSort (le:=λx y:Int=>decide (x<=y)) (λa b c C A=>by simp at *;omega) (λa b=>by simp;omega) ss;exact this.imp (λh=>by simpa using h)
def kM (b:Bk):List Value:=[.int .i64 b.1,.int .i64 b.2.1,.int .i64 b.2.2.1,.int .i64 b.2.2.2]
def gQ (bs:List Bk):List Value:=bs.flatMap kM
theorem Hh (bs:List Bk):(gQ bs).length=bs.length*4:=by
 unfold gQ
 induction bs with
 | nil=>rfl
 | cons b bs ih=>rw[oy,zJ,ih];simp[kM];omega
theorem CX:∀{bs:List Bk} {i:Nat} {b:Bk},bs[i]?=some b->∀{j:Nat} {v:Value},(kM b)[j]?=some v->(gQ bs)[4*i+j]?=some v
 | [],i,b,h,_,_,_=>by simp at h
 | a::bs,0,b,h,j,v,hv=>by
  simp only[Ad,Option.some.injEq]at h;subst h;have hj:=(cX.1 hv).1;show(kM a++gQ bs)[4*0+j]?=_;rw[show 4*0+j=j by omega,zd hj];exact hv
 | a::bs,i+1,b,h,j,v,hv=>by
  have d:=CX (bs:=bs) (i:=i) (b:=b) (by simpa using h) hv;show(kM a++gQ bs)[4*(i+1)+j]?=_;rw[zp (by simp[kM];omega)];have:4*(i+1)+j-(kM a).length=4*i+j:=by simp[kM];omega
  rw[this];exact d
structure wN (live:List (Int×Bk)) (bs:List Bk):Prop where
 len:bs.length=live.length
 mem:∀b,b∈bs↔(b.1,b)∈live
 qT:bs.Pairwise λa b=>a.1<b.1
theorem HI.pD (h:HI H held s0):H.live.length<=1000000:=by
 have g:(H.live.map λe=>e.1.toNat).Nodup:=by
  have p:=kS.1 h.lk;refine kS.2 λi j hi m d e=>?_;have a:i<H.live.length:=by simpa using hi
  have b:j<H.live.length:=by simpa using m
  refine p i j (by simpa using a) (by simpa using b) d ?_;simp only[sC]at e ⊢;have w:=(h.ka (zt a)).2.1;have u:=(h.ka (zt b)).2.1;omega
 have:=BZ 270000 _ g λx s=>by
  obtain⟨e,r,rfl⟩:=zD.1 s;have:=h.ka r;omega
 have y:(H.live.map λe=>e.1.toNat).length=H.live.length:=by simp
 omega
theorem cV.pw {B:Nat}{s:Sl}{xs:List Value}(h:k5 B U s xs):cV s 1 xs U (λb=>B<=b):=by
 refine⟨by have:=h.1;omega,?_⟩;rcases h.2 with⟨h0,_⟩|⟨b,cs,hb,ha,hk,hc⟩
 ·exact .inl h0
 ·exact .inr ⟨b,0,cs,hb,ha,hk.q,λj a=>by rw[zH];exact hc j a⟩
set_option maxRecDepth 8000 in
theorem RP (h:HH U F L H)(hi:HI H held s0){R:Sl->Hp->Prop}(hR:∀s σ' bs,aF U σ'->wN H.live bs->bT s 4 (gQ bs) σ' (λb=>U.size<=b)->R s σ'):ZL.c (aW L.p) U R:=by
 refine ZL.o ?_;unfold ZL.v;have C:∀x∈H.live,Go.Bu.iN x.1:=λx d=>by have:=hi.ka d;unfold Go.Bu.iN;omega
 have W:=hi.pD;refine UE h (cD rfl (bL (h.hd.rM rfl (SN _ ?_))));have e1:aF U (U.push (.cells #[.map (some L.lm)] CQ (0,0))):=Ext.push _ _ _;have J:=h.bP e1;refine Od (by unfold cell;simp) J.lf C W λs y ss e2 G E hs=>?_;have P:=e1.trans e2;have D:=cV.pw hs;have V:ss.Nodup:=G.nodup_iff.2 hi.lk;have u:ss.length=H.live.length:=by rw[G.length_eq];simp
 have hsl:s.len=ss.length:=by have:=D.1;simp at this;omega
 have B:∀x∈ss,∃b,bU H.live x=some b/\b.1=x:=λx d=>by
  obtain⟨e,he,rfl⟩:=zD.1 (G.mem_iff.1 d);exact⟨e.2,ZA hi.lk he,(hi.lv e he).1⟩
 let f:Int->Bk:=λx=>(bU H.live x).getD (0,0,0,0)
 have r:∀x∈ss,(f x).1=x/\bU H.live x=some (f x):=λx d=>by
  obtain⟨b,g,K⟩:=B x d;have:f x=b:=by show(bU H.live x).getD _=b;rw[g];rfl
  rw[this];exact⟨K,g⟩
 have hz1:U.size<y.size:=by
  have J:=e2.1;have Y:(U.push (.cells #[.map (some L.lm)] CQ (0,0))).size=U.size+1:=by simp
  omega
 refine UC (a:=.s) (bb:=bO) (λ(out:Sl) (z:Int) w=>∃i:Nat,z=i/\i<=ss.length/\aF y w/\bT out 4 (gQ ((ss.take i).map f)) w (λb=>y.size<=b)) (λ_ z _=>ss.length-z.toNat) ⟨0,rfl,O,Ext.refl _ _,⟨by simp[gQ],.inl ⟨rfl,rfl⟩⟩⟩ ?_;rintro(out:Sl) (z:Int) w ⟨i,rfl,hil,ew,hr⟩;have hw:=J.bP (e2.trans ew);refine cN (λA=>?_) λhge=>?_
 ·have d:ss[i]?=some (ss[i]' O):=cW _;have hol:out.len=i:=by have:=hr.1;rw[Hh]at this;simp at this;omega
  refine(aH.bP (aH.cut D) ew).lQ d (bL (hw.hd.rM rfl ⟨H.live,hw.lf,?_⟩));refine hr.push (F:=λb=>y.size<=b) (vs:=kM (f (ss[i]' O))) (λb g=>by have:=ew.1;omega) rfl rfl (by simp[kM,dS]) O O λs' w' X Q S=>?_;have e3:aF y w':=Ext.fresh ew Q λb g=>g;refine cT (m:=i+1) O O ⟨⟨i+1,rfl,O,e3,?_⟩,O⟩;have:gQ ((ss.take (i+1)).map f)=gQ ((ss.take i).map f)++kM (f (ss[i]' O)):=by
   unfold gQ;rw[j6,d,zj,Bv];simp only[qD,zR,ny,oy,List.flatMap_nil,kb]
  rw[this];exact S
 ·have M:i=ss.length:=by omega
  subst M;rw[lL]at hr;refine hR out w (ss.map f) (P.trans ew) ⟨by simp[u],λb=>?_,?_⟩ (aI.mono hr λb _ g=>by
   show U.size<=b;have g:y.size<=b:=g;omega)
  ·constructor
   ·intro g;obtain⟨x,d,rfl⟩:=zD.1 g;obtain⟨q1,q2⟩:=r x d;rw[q1];exact Z9 q2
   ·intro g;have d:b.1∈ss:=G.mem_iff.2 (zD.2 ⟨_,g,rfl⟩);refine zD.2 ⟨b.1,d,?_⟩;have:=(r _ d).2;rw[ZA hi.lk g]at this;exact(Option.some.inj this).symm
  ·rw[q9];have A:ss.Pairwise (· < ·):=(E.and V).imp λ⟨J,Y⟩=>by
    have:_≠_:=Y;omega
   refine kS.2 λi j hi Z N=>?_;rw[(r _ (zt hi)).1,(r _ (zt Z)).1];exact kS.1 A i j hi Z N
theorem An {s:Sl}{bs:List Bk}(hs:cV s 4 (gQ bs) U F){i:Nat}{b:Bk}(hb:bs[i]?=some b){K:Addr->Prop}(hK:∀bb o,(∀(j:Nat) v,(kM b)[j]?=some v->cell U ⟨bb,o+j,none⟩=some v)->K ⟨bb,o,none⟩):Ix s.a s.len (i:Int) 4 K:=by
 have m:=(cX.1 hb).1;have x:s.len=bs.length:=by have:=hs.1;rw[Hh]at this;omega
 obtain⟨bb,o,g,u⟩:=hs.cell (CX hb (j:=0) rfl);rw[g];refine ix O O ?_;rw[add_lit,dG];refine hK bb _ λj v p=>?_;obtain⟨w,y,d,r⟩:=hs.cell (CX hb p);rw[g]at d;cases d;rw[←r];congr 2;omega
end Go.Ar
namespace Go.Proofs
open Go.Shelf
def Tryz.ig:Go.Shelf.Ren:=⟨fun|7=>67|10=>113|n=>n,fun|23=>72|26=>3|3=>106|28=>116|0=>0|27=>115|33=>118|4=>4|n=>n,fun|n=>n⟩
theorem Tryz.lA:Go.Proofs.SlLaysZI.n7 Tryz.prog Tryz.ig:={
 mixed:=by kernel_rfl
 f7:=⟨Tryz.f67.name,by decide,Tryz.func67.trans (congrArg some (by kernel_rfl))⟩
 f10:=⟨Tryz.f113.name,by decide,Tryz.func113.trans (congrArg some (by kernel_rfl))⟩
 t0:=Tryz.underlying0
 a0:=Tryz.isAgg0
 z0:=Tryz.sizeOf0
 v0:=Tryz.zeroValue0
 t4:=Tryz.underlying4
 a4:=Tryz.isAgg4
 z4:=Tryz.sizeOf4
 v4:=Tryz.zeroValue4
 t23:=Tryz.underlying72
 a23:=Tryz.isAgg72
 z23:=Tryz.sizeOf72
 v23:=Tryz.zeroValue72
 t26:=Tryz.underlying3
 a26:=Tryz.isAgg3
 z26:=Tryz.sizeOf3
 v26:=Tryz.zeroValue3
 t27:=Tryz.underlying115
 a27:=Tryz.isAgg115
 z27:=Tryz.sizeOf115
 v27:=Tryz.zeroValue115
 t28:=Tryz.underlying116
 a28:=Tryz.isAgg116
 z28:=Tryz.sizeOf116
 v28:=Tryz.zeroValue116
 t33:=Tryz.underlying118
 a33:=Tryz.isAgg118
 z33:=Tryz.sizeOf118
 v33:=Tryz.zeroValue118}
end Go.Proofs
namespace Go.Proofs
open Go.Vc
set_option maxRecDepth 100000
def XK.h:Hn:=.q .o1 (.q (.q .o5 .aK) (.q (.q .o1 (.k (.loop [(5,.I)] (.q (.q .o4 (.c .l .l)) (.q (.k (.q (.oq 9) .aK)) .o3))))) .aM))
def XK.v (a b:Sl)(c:Hp)(d:aO):Prop:=If (((a.len:Nat):Int) != ((b.len:Nat):Int)) (d false c) (X6 [bO] (λe=>e 0 c) λf (g:Int) h=>If (g<((a.len:Nat):Int)) (Ix a.a a.len g 1 λi=>bN i h λj=>Ix b.a b.len g 1 λk=>bN k h λl=>If (j != l) (d false h) (bM (g+1) λm=>f m h)) (d true h))
theorem XK.o {a b c d}(e:XK.v a b c d):XK.c a b c d:=Wa Tryz.func19 (x:=XK.h) (R0 e)
end Go.Proofs
namespace Go.Ar
open Go Go.Vc Go.Proofs Go.RowKit Go.Maps Go.Sort Go.Shelf
open Go.Vc (bU dA cO)
open Go.Bu (k5 He VH Hb Vh xL)
variable {size align:Int}{U σ0 v w w':Hp}{F P Q X T:Rg}{L:dE}{H H' H1:Hw}{held:List Pc}{s0 sp:Sp}{t n:Nat}{g:Th}{gb km fm m:Nat}{x y:Gu}{b:B5}
theorem DC {k:IntKind}{c:CK}{l:List (Int×c.T)}{r:Nat}{a a':CK}{x0:a.T}{y0:a'.T}{A:a.T->a'.T->Hp->Prop}{body:Int->c.T->a.T->a'.T->Hp->(a.T->a'.T->Hp->Prop)->Prop}(hm:dJ U r k c l)(I:List (Int×c.T)->a.T->a'.T->Hp->Prop)
 (h0:∀v,v.size=U.size+1->aF U v->I l x0 y0 v)
 (hend:∀z y v,I [] z y v->A z y v)
 (hstep:∀todo n x z y v v' (J:a.T->a'.T->Hp->Prop),I todo z y v->(n,x)∈todo->Ka v v' U.size->U.size<v.size->(∀z' y' w,w[U.size]?=v'[U.size]?->w[r]?=v'[r]?->I (todo.filter λy=>!(y.1==n)) z' y' w->J z' y' w)->body n x z y v' J) :
 pz k c (some r) U λit v3=>X6 [a,a'] (λI=>I x0 y0 v3) λJ1 z y v4=>oT k c it v4 (A z y v4) λ_ _ v5=>oY k c it v5 λkey1 val1=>body key1 val1 z y v5 J1:=by
 refine⟨l,hm,λv M N hi=>?_⟩;have P:aF U v:=⟨O,λb s _=>N b s⟩;refine UC (a:=a) (bb:=a') (λz y w=>∃todo g,It w U.size k c (some r) l todo g/\I todo z y w/\U.size<w.size) (λ_ _ w=>yh w U.size r) ⟨l,none,hi,h0 v M P,O⟩ ?_;rintro z y w ⟨todo,g,i,D,C⟩;refine⟨rfl,some r,l,todo,g,i,λK=>?_,λn x F Q G j=>?_⟩
 ·subst K;exact hend z y w D
 ·refine⟨rfl,some r,l,_,n,x,j,hstep todo n x z y w Q _ D F G C λz' y' u m p B=>?_⟩;have d:=j.bS m p;refine⟨⟨_,_,d,B,?_⟩,?_⟩
  ·obtain⟨R,L,E,H,_⟩:=d;exact(jS.1 H).1
  ·rw[d.num,i.num];exact Cb.2 ⟨(n,x),F,by simp⟩
def mE (ofV:B5->Int)(addr:Int)(b:B5):Prop:=b.1<=addr/\addr<b.1+ofV b
instance (ofV:B5->Int) (addr:Int) (b:B5):Decidable (mE ofV addr b):=by unfold mE;infer_instance
set_option maxRecDepth 16000 in
theorem M0 (p:GP σ0 U L H held s0 P gb km fm x)(xi:∀e∈x.kn,e.1=e.2.1/\gT e.2)(addr:Int){ofv:Fv}{ofV:B5->Int}(hov:∀b,gT b->0<=ofV b/\ofV b<=100000)
 (hof:∀(b:B5) (u:Hp) (K:aN),gT b->(∀u',aF u u'->K (ofV b) u')->VU Tryz.prog ofv [.agg #[.int .i64 b.1,.int .i64 b.2.1,.int .i64 b.2.2.1,.int .i64 b.2.2.2.1,.int .i64 b.2.2.2.2]] [.one bO] u K)
 {R:Int->Int->Int->Int->Int->Bool->Hp->Prop}
 (h0:∀(b:B5) w,aF U w->(∀e∈x.kn,¬mE ofV addr e.2)->R b.1 b.2.1 b.2.2.1 b.2.2.2.1 b.2.2.2.2 false w)
 (h1:∀e w,aF U w->e∈x.kn->mE ofV addr e.2->R e.2.1 e.2.2.1 e.2.2.2.1 e.2.2.2.2.1 e.2.2.2.2.2 true w) :
 ZN.c (aW gb) addr ofv U R:=by
 refine ZN.o ?_;unfold ZN.v;refine nw (cs:=fQ (0,0,0,0,0)) λv hz e b6=>nw (cs:=fQ (0,0,0,0,0)) λv1 hz1 e1 b8=>?_;have e01:=e.trans e1;have p1:=p.fr e01;refine bL (p1.b.rM rfl ?_);refine DC (a:=.b) (a':=.b) p1.m (λj (d D:Bool) u=>aF U u/\v1.size<u.size/\bZ u U.size (fQ (0,0,0,0,0))/\(∀e∈j,e∈x.kn)/\∃iR:B5,bZ u v.size (fQ iR)/\(d=false->∀e∈x.kn,e∈j\/¬mE ofV addr e.2)/\(d=true->∃e∈x.kn,e.2=iR/\mE ofV addr e.2))
  (λu hu Y=>⟨e01.trans Y,O,Y.bV (e1.bV b6 id) id,λe F=>F,(0,0,0,0,0),Y.bV b8 id,λ_ e F=>.inl F,λh=>by cases h⟩) ?_ ?_
 ·rintro(d:Bool) (D:Bool) u ⟨Y,hlt,hb6,_,iR,C,hf0,hf1⟩;refine C.rI rfl (C.rI rfl (C.rI rfl (C.rI rfl (C.rI rfl ?_))));refine hb6.s1 (by simp[fQ]) λv3 o3 b3=>b3.s1 (by simp[fQ]) λv4 o4 b4=>b4.s1 (by simp[fQ]) λv5 o5 b5=>b5.s1 (by simp[fQ]) λv6 o6 b6=>b6.s1 (by simp[fQ]) λv7 o7 b7=>?_;have eo:Ext (· = U.size) u v7:=(((o3.ext.trans o4.ext).trans o5.ext).trans o6.ext).trans o7.ext;have e7:aF U v7:=Ext.fresh Y eo λi (hi:i=U.size)=>by omega
  have A:bZ v7 U.size (fQ iR):=b7;refine A.rI rfl (A.rI rfl (A.rI rfl (A.rI rfl (A.rI rfl ?_))));cases d with
  | false=>exact h0 iR v7 e7 λe F=>(hf0 rfl e F).resolve_left aA
  | true=>
   obtain⟨e,F,rfl,G⟩:=hf1 rfl;exact h1 e v7 e7 F G
 ·rintro j k (b:B5) (d:Bool) (D:Bool) u u' J ⟨Y,hlt,hb6,E,iR,C,hf0,hf1⟩ Q o1 hs1 hJ;have bi:gT b:=(xi _ (E _ Q)).2;have ov:=hov b bi;have zu:=Y.1;have hz':=o1.1;have hbm:=bi.m;have hbz:=bi.z;have hbb:=bi.base;have hbt:=bi.t;have hbs:=bi.s;have hww:=ZU (n:=b.2.1) O;have eu':aF U u':=Ext.fresh Y o1.ext λc (hc:c=v1.size)=>by omega
  have X:=o1.ext.bV hb6 (show ¬U.size=v1.size by omega);have aa:=o1.ext.bV C (show ¬v.size=v1.size by omega);have hkm:=p.m.lt;refine nw (cs:=fQ (0,0,0,0,0)) λv2 hz2 e2 b2=>b2.s1 (by simp[fQ]) λv3 o3 b3=>b3.s1 (by simp[fQ]) λv4 o4 b4=>b4.s1 (by simp[fQ]) λv5 o5 b5=>b5.s1 (by simp[fQ]) λv6 o6 b6=>b6.s1 (by simp[fQ]) λv7 o7 b7=>?_;have eo:Ext (· = u'.size) v2 v7:=(((o3.ext.trans o4.ext).trans o5.ext).trans o6.ext).trans o7.ext;have e7:aF u' v7:=Ext.fresh e2 eo λi (hi:i=u'.size)=>by omega
  have A:bZ v7 u'.size (fQ b):=b7;have V:∀{w:Hp},aF u' w->w[v1.size]?=u'[v1.size]?/\w[km]?=u'[km]? := λe=>⟨e.2 _ O id,e.2 _ O id⟩;have N:∀e∈j.filter (λy=>!(y.1==k)),e∈x.kn:=λe F=>E e (zL.1 F).1;have hkb:∀e∈x.kn,e∈j->e∈j.filter (λy=>!(y.1==k))\/e=(k,b):=λe F ht=>by
   by_cases hk:e.1=k
   ·right;have h1:=ZA p.m.nodup (show(e.1,e.2)∈x.kn from F);have h2:=ZA p.m.nodup (E _ Q);rw[hk,h2]at h1;exact Prod.ext hk (Option.some.inj h1).symm
   ·exact .inl (zL.2 ⟨ht,by simpa using hk⟩)
  have same:∀w,aF u' w->(d=false->¬mE ofV addr b)->J d D w:=λw ew hnb=>by
   have zw:=ew.1;refine hJ d D w (V ew).1 (V ew).2 ⟨eu'.trans ew,O,ew.bV X id,N,iR,ew.bV aa id,λB e F=>?_,hf1⟩;rcases hf0 B e F with h|h
   ·rcases hkb e F h with h|rfl
    ·exact .inl h
    ·exact .inr (hnb B)
   ·exact .inr h
  refine xV (λr u2=>aF u' u2/\bZ u2 u'.size (fQ b)/\r = !decide (mE ofV addr b)) (λr u2 ⟨eu2,M,hr⟩=>?_) λJ1 hJ1=>?_
  ·by_cases G:mE ofV addr b
   ·refine cD (by rw[hr,zI G];rfl) ?_;have pu:=(p.fr eu').fr eu2;refine M.rI rfl (M.rI rfl (M.rI rfl (M.rI rfl (M.rI rfl (yR pu b λW e17=>?_)))));have E17:=eu2.trans e17;have g:=e17.bV M id;have h617:=E17.bV X id;have Z:=E17.bV aa id;refine KM (λr u3=>u3=W/\(d=false->r=true)) (λr u3 ⟨hu3,hr3⟩=>?_) λJ2 hJ2=>?_
    ·rw[hu3];refine KM (λr1 u4=>u4=W/\(d=false->r1=true)) (λr1 u4 ⟨hu4,hr4⟩=>?_) λJ3 hJ3=>?_
     ·rw[hu4];refine cQ (λh1=>?_) λh1=>same W E17 λB=>by rw[hr4 B]at h1;cases h1
      refine g.rI rfl (g.rI rfl (g.rI rfl (g.rI rfl (g.rI rfl ?_))));refine Z.s1 (by simp[fQ]) λw3 q3 c3=>c3.s1 (by simp[fQ]) λw4 q4 c4=>c4.s1 (by simp[fQ]) λw5 q5 c5=>c5.s1 (by simp[fQ]) λw6 q6 c6=>c6.s1 (by simp[fQ]) λw7 q7 c7=>?_;have qo:Ext (· = v.size) W w7:=(((q3.ext.trans q4.ext).trans q5.ext).trans q6.ext).trans q7.ext;have c7':bZ w7 v.size (fQ b):=c7;have z17:=E17.1;have zq:=qo.1;refine hJ true _ w7 ?_ ?_ ⟨Ext.fresh (eu'.trans E17) qo λc (hc:c=v.size)=>O,O,qo.bV h617 (show ¬U.size=v.size by omega),N,b,c7',λh=>(by cases h),λ_=>⟨(k,b),E _ Q,rfl,G⟩⟩
      ·rw[qo.2 _ O (show ¬v1.size=v.size by omega)];exact(V E17).1
      ·rw[qo.2 _ O (show ¬km=v.size by omega)];exact(V E17).2
     ·refine cQ (λh=>hJ3 _ _ ⟨rfl,λ_=>rfl⟩) λh=>?_;have S:¬d=false:=λB=>by rw[hr3 B]at h;cases h
      exact bX.intro (cQ (λ_=>g.rI rfl (Z.rI rfl (hJ3 _ _ ⟨rfl,λB=>(S B).elim⟩))) λ_=>hJ3 _ _ ⟨rfl,λB=>(S B).elim⟩)
    ·refine cQ (λh=>hJ2 _ _ ⟨rfl,λ_=>rfl⟩) λh=>?_;have S:¬d=false:=λB=>by rw[B]at h;cases h
     exact bX.intro (cQ (λ_=>hJ2 _ _ ⟨rfl,λB=>(S B).elim⟩) λ_=>hJ2 _ _ ⟨rfl,λB=>(S B).elim⟩)
   ·exact cF (by rw[hr,zM G];rfl) (same u2 eu2 λ_=>G)
  ·have hS:∀m,aF v7 m->bZ m u'.size (fQ b):=λm e=>e.bV A id;refine⟨λm=>aF v7 m,Ext.refl _ _,qv (c:=bO) (y:=b.1) hS rfl (cN (λh=>hJ1 _ _ ⟨e7,A,?_⟩) λh=>?_)⟩
   ·rw[zM];rfl;rintro⟨h1,_⟩;exact absurd h O
   ·refine qv (c:=bO) (y:=b.1) hS rfl (gL (c:=bO) (y:=b.1) hS rfl (gL (c:=bO) (y:=b.2.1) hS rfl (gL (c:=bO) (y:=b.2.2.1) hS rfl (gL (c:=bO) (y:=b.2.2.2.1) hS rfl (gL (c:=bO) (y:=b.2.2.2.2) hS rfl (hof b v7 _ bi λu3 e3=>⟨e3,ar O O (hJ1 _ _ ⟨e7.trans e3,e3.bV A id,?_⟩)⟩))))));rw[kW,mO,decide_eq_true_iff,decide_eq_false_iff_not];unfold mE;omega
theorem PT (b:B5)(u:Hp)(K:aN)(bi:gT b)(hK:∀u',aF u u'->K (ZE b.2.1) u'):VU Tryz.prog ⟨98,#[],#[]⟩ [.agg #[.int .i64 b.1,.int .i64 b.2.1,.int .i64 b.2.2.1,.int .i64 b.2.2.2.1,.int .i64 b.2.2.2.2]] [.one bO] u K:=by
 have:=bi.s;refine G8 (all := #[.agg #[.int .i64 b.1,.int .i64 b.2.1,.int .i64 b.2.2.1,.int .i64 b.2.2.2.1,.int .i64 b.2.2.2.2]]) (by kernel_rfl) aA ?_;exact H7 b O O hK
def Ll (addr:Int)(b:B5):Prop:=mE (λb=>ZE b.2.1) addr b
def pc (H:Hw)(x:Gu)(addr e:Int):Prop:=(e=7/\((∀k∈x.kn,¬Ll addr k.2)\/addr%8≠0))\/(∃k∈x.kn,Ll addr k.2/\addr%8=0/\e=if UK H k.2 then 5 else 0)
set_option maxRecDepth 16000 in
theorem Lh (p:GP σ0 U L H held s0 P gb km fm x)(xi:∀e∈x.kn,e.1=e.2.1/\gT e.2)(addr:Int){R:aN}(hR:∀e w,aF U w->pc H x addr e->R e w):Yq.c (aW gb) addr U R:=by
 refine Yq.o ?_;unfold Yq.v;have B:∀b,gT b->0<=ZE b.2.1/\ZE b.2.1<=100000:=λb A=>by have:=A.s;have:=ZU (n:=b.2.1) O;omega
 have box:∀{ty:Nat} {w:Hp} {D Q N E S:Int} {K:Addr->Hp->Prop},(∀g,aF w g->bZ g w.size (fQ (D,Q,N,E,S))->K ⟨w.size,0,none⟩ g) →
  Nw (.cells #[.int .i64 0,.int .i64 0,.int .i64 0,.int .i64 0,.int .i64 0] ty (0,0)) w λm W=>dX (m.add 0) (.int .i64 D) W λv3=>dX (m.add 1) (.int .i64 Q) v3 λY=>dX (m.add 2) (.int .i64 N) Y λZ=>dX (m.add 3) (.int .i64 E) Z λV=>dX (m.add 4) (.int .i64 S) V λv7=>K m v7:=λ{ty w D Q N E S K} hK=>
  nw (cs:=fQ (0,0,0,0,0)) λW hz2 e2 b2=>b2.s1 (by simp[fQ]) λv3 o3 b3=>b3.s1 (by simp[fQ]) λY o4 b4=>b4.s1 (by simp[fQ]) λZ o5 b5=>b5.s1 (by simp[fQ]) λV o6 b6=>b6.s1 (by simp[fQ]) λv7 o7 d=>
   hK v7 (Ext.fresh e2 ((((o3.ext.trans o4.ext).trans o5.ext).trans o6.ext).trans o7.ext) λi (hi:i=w.size)=>O) d
 refine Hi p (cD rfl (M0 p xi addr B PT (λb w G hn=>?_) λk w G C j=>?_))
 ·refine box λg F d=>bX.intro (cF rfl (cF rfl (hR 7 g (G.trans F) (.inl ⟨rfl,.inl hn⟩))))
 ·refine box λg F d=>?_;have A:gT k.2:=(xi _ C).2;have h0:0<=addr:=by have:=j.1;have:=A.z;have:=A.base;omega
  have a:=G.trans F;refine KM (λr u=>u=g/\r=decide (addr%8≠0)) (λr u ⟨hu,hr⟩=>?_) λJ hJ=>cD rfl (nz aB (hJ _ _ ⟨rfl,?_⟩))
  ·rw[hu];by_cases h8:addr%8≠0
   ·exact cF (by rw[hr];exact zI h8) (hR 7 g a (.inl ⟨rfl,.inr h8⟩))
   ·refine cD (by rw[hr];exact zM h8) (d.rI rfl (d.rI rfl (d.rI rfl (d.rI rfl (d.rI rfl (yR (p.fr a) k.2 λX e9=>?_))))));have y:addr%8=0:=by omega
    refine cQ (λM=>hR 5 X (a.trans e9) (.inr ⟨k,C,j,y,by rw[M];rfl⟩)) λM=>hR 0 X (a.trans e9) (.inr ⟨k,C,j,y,by rw[M];rfl⟩)
  ·rw[Kj h0];by_cases h8:addr%8=0
   ·rw[h8];decide
   ·rw[zI h8];simpa using h8
theorem NZ (p:GP σ0 U L H held s0 P gb km fm x)(xi:∀e∈x.kn,e.1=e.2.1/\gT e.2)(addr:Int)(ha:addr<=9223372036854775807){R:Int->Int->Hp->Prop}(h0:∀e w,e≠0->aF U w->pc H x addr e->R 0 e w)(h1:∀w,aF U w->pc H x addr 0->R (QZ H.sp addr) (eI H.sp addr) w):Y6.c (aW gb) addr U R:=by
 refine Y6.o ?_;unfold Y6.v;refine Lh p xi addr λe w g i=>cQ (λa=>h0 e w (by simpa using a) g i) λd=>?_;have r:e=0:=by simpa using d
 subst r;have j:=p.fr g;exact bL (j.b.rP rfl (C6 j.h addr ha λm e2=>h1 m (g.trans e2) i))
theorem PW (p:GP σ0 U L H held s0 P gb km fm x)(gc:Gc σ0)(xi:∀e∈x.kn,e.1=e.2.1/\gT e.2)(addr u:Int)(ha:addr<=9223372036854775807){R:aN}(h0:∀e w,e≠0->aF U w->pc H x addr e->R e w)
 (h1:∀w s0' P',pc H x addr 0->Ext P U w->GP σ0 w L {H with sp:=ZF H.sp addr u} held s0' P' gb km fm x->(∀c,P' c->P c\/U.size<=c)->R (eI H.sp addr) w):YA.c (aW gb) addr u U R:=by
 refine YA.o ?_;unfold YA.v;refine Lh p xi addr λe w a j=>cQ (λd=>h0 e w (by simpa using d) a j) λi=>?_;have y:e=0:=by simpa using i
 subst y;have m:=p.fr a;have A:=a.1;exact bL (m.b.rP rfl (m.write gc addr u ha λr s2 P2 e2 s g=>h1 r s2 P2 j ((aF.to a).trans e2) s λc z=>(g c z).imp id λh=>O))
theorem yG (p:GP σ0 U L H held s0 P gb km fm x){R:Option Addr->Hp->Prop}(hR:R (some ⟨L.p,0,none⟩) U):XE.c (aW gb) U R:=by
 refine XE.o ?_;unfold XE.v;exact Hi p (cD rfl (bL (p.b.rP rfl hR)))
end Go.Ar
namespace Go.Ar
open Go Go.Vc Go.Proofs
open Go.Vc (bU dA cO)
variable {size align:Int}{U σ0 v w w':Hp}{F P Q X T:Rg}{L:dE}{H H' H1:Hw}{held:List Pc}{s0 sp:Sp}{t n:Nat}{g:Th}{gb km fm m:Nat}{x y:Gu}{b:B5}
theorem iK.yo {n m:Nat}{H H1 H2:Hw}{t:Nat}{p:Ph}{a1 e1 a2 e2:Int}(h:iK n H t p H1 a1 e1)(h':iK m H t p H2 a2 e2):H1=H2/\a1=a2/\e1=e2:=by
 induction h generalizing m with
 | done h1 h2=>
  cases h' with
  | done=>exact⟨rfl,rfl,rfl⟩
  | next _ h3 _=>rw[h2]at h3;cases h3
 | next h1 h2 _ ih=>
  cases h' with
  | done _ h3=>rw[h2]at h3;cases h3
  | next _ h3 h4=>rw[h2]at h3;cases h3;exact ih h4
theorem KK.yo {thread kind size align addr a1 e1 a2 e2:Int}{H1 H2:Hw}(h:KK H thread kind size align addr H1 a1 e1)(h':KK H thread kind size align addr H2 a2 e2):H1=H2/\a1=a2/\e1=e2:=by
 rcases h with⟨h1,_,rfl,rfl⟩|⟨t,p,n,h1,h2⟩
 ·rcases h' with⟨g1,_,rfl,rfl⟩|⟨_,_,_,g1,_⟩
  ·rw[h1]at g1;cases g1;exact⟨rfl,rfl,rfl⟩
  ·rw[h1]at g1;cases g1
 ·rcases h' with⟨g1,_⟩|⟨_,_,_,g1,g2⟩
  ·rw[h1]at g1;cases g1
  ·rw[h1]at g1;cases g1;exact h2.yo g2
theorem Ou:uU w0 64:=by
 have h:=JA (xs:=rZ 8) (p:=64) (a:=1) (t:=1) (b:=1024) (r:=2) (GQ 8 aB aB) aB;rw[wO]at h;exact h
theorem M8 {a:Option Addr}{thread addr:Int}{R:aN}(h:XS.c a thread addr true U R):Y3.c a thread addr U R:=Y3.o (by unfold Y3.v;exact h)
theorem HJ (H:Hw)(thread:Int):UH H thread=if 0<=thread/\thread<(H.bR.length:Int)then fG H thread.toNat else none:=by
 unfold UH fG;split
 ·cases H.bR[thread.toNat]?<;>rfl
 ·rfl
theorem SB (o:fR H H')(thread:Int):ZH H' thread=ZH H thread:=by
 unfold ZH;rw[HJ,HJ,o.kp.2.1,o.kp.2.2.1,o.ph]
theorem Iu {a b:Sl}{xs ys:List Int}{G:Rg}(ha:cV a 1 (Wy xs) U F)(hb:cV b 1 (Wy ys) U G)(hl:xs.length<=1000000000){R:aO}(hR:R (decide (xs=ys)) U):XK.c a b U R:=by
 refine XK.o ?_;unfold XK.v;have B:a.len=xs.length:=by have:=ha.1;simp[Wy]at this;omega
 have z:b.len=ys.length:=by have:=hb.1;simp[Wy]at this;omega
 rw[B,z,rH];refine cQ (λu=>?_) λu=>?_
 ·have d:xs.length≠ys.length:=by simpa using u
  rw[zM λe=>d (by rw[e])]at hR;exact hR
 have J:xs.length=ys.length:=by simpa using u
 refine Qv (a:=bO) (λ(t:Int) v=>∃i:Nat,t=(i:Int)/\i<=xs.length/\v=U/\xs.take i=ys.take i) (λt _=>xs.length-t.toNat) ⟨0,rfl,O,rfl,rfl⟩ ?_;rintro t v ⟨i,rfl,hi,rfl,j⟩;refine cN (λD=>?_) λH=>?_
 ·have w:i<xs.length:=by omega
  have g:xs[i]?=some xs[i]:=cW w;have p:ys[i]?=some (ys[i]' O):=cW _;generalize xs[i]=x at g;generalize ys[i]' O=y at p;rw[←B,←z];refine ha.lQ g (hb.lQ p (cQ (λd=>?_) λs=>?_))
  ·have C:x≠y:=by simpa using d
   rw[zM]at hR
   ·exact hR
   ·intro e;rw[e,p]at g;exact C (Option.some.inj g).symm
  ·have r:x=y:=by simpa using s
   refine cT (m:=i+1) O O ⟨⟨i+1,rfl,O,rfl,?_⟩,O⟩;rw[j6,j6,j,g,p,r]
 ·have E:i=xs.length:=by omega
  have:xs=ys:=by
   have A:=j;rw[lN O,lN O]at A;exact A
  rw[zI this]at hR;exact hR
def gm:Hw×Int×Int:=(UY w0 0 0 56 16 0).getD (w0,0,99)
theorem C8:gm.2=(4096,0):=by decide +kernel
theorem DE:KK w0 0 0 56 16 0 gm.1 4096 0:=by
 have a:=C8;unfold gm at *;cases hw:UY w0 0 0 56 16 0 with
 | none=>rw[hw]at a;exact absurd (congrArg Prod.snd a) aB
 | some r=>
  rw[hw]at a;have:=IN hw;have e1:r.2=(4096,0):=a;rw[e1]at this;exact this
def gB:B5:=(4112,24,4096,64,1)
theorem B3:Kx gm.1 4096=some 64:=by decide +kernel
def gX:Gu:=qj.eH gB
def vo:Hw:={gm.1 with sp:=jR gm.1.sp gB}
attribute [local irreducible] w0 gm vo
end Go.Ar
namespace Go.Ar
open Go.Vc (bU dA cO)
variable {size align thread addr:Int}{H H' H1:Hw}{held held1:List Pc}{s0 s1 sp:Sp}{x y:Gu}{b:B5}
theorem EI {α:Type}{l:List (Int×α)}{n:Int}(h:bU l n=none)(v:α):dA l n v=l++[(n,v)]:=by
 unfold dA;rw[zB];intro hx;obtain⟨y,a,e⟩:=jV.1 hx;unfold bU at h;rw[sW,oI]at h;exact h y a e
theorem Ge {α:Type}{l:List (Int×α)}{n:Int}:bU l n=none↔∀e∈l,e.1≠n:=by
 unfold bU;rw[sW,oI];simp only[zU]
theorem Ud {α β:Type}{f:α->β}:∀{l:List α},(l.map f).Nodup->∀{a b:α},a∈l->b∈l->f a=f b->a=b
 | [],_,_,_,h,_,_=>by simp at h
 | z::l,hn,a,b,ha,hb,e=>by
  simp only[zR,zr]at hn;rcases zW.1 ha with h1|h1
  ·rcases zW.1 hb with h2|h2
   ·rw[h1,h2]
   ·exact absurd (zD.2 ⟨b,h2,by rw[←e,h1]⟩) hn.1
  ·rcases zW.1 hb with h2|h2
   ·exact absurd (zD.2 ⟨a,h1,by rw[e,h2]⟩) hn.1
   ·exact Ud hn.2 h1 h2 e
theorem CF (h:HI H held s0){e:Int×Bk}(he:e∈H.live){w:Nat}(h1:e.1<=((8*w:Nat):Int))(h2:((8*w:Nat):Int)<e.1+e.2.2.1):gf H.sp.st (w/32)≠0:=by
 obtain⟨_,p,a,_,_,b,d,_⟩:=h.lv e he;have:=h.mapped a (x:=8*w) O O
 rwa [show 8*w/256=w/32 by omega]at this
structure dT (H:Hw) (x:Gu):Prop where
 live:H.live.map (λe=>(e.1,e.2.2.1))=x.kn.map (λe=>(e.2.2.2.1,e.2.2.2.2.1))
 can:∀e∈x.kn,∀z∈Zg e.2,QZ H.sp z=jy z
 ph:∀j,fG H j=none
 i:∀e∈x.kn,e.1=e.2.1/\gT e.2
 nd:(x.kn.map (·.1)).Nodup
theorem FV (hi:HI H held s0){e e':Int×Bk}(he:e∈H.live)(he':e'∈H.live){z:Int}(h1:e.1<=z)(h2:z<e.1+e.2.2.1)(h3:e'.1<=z)(h4:z<e'.1+e'.2.2.1):e=e':=by
 obtain⟨_,p,g,_,_,d,i,_⟩:=hi.lv e he;obtain⟨_,q,b,_,_,a,j,_⟩:=hi.lv e' he';have:p=q:=hi.apart g b (x:=z.toNat) O O O O;subst this;exact Ud hi.lk he he' (by rw[←d,←a])
theorem dT.of (g:dT H x){e:Int×B5}(he:e∈x.kn):∃l∈H.live,l.1=e.2.2.2.1/\l.2.2.1=e.2.2.2.2.1:=by
 have:(e.2.2.2.1,e.2.2.2.2.1)∈H.live.map (λe=>(e.1,e.2.2.1)):=by rw[g.live];exact zD.2 ⟨e,he,rfl⟩
 obtain⟨l,a,h⟩:=zD.1 this;simp only[Prod.mk.injEq]at h;exact⟨l,a,h.1,h.2⟩
theorem dT.sF (g:dT H x)(hi:HI H held s0):(x.kn.map λe=>e.2.2.2.1).Nodup:=by
 have a:=congrArg (List.map Prod.fst) g.live;rw[lM,lM]at a;have b:(x.kn.map λe=>e.2.2.2.1)=H.live.map (·.1):=a.symm;rw[b];exact hi.lk
theorem dT.apart (g:dT H x)(hi:HI H held s0){e e':Int×B5}(he:e∈x.kn)(he':e'∈x.kn){z:Int}(h1:e.2.2.2.1<=z)(h2:z<e.2.2.2.1+e.2.2.2.2.1)(h3:e'.2.2.2.1<=z)(h4:z<e'.2.2.2.1+e'.2.2.2.2.1):e=e':=by
 obtain⟨l,i,d,j⟩:=g.of he;obtain⟨m,a,b,p⟩:=g.of he';have:=FV hi i a (z:=z) O O O O;subst this;exact Ud (g.sF hi) he he' (by rw[←d,←b])
theorem dT.usable (g:dT H x)(hi:HI H held s0){e:Int×B5}(he:e∈x.kn):Kx H e.2.2.2.1=some e.2.2.2.2.1:=by
 obtain⟨l,d,a,b⟩:=g.of he;unfold Kx;rw[←a,ZA hi.lk (show(l.1,l.2)∈H.live from d)];exact congrArg some b
theorem dT.lost (g:dT H x)(hi:HI H held s0){e:Int×B5}(he:e∈x.kn):UK H e.2=false:=by
 unfold UK;rw[g.usable hi he];simp
theorem dT.map (g:dT H x)(hi:HI H held s0){e:Int×B5}(he:e∈x.kn){w:Nat}(h1:e.2.2.2.1<=((8*w:Nat):Int))(h2:((8*w:Nat):Int)<e.2.2.2.1+e.2.2.2.2.1):gf H.sp.st (w/32)≠0:=by
 obtain⟨l,a,b,d⟩:=g.of he;exact CF hi a O O
theorem gT.word (bi:gT b){z:Int}(h:z∈Zg b\/z∈XP b):(∃w:Nat,z=((8*w:Nat):Int))/\b.2.2.1<=z/\z<b.2.2.1+b.2.2.2.1:=by
 have a:=bi.base;have d:=bi.z;have g:=bi.t;rcases h with h|h
 ·have:=Gg bi h;exact⟨⟨z.toNat/8,O⟩,O,O⟩
 ·have:=HT bi h;exact⟨⟨z.toNat/8,O⟩,O,O⟩
theorem gT.nw (bi:gT b){z:Int}(h:z∈Zg b):z∉XP b:=λa=>by
 have d:=Gg bi h;have g:=HT bi a;omega
theorem dT.acc (g:dT H x)(hi:HI H held s0){e:Int×B5}(he:e∈x.kn){z:Int}(h:z∈Zg e.2\/z∈XP e.2):eI H.sp z=0:=by
 obtain⟨⟨w,rfl⟩,a,b⟩:=(g.i e he).2.word h;exact U5.2 (g.map hi he a b)
theorem dT.broken (g:dT H x)(hi:HI H held s0){e:Int×B5}(he:e∈x.kn):QV H.sp e.2=[]:=by
 unfold QV;rw[List.filter_eq_nil_iff];intro z hz;unfold jL;rw[g.acc hi he (.inl hz),g.can e he z hz];simp
theorem dT.cK (g:dT H x)(hi:HI H held s0):Fl H x=[]:=by
 unfold Fl;rw[List.flatMap_eq_nil_iff];intro e he;unfold JH;rw[g.lost hi he,g.broken hi he];rfl
theorem dT.jq (bi:gT b){z:Int}(h1:b.1<=z)(h2:z<b.1+ZE b.2.1)(h8:z%8=0):z∈XP b:=by
 have:=bi.z;have a:=ZU (n:=b.2.1) (by have:=bi.s;omega);refine zD.2 ⟨((z-b.1)/8).toNat,zg.2 ?_,O⟩;unfold QJ;omega
theorem Eh (hi:HI H held s0)(ks:KS H.sp sp){l:Int×Bk}(hl:l∈H.live){w:Nat}(h1:l.1<=((8*w:Nat):Int))(h2:((8*w:Nat):Int)<l.1+l.2.2.1):QZ sp ((8*w:Nat):Int)=QZ H.sp ((8*w:Nat):Int)/\gf sp.st (w/32)≠0:=by
 have a:=CF hi hl h1 h2;have:=ks.k _ a;rw[y9,y9,zC a,zC this.1,this.2 w rfl];exact⟨rfl,this.1⟩
def Kept (H:Hw)(x:Gu)(H':Hw)(x':Gu)(e:Int×B5):Prop:=e∈x'.kn/\∀z∈XP e.2,QZ H'.sp z=QZ H.sp z
theorem PU (bi:gT b):∀z∈Zg b,0<=z/\z%8=0:=λz a=>by
 have:=Gg bi a;have:=bi.base;omega
theorem Bm (bi:gT b):∀z∈XP b,0<=z/\z%8=0:=λz a=>by
 have:=HT bi a;have:=bi.base;have:=bi.z;omega
theorem dT.eH (g:dT H x)(hi:HI H held s0)(gr:vQ H x size align b H1)(o:fR H H1)(hi1:HI H1 held1 s1) :
 dT {H1 with sp:=jR H1.sp b} (x.eH b)/\(x.eH b).kn=x.kn++[(b.1,b)]/\(∀e∈x.kn,Kept H x {H1 with sp:=jR H1.sp b} (x.eH b) e)/\(∀z∈XP b,QZ (jR H1.sp b) z=0)/\eI (jR H1.sp b) b.1=0:=by
 have bi:=gr.bi;obtain⟨B,cl,y,_⟩:bU H.live b.2.2.1=none/\∃cl,H1.live=dA H.live b.2.2.1 (b.2.2.1,(oU H.tb (zA align+ZE size+16) (zA align)).1,cl,Yf H1.bY b.2.2.1)/\True:=by
  rcases gr.me with⟨h,_⟩|⟨_,F,_,cl,E,_⟩
  ·exact absurd rfl h
  ·exact⟨F,cl,E,trivial⟩
 have V:=gr.u;unfold Kx at V;rw[y,DG]at V;have N:(oU H.tb (zA align+ZE size+16) (zA align)).1=b.2.2.2.1:=Option.some.inj V;rw[N]at y;rw[EI B]at y;have M:∃l∈H1.live,l.1=b.2.2.1/\l.2.2.1=b.2.2.2.1:=⟨(b.2.2.1,(b.2.2.1,b.2.2.2.1,cl,Yf H1.bY b.2.2.1)),by rw[y];simp,rfl,rfl⟩;obtain⟨ln,R,W,ln2⟩:=M;have L:∀l∈H.live,l∈H1.live:=λl K=>by rw[y];exact kO _ K
 have J:∀e∈x.kn,∀z,e.2.2.2.1<=z->z<e.2.2.2.1+e.2.2.2.2.1->b.2.2.1<=z->z<b.2.2.1+b.2.2.2.1->False:=λe d z F E h3 h4=>by
  obtain⟨l,K,a1,a2⟩:=g.of d;have:=FV hi1 (L l K) R (z:=z) O O O O;subst this;have:=Ge.1 B l K;exact this W
 have hb1:=bi.base;have hb2:=bi.z;have aa:=bi.t;have Z:=ZU (n:=b.2.1) (by have:=bi.s;omega);have P:bU x.kn b.1=none:=Ge.2 λe d h=>by
  have A:=(g.i e d);have q0:=A.1;have q4:=A.2.s;have ab:=bi.s;have q1:=A.2.base;have q2:=A.2.z;have q3:=A.2.t;have qw:=ZU (n:=e.2.2.1) (by have:=A.2.s;omega);exact J e d b.1 O O O O
 have r:(x.eH b).kn=x.kn++[(b.1,b)]:=EI P b;have p:∀z,(z∈Zg b\/z∈XP b)->∃w:Nat,z=((8*w:Nat):Int)/\gf H1.sp.st (w/32)≠0:=λz m=>by
  obtain⟨⟨w,rfl⟩,F,E⟩:=bi.word m;exact⟨w,rfl,CF hi1 R O O⟩
 have G:=PU bi;have D:=Bm bi;obtain⟨_,Y,_⟩:=yJ jy (Zg b) H1.sp G;have S:∀w:Nat,((8*w:Nat):Int)∉Zg b->((8*w:Nat):Int)∉XP b->QZ (jR H1.sp b) ((8*w:Nat):Int)=QZ H1.sp ((8*w:Nat):Int):=λw F E=>by
  unfold jR;rw[KX D,zB λh=>E h.1,KX G,zB λh=>F h.1]
 have C:∀e∈x.kn,∀z,(z∈Zg e.2\/z∈XP e.2)->QZ (jR H1.sp b) z=QZ H.sp z:=λe d z m=>by
  obtain⟨l,K,a1,a2⟩:=g.of d;obtain⟨⟨w,rfl⟩,F,E⟩:=(g.i e d).2.word m;have:=Eh (H:=H) hi o.ks K (w:=w) O O;rw[S w (λm=>by have:=bi.word (.inl m);exact J e d _ F E this.2.1 this.2.2) (λm=>by have:=bi.word (.inr m);exact J e d _ F E this.2.1 this.2.2)];exact this.1
 refine⟨⟨?_,λe d z m=>?_,λj=>(o.ph j).trans (g.ph j),λe d=>?_,?_⟩,r,λe d=>⟨by rw[r];exact kO _ d,λz m=>C e d z (.inr m)⟩,λz m=>?_,?_⟩
 ·show H1.live.map _=_;rw[y,r,zj,zj,g.live];rfl
 ·show QZ (jR H1.sp b) z=jy z;rw[r]at d;rcases zK.1 d with d|d
  ·rw[C e d z (.inl m)];exact g.can e d z m
  ·rw[zN]at d;subst d;obtain⟨w,rfl,Q⟩:=p z (.inl m);unfold jR;rw[KX D,zB λh=>bi.nw m h.1,KX G,zC ⟨m,Q⟩]
 ·rw[r]at d;rcases zK.1 d with d|d
  ·exact g.i e d
  ·rw[zN]at d;subst d;exact⟨rfl,bi⟩
 ·rw[r,zj,nB];refine⟨g.nd,by simp,λa ha c X=>?_⟩;simp only[zR,ny,zN]at X;subst X;obtain⟨e,d,rfl⟩:=zD.1 ha;exact Ge.1 P e d
 ·obtain⟨w,rfl,Q⟩:=p z (.inr m);unfold jR;rw[KX D,zC ⟨m,λh=>Q ((Y _).1 h)⟩]
 ·have U:b.1∈XP b:=dT.jq bi (xW _) (by have:=bi.s;omega) bi.z.2.2;obtain⟨w,hw,Q⟩:=p b.1 (.inr U);obtain⟨_,k2,_⟩:=yJ (λ_=>0) (XP b) (iJ H1.sp (Zg b) jy) D;rw[hw];unfold jR;exact U5.2 λh=>Q ((Y _).1 ((k2 _).1 h))
theorem dT.same (g:dT H x)(hi:HI H held s0)(o:fR H H')(hl:H'.live=H.live):dT H' x/\∀e∈x.kn,Kept H x H' x e:=by
 have a:∀e∈x.kn,∀z,(z∈Zg e.2\/z∈XP e.2)->QZ H'.sp z=QZ H.sp z:=λe b z d=>by
  obtain⟨l,hl,r,m⟩:=g.of b;obtain⟨⟨w,rfl⟩,s,p⟩:=(g.i e b).2.word d;exact(Eh (H:=H) hi o.ks hl (w:=w) O O).1
 exact⟨⟨by rw[hl];exact g.live,λe b z d=>by rw[a e b z (.inl d)];exact g.can e b z d,λj=>(o.ph j).trans (g.ph j),g.i,g.nd⟩,λe b=>⟨b,λz d=>a e b z (.inr d)⟩⟩
theorem dT.write (g:dT H x)(hi:HI H held s0){k:Int×B5}(hk:k∈x.kn){z v:Int}(hz:z∈XP k.2):dT {H with sp:=ZF H.sp z v} x/\(∀e∈x.kn,e≠k->Kept H x {H with sp:=ZF H.sp z v} x e)/\(∀u∈XP k.2,QZ (ZF H.sp z v) u=if u=z then v else QZ H.sp u):=by
 obtain⟨⟨d,rfl⟩,C,B⟩:=(g.i k hk).2.word (.inr hz);have r:=g.map hi hk C B;have m:∀w:Nat,QZ (ZF H.sp ((8*d:Nat):Int) v) ((8*w:Nat):Int)=if w=d/\gf H.sp.st (w/32)≠0 then v else QZ H.sp ((8*w:Nat):Int):=λw=>by
  have:=KX (f:=λ_=>v) (l:=[((8*d:Nat):Int)]) (sp:=H.sp) (λz hz=>by rw[zN]at hz;subst hz;omega) w;have e:iJ H.sp [((8*d:Nat):Int)] (λ_=>v)=ZF H.sp ((8*d:Nat):Int) v:=rfl;rw[e]at this;rw[this];by_cases hw:w=d
  ·subst hw;by_cases hm:gf H.sp.st (w/32)≠0
   ·rw[zC ⟨zN.2 rfl,hm⟩,zC ⟨rfl,hm⟩]
   ·rw[zB λh=>hm h.2,zB λh=>hm h.2]
  ·rw[zB λh=>hw (by have:=zN.1 h.1;omega),zB λh=>hw h.1]
 have j:∀e∈x.kn,∀u,(u∈Zg e.2\/u∈XP e.2)->(e=k->u∈Zg e.2)->QZ (ZF H.sp ((8*d:Nat):Int) v) u=QZ H.sp u:=λe b u a s=>by
  obtain⟨⟨w,rfl⟩,A,y⟩:=(g.i e b).2.word a;rw[m,zB];rintro⟨rfl,_⟩;have:=g.apart hi b hk A y C B;subst this;exact(g.i e b).2.nw (s rfl) hz
 refine⟨⟨g.live,λe b u a=>?_,g.ph,g.i,g.nd⟩,λe b p=>⟨b,λu a=>j e b u (.inr a) λh=>absurd h p⟩,λu a=>?_⟩
 ·show QZ (ZF H.sp ((8*d:Nat):Int) v) u=jy u;rw[j e b u (.inl a) λ_=>a];exact g.can e b u a
 ·obtain⟨⟨w,rfl⟩,A,y⟩:=(g.i k hk).2.word (.inr a);rw[m];by_cases hw:w=d
  ·subst hw;rw[zC ⟨rfl,r⟩,zC rfl]
  ·rw[zB λh=>hw h.1,zB λh=>hw O]
theorem dT.free (g:dT H x)(hi:HI H held s0){b:B5}(hk:bU x.kn addr=some b){e:Int}(hw:KK (dO H b) thread 1 0 0 b.2.2.1 H1 0 e)(o:fR (dO H b) H1)(fe:nM (dO H b) thread b.2.2.1 H1 e)(hrd:ZH H thread=0)(hcf:H.cf.threads=H.bR.length) :
 dT H1 (x.gone addr)/\∀k∈x.kn,k.1≠addr->Kept H x H1 (x.gone addr) k:=by
 have a:(addr,b)∈x.kn:=Z9 hk;have B:=g.i _ a;have N:addr=b.1:=B.1;have K:gT b:=B.2;obtain⟨l,P,L,R⟩:=g.of a;simp only at L R;have F:(dO H b).live=H.live:=rfl;have E:bU H.live b.2.2.1=some l.2:=by rw[←L];exact ZA hi.lk (show(l.1,l.2)∈H.live from P)
 have s:H1.live=cO H.live b.2.2.1:=by
  rcases fe with⟨_,_,h⟩|⟨_,h,_⟩|⟨_,_,_,_,h⟩
  ·exfalso;unfold ZH at hrd;rw[HJ]at hrd;split at hrd
   ·cases hrd
   ·rename_i hth;have u:=g.ph thread.toNat;unfold Vd at h;have D:thread.toNat<H.bR.length:=by omega
    rw[zC (show 0<=thread/\thread<((dO H b).bR.length:Int)from⟨O,by show thread<(H.bR.length:Int);omega⟩)]at h;have M:(dO H b).bR[thread.toNat]?=some H.bR[thread.toNat]:=cW D;rw[M]at h;simp only at h;unfold fG at u;rw[cW D]at u;rw[zC (show H.bR[thread.toNat].ph=none from u)]at h;unfold iV at h;rw[zB aB,zC rfl]at h;cases h
  ·rw[F,E]at h;cases h
  ·exact h
 have J:=Bm K;have r:∃s1,HI (dO H b) held s1:=HI.iJ _ _ hi;obtain⟨s1,r⟩:=r;have d:∀k∈x.kn,k.1≠addr->∀z,(z∈Zg k.2\/z∈XP k.2)->QZ H1.sp z=QZ H.sp z:=λk hk m z A=>by
  obtain⟨Q,G,V,W⟩:=g.of hk;obtain⟨⟨w,rfl⟩,U,S⟩:=(g.i k hk).2.word A;rw[(Eh r o.ks (l:=Q) G (w:=w) O O).1];show QZ (iJ H.sp (XP b) λ_=>Ga) _=_;rw[KX J,zB];rintro⟨hw,_⟩;have C:=K.word (.inr hw);have:=g.apart hi hk a U S C.2.1 C.2.2;subst this;exact m rfl
 have p:∀k,k∈(x.gone addr).kn↔k∈x.kn/\k.1≠addr:=λk=>by
  show k∈cO x.kn addr↔_;unfold cO;rw[zL];simp
 refine⟨⟨?_,λk hk z A=>?_,λj=>(o.ph j).trans (g.ph j),λk hk=>g.i k ((p k).1 hk).1,?_⟩,λk hk m=>⟨(p k).2 ⟨hk,m⟩,λz A=>d k hk m z (.inr A)⟩⟩
 ·rw[s];show(cO H.live b.2.2.1).map _=(cO x.kn addr).map _;unfold cO;have e1:(H.live.filter λy=>!(y.1==b.2.2.1)).map (λe=>(e.1,e.2.2.1))=(H.live.map λe=>(e.1,e.2.2.1)).filter λq=>!(q.1==b.2.2.1):=by rw[wP];rfl
  rw[e1,g.live,wP]
  congr 1
  apply vK;intro k hk;simp only[Function.comp]
  congr 1
  rw[kW,zU,zU];constructor
  ·intro h;have:=Ud (g.sF hi) hk a h;rw[this]
  ·intro h;have:=Ud g.nd hk a h;rw[this]
 ·have:=(p k).1 hk;rw[d k this.1 this.2 z (.inl A)];exact g.can k this.1 z A
 ·show((cO x.kn addr).map _).Nodup;exact g.nd.sublist (List.filter_sublist.map _)
end Go.Ar
namespace Go.Ar
open Go Go.Vc Go.Proofs
open Go.Vc (bU dA cO)
variable {size align:Int}{U σ0 v w w':Hp}{F P Q X T:Rg}{L:dE}{H H' H1:Hw}{held:List Pc}{s0 sp:Sp}{t n:Nat}{g:Th}{gb km fm m xb:Nat}{x y:Gu}{b:B5}
def C7 (gb:Nat)(addrs ls:Sl):List Value:=[.pointer (some ⟨gb,0,none⟩),.slice addrs.a addrs.len addrs.cap,.slice ls.a ls.len ls.cap]
structure oO (σ0 U:Hp) (xb:Nat) (L:dE) (H:Hw) (held:List Pc) (s0:Sp) (P:Rg) (gb km fm:Nat) (x:Gu) (Qa Ql:Rg) (addrs:Sl) (ad:List Int) (ls:Sl) (la:List T3):Prop where
 p:GP σ0 U L H held s0 P gb km fm x
 b:bZ U xb (C7 gb addrs ls)
 ra:bT addrs 1 (Wy ad) U Qa
 rl:bT ls 3 (lS la) U Ql
 r8:σ0.size<=xb/\¬Mg P gb km fm xb/\¬Qa xb/\¬Ql xb
 qa:∀b,Qa b->σ0.size<=b/\b<U.size/\¬Mg P gb km fm b
 ql:∀b,Ql b->σ0.size<=b/\b<U.size/\¬Mg P gb km fm b
 qq:∀b,Qa b->¬Ql b
variable {Qa Ql:Rg}{addrs ls:Sl}{ad:List Int}{la:List T3}
theorem oO.fr (o:oO σ0 U xb L H held s0 P gb km fm x Qa Ql addrs ad ls la)(e:aF U w):oO σ0 w xb L H held s0 P gb km fm x Qa Ql addrs ad ls la:=
 ⟨o.p.fr e,e.bV o.b id,aI.bP o.ra e,aI.bP o.rl e,o.r8,λb a=>by have h:=o.qa b a;have:=e.1;exact⟨h.1,O,h.2.2⟩,λb a=>by have h:=o.ql b a;have:=e.1;exact⟨h.1,O,h.2.2⟩,o.qq⟩
theorem EK {P':Rg}(hg:gb<n/\km<n/\fm<n)(hP:∀b,P' b->P b\/n<=b):∀b,Mg P' gb km fm b->Mg P gb km fm b\/n<=b:=by
 rintro b (h|h)
 ·exact(hP b h).imp .inl id
 ·exact .inl (.inr h)
theorem oO.eY (o:oO σ0 U xb L H held s0 P gb km fm x Qa Ql addrs ad ls la){L':dE}{held':List Pc}{s0':Sp}{P':Rg}(e:Ext (Mg P gb km fm) U w)(p':GP σ0 w L' H' held' s0' P' gb km fm y)(hP:∀b,P' b->P b\/U.size<=b) :
 oO σ0 w xb L' H' held' s0' P' gb km fm y Qa Ql addrs ad ls la:=by
 have D:=e.1;have a:=o.b.lt;obtain⟨z,r,A,B⟩:=o.r8;have i:∀b,b<U.size->¬Mg P gb km fm b->¬Mg P' gb km fm b:=λb C u s=>by
  rcases EK ⟨o.p.b.lt,o.p.m.lt,o.p.f.lt⟩ hP b s with h4|h4
  ·exact u h4
  ·omega
 exact⟨p',e.bV o.b r,aI.bS o.ra e λb _ d j=>(o.qa b d).2.2 j,aI.bS o.rl e λb _ d j=>(o.ql b d).2.2 j,⟨z,i _ a r,A,B⟩,λb g=>by have h:=o.qa b g;exact⟨h.1,O,i b h.2.1 h.2.2⟩,λb g=>by have h:=o.ql b g;exact⟨h.1,O,i b h.2.1 h.2.2⟩,o.qq⟩
theorem VF {c:Nat}(h:¬Mg P gb km fm c):¬P c/\c≠gb/\c≠km/\c≠fm:=⟨λa=>h (.inl a),λe=>h (.inr (.inl e)),λe=>h (.inr (.inr (.inl e))),λe=>h (.inr (.inr (.inr e)))⟩
theorem uQ (p:GP σ0 U L H held s0 P gb km fm x){c:Nat}(h:Mg P gb km fm c):c<U.size:=by
 rcases h with h|rfl|rfl|rfl
 ·exact(p.pP c h).2
 ·exact p.b.lt
 ·exact p.m.lt
 ·exact p.f.lt
theorem oO.cE (o:oO σ0 U xb L H held s0 P gb km fm x Qa Ql addrs ad ls la){s':Sl}{ad':List Int}(e:Ext Qa U w)(hr:bT s' 1 (Wy ad') w λb=>Qa b\/U.size<=b/\b<w.size){K:aP}
 (hK:∀u,Ext (· = xb) w u->oO σ0 u xb L H held s0 P gb km fm x (λb=>Qa b\/U.size<=b/\b<w.size) Ql s' ad' ls la->K u):dX (Addr.add ⟨xb,0,none⟩ 1) (.slice s'.a s'.len s'.cap) w K:=by
 have J:=e.1;have E:=o.b.lt;obtain⟨z,A,s,B⟩:=o.r8;have G:=o.p.out e λb _ d=>by have h:=o.qa b d;have i:=VF h.2.2;exact⟨i.1,i.2.1,i.2.2.1,i.2.2.2,h.1⟩
 have r:=aI.bS o.rl e λb _ j C=>o.qq b C j;refine(e.bV o.b s).s1 (by simp[C7]) λu y b=>?_;have m:=y.ext;have D:=y.1;have i:=VF A;refine hK u m ⟨G.out m λb _ (d:b=xb)=>by subst d;exact⟨i.1,i.2.1,i.2.2.1,i.2.2.2,z⟩,b,aI.bS hr m λb _ g (d:b=xb)=>?_,aI.bS r m λb _ g (d:b=xb)=>B (d▸g),⟨z,A,?_,B⟩,λb d=>?_,λb d=>by have h:=o.ql b d;exact⟨h.1,O,h.2.2⟩,λb d j=>?_⟩
 ·subst d;rcases g with g|g
  ·exact s g
  ·omega
 ·rintro(g|g)
  ·exact s g
  ·omega
 ·rcases d with d|d
  ·have h:=o.qa b d;exact⟨h.1,O,h.2.2⟩
  ·have:=o.p.e.1;exact⟨O,O,λF=>by have:=uQ o.p F;omega⟩
 ·rcases d with d|d
  ·exact o.qq b d j
  ·have:=(o.ql b j).2.1;omega
theorem oO.iq (o:oO σ0 U xb L H held s0 P gb km fm x Qa Ql addrs ad ls la){s':Sl}{la':List T3}{Ql':Rg}(e:Ext Ql U w)(hr:bT s' 3 (lS la') w Ql')(hQ:∀b,Ql' b->Ql b\/U.size<=b/\b<w.size){K:aP}
 (hK:∀u,Ext (· = xb) w u->oO σ0 u xb L H held s0 P gb km fm x Qa Ql' addrs ad s' la'->K u):dX (Addr.add ⟨xb,0,none⟩ 2) (.slice s'.a s'.len s'.cap) w K:=by
 have M:=e.1;have F:=o.b.lt;obtain⟨y,B,z,C⟩:=o.r8;have J:=o.p.out e λb _ d=>by have h:=o.ql b d;have g:=VF h.2.2;exact⟨g.1,g.2.1,g.2.2.1,g.2.2.2,h.1⟩
 have r:=aI.bS o.ra e λb _ D i=>o.qq b D i;refine(e.bV o.b C).s1 (by simp[C7]) λu s b=>?_;have j:=s.ext;have E:=s.1;have g:=VF B;have A:¬Ql' xb:=λh=>by
  rcases hQ xb h with h|h
  ·exact C h
  ·omega
 refine hK u j ⟨J.out j λb _ (d:b=xb)=>by subst d;exact⟨g.1,g.2.1,g.2.2.1,g.2.2.2,y⟩,b,aI.bS r j λb _ m (d:b=xb)=>z (d▸m),aI.bS hr j λb _ m (d:b=xb)=>A (d▸m),⟨y,B,z,A⟩,λb d=>by have h:=o.qa b d;exact⟨h.1,O,h.2.2⟩,λb d=>?_,λb d i=>?_⟩
 ·rcases hQ b d with d|d
  ·have h:=o.ql b d;exact⟨h.1,O,h.2.2⟩
  ·have:=o.p.e.1;exact⟨O,O,λG=>by have:=uQ o.p G;omega⟩
 ·rcases hQ b i with i|i
  ·exact o.qq b d i
  ·have:=(o.qa b d).2.1;omega
inductive nL (H:Hw) (x:Gu) (d:fB) (a:Int):Hw->Gu->Int->Option Int->Bool->Prop where
 | same (e:Int):(e=0->d.kd≠20/\d.kd≠21/\d.kd≠22)->nL H x d a H x e none false
 | full {H':Hw} {e:Int}:d.kd=20->mw d.a d.b=true->e≠0->KK H d.th 0 (zA d.b+ZE d.a+16) (zA d.b) 0 H' 0 e->fR H H'->H'.live=H.live->nL H x d a H' x e none false
 | eH {b:B5} {H1:Hw}:d.kd=20->vQ H x d.a d.b b H1->KK H d.th 0 (zA d.b+ZE d.a+16) (zA d.b) 0 H1 b.2.2.1 0->fR H H1->nL H x d a {H1 with sp:=jR H1.sp b} (x.eH b) 0 (some b.1) false
 | ni {b:B5} {H1:Hw} {e:Int}:(d.kd=21\/d.kd=22)->bU x.kn a=some b->mi H x d.th a true=0->KK (dO H b) d.th 1 0 0 b.2.2.1 H1 0 e->fR (dO H b) H1->nM (dO H b) d.th b.2.2.1 H1 e->nL H x d a H1 (x.gone a) 0 none true
 | wrote:d.kd=26->pc H x a 0->nL H x d a {H with sp:=ZF H.sp a d.va} x (eI H.sp a) none false
def Sw (d:fB)(add:Option Int)(del:Bool)(a:Int)(la:List T3):List T3:=match add with
 | some b=>la++[(b,d.a,d.b)]
 | none=>if del then la.filter λq=>!(q.1==a)else la
end Go.Ar
namespace Go.Ar
open Go Go.Vc Go.Proofs
open Go.Vc (bU dA cO)
open Go.Bu (fo VN HD)
variable {size align a:Int}{U σ0 v w w':Hp}{F P Q X T:Rg}{L:dE}{H H' H1:Hw}{held held' held1:List Pc}{s0 s0' s1 sp:Sp}{t n:Nat}{gb km fm m xb:Nat}{x x' y:Gu}{b:B5}{ad:List Int}{la:List T3}{d:fB}{add:Option Int}{del:Bool}{e:Int}{l:Sl}{ds:List fB}
theorem Fa {s c al:Int}{i:Int}(h1:256%al=0)(h2:c%al=0):(s*256+i*c)%al=0:=by
 obtain⟨q1,e1⟩:=Bc h1;obtain⟨q2,e2⟩:=Bc h2;refine Int.emod_eq_zero_of_dvd ⟨s*q1+i*q2,?_⟩;rw[e1,e2,Int.mul_add,Int.mul_left_comm s,Int.mul_left_comm i]
theorem MA (hi1:HI H1 held1 s1)(hp:HI H held s0)(ht:H1.tb=H.tb){al base:Int}(h256:256%al=0)(me:rF H size al H1 base 0):base%al=0:=by
 rcases me with⟨h,_⟩|⟨_,hm,_,cl,hl,hcl⟩
 ·exact absurd rfl h
 have z:(base,((base,(oU H.tb size al).1,cl,Yf H1.bY base):Bk))∈H1.live:=by rw[hl];exact Z9 (DG _)
 obtain⟨_,p,u,_,E,y,_,_⟩:=hi1.lv _ z;obtain⟨A,D,hd⟩:=hi1.wi.hf p u;simp only at E y;rcases hd with⟨q1,_,r,_,q2,_⟩|⟨j,c,q1,q2,_,q3,_⟩
 ·rw[←y,q2];have:((r.1*256:Nat):Int)=(r.1:Int)*256+0*0:=by omega
  rw[this];exact Fa h256 aA
 ·rcases hcl with⟨k,rfl,hk⟩|⟨rfl,_⟩
  ·have x:j=k:=by omega
   subst x;obtain⟨J,b,_,d⟩:=Ff hk;have m:A.tb=H1.tb:=hi1.wi.tb _ A D;rw[m,ht,b]at q2;cases q2;obtain⟨B,G,a,C⟩:=q3;have g:=(hi1.wi.ga _ A D).cG _ _ _ a;have w:B=c:=by
    have:=a.1;rw[m,ht,b]at this;exact(Option.some.inj this).symm
   subst w;obtain⟨_,s,i,_,_,F,_⟩:=(Ug g).1 C;rw[←y,F];have:((at_ B s i:Nat):Int)=(s.st:Int)*256+(i:Int)*(B.size:Int):=by unfold at_;simp
   rw[this];exact Fa h256 d
  ·omega
theorem S6 {al:Int}(h1:1<=al)(h2:al<=256)(hp:fo al=true):256%al=0/\(al<16->16%al=0):=by
 obtain⟨al,rfl⟩:=zc (show 0<=al by omega);rw[VN]at hp;have key:∀a:Nat,a<=256->1<=a->(a &&& (a-1)=0)->256%a=0/\(a<16->16%a=0):=by decide +kernel
 have:=key al O O (by have:=HD (a:=al) O O;rw[hp]at this;simpa using this);exact⟨by rw[show(256:Int)=((256:Nat):Int)from rfl,←Int.natCast_emod,this.1];rfl,λh=>by rw[show(16:Int)=((16:Nat):Int)from rfl,←Int.natCast_emod,this.2 O];rfl⟩
theorem Ma {al:Int}(h1:1<=al)(h2:al<=256)(hp:fo al=true):256%zA al=0/\zA al%al=0:=by
 have:=S6 h1 h2 hp;unfold zA;split
 ·exact⟨by decide,this.2 O⟩
 ·exact⟨this.1,by simp⟩
structure AL (H:Hw) (x:Gu) (ad:List Int) (la:List T3):Prop where
 g:dT H x
 n0:0<=x.no
 nl:(x.kn.length:Int)<=x.no/\(ad.length:Int)<=x.no
 lq:la.map (λa=>(a.1,a.2.1,zA a.2.2))=x.kn.map (λe=>(e.1,e.2.2.1,e.1-e.2.2.2.1))
 ok:∀a∈la,mw a.2.1 a.2.2=true/\a.1%a.2.2=0
 dq:∀a∈ad,(bU x.kn a).isSome=true\/bU x.fr a=some true
 th:1<=H.cf.threads
theorem AL.out (al:AL H x ad la)(hi:HI H held s0)(cf:jk H)(o:nL H x d a H' x' e add del):AL H' x' (ad++add.toList) (Sw d add del a la)/\x'.no<=x.no+1/\∀k∈x.kn,¬(k.1<=a/\a<k.1+ZE k.2.2.1)->Kept H x H' x' k:=by
 have g:=al.g;have E:ad++(none:Option Int).toList=ad:=by simp
 cases o with
 | same e S=>rw[E];exact⟨al,O,λk j _=>⟨j,λ_ _=>rfl⟩⟩
 | full j w r F op hl=>
  rw[E];obtain⟨A,D⟩:=g.same hi op hl;exact⟨⟨A,al.n0,al.nl,al.lq,al.ok,al.dq,by rw[op.kp.2.1];exact al.th⟩,O,λk j _=>D k j⟩
 | eH j gr F op=>
  rename_i b H1;obtain⟨Q,s1,B⟩:=op.hi;obtain⟨A,V,W,_,_⟩:=g.eH hi gr op B;have y:=gr.ok;unfold mw at y;rw[zF,zV]at y;obtain⟨⟨_,_,k3,k4⟩,kp⟩:=y;obtain⟨N,M⟩:=Ma k3 k4 kp;have L:=MA B hi op.kp.1 N gr.me;have C:(x.eH b).no=x.no+1:=rfl;have K:(x.eH b).fr=x.fr:=rfl;refine⟨⟨A,by have:=al.n0;omega,⟨?_,?_⟩,?_,λq u=>?_,λz p=>?_,by show 1<=H1.cf.threads;rw[op.kp.2.1];exact al.th⟩,O,λk j _=>W k j⟩
  ·rw[V,C,zJ];have:=al.nl.1;simp;omega
  ·rw[C,zJ];have:=al.nl.2;simp;omega
  ·show(la++[(b.1,d.a,d.b)]).map _=_;rw[V,zj,zj,al.lq]
   congr 1
   simp only[zR,ny,gr.s];have:=gr.a
   congr 3
   omega
  ·rcases zK.1 (show q∈la++[(b.1,d.a,d.b)]from u)with u|u
   ·exact al.ok q u
   ·rw[zN]at u;subst u;refine⟨gr.ok,?_⟩;show b.1%d.b=0;obtain⟨q1,e1⟩:=Bc L;obtain⟨q2,e2⟩:=Bc M;refine Int.emod_eq_zero_of_dvd ⟨q2*q1+q2,?_⟩;rw[gr.a,e1,Int.mul_add,←Int.mul_assoc,←e2]
  ·have J:(x.eH b).kn=dA x.kn b.1 b:=rfl;rw[J,K,US];rcases zK.1 p with p|p
   ·split
    ·exact .inl rfl
    ·exact al.dq z p
   ·simp only[qD,zN]at p;subst p;rw[zC rfl];exact .inl rfl
 | ni j hm hf F op fe=>
  rename_i b e;rw[E];have G:ZH H d.th=0:=by
   by_cases h:ZH H d.th=0
   ·exact h
   ·unfold mi at hf;rw[zC h]at hf;exact absurd hf h
  obtain⟨A,D⟩:=g.free hi hm F op fe G cf.2.1;have w:(x.gone a).kn=cO x.kn a:=rfl;have P:(x.gone a).fr=dA x.fr a true:=rfl;refine⟨⟨A,al.n0,⟨?_,al.nl.2⟩,?_,λq u=>al.ok q (zL.1 u).1,λz p=>?_,by rw[op.kp.2.1];exact al.th⟩,by show x.no<=_;omega,λk j r=>D k j λh=>r ?_⟩
  ·rw[w];have Z:=oV (λq:Int×B5=>!(q.1==a)) x.kn;have Y:=al.nl.1;show((x.kn.filter _).length:Int)<=x.no;omega
  ·show(la.filter λq=>!(q.1==a)).map _=(x.kn.filter λq=>!(q.1==a)).map _;have e1:(la.filter λq=>!(q.1==a)).map (λa=>(a.1,a.2.1,zA a.2.2))=(la.map λa=>(a.1,a.2.1,zA a.2.2)).filter λq=>!(q.1==a):=by rw[wP];rfl
   have e2:(x.kn.filter λq=>!(q.1==a)).map (λe=>(e.1,e.2.2.1,e.1-e.2.2.2.1))=(x.kn.map λe=>(e.1,e.2.2.1,e.1-e.2.2.2.1)).filter λq=>!(q.1==a):=by rw[wP];rfl
   rw[e1,e2,al.lq]
  ·rw[w,P,Dv,US];by_cases h:z=a
   ·rw[zC h,zC h];exact .inr rfl
   ·rw[zB h,zB h];exact al.dq z p
  ·have m:=g.i k j;have X:=m.2.s;have F:=ZU (n:=k.2.2.1) O;omega
 | wrote j wd=>
  rw[E];rcases wd with⟨h,_⟩|⟨k,j,hin,h8,_⟩
  ·cases h
  ·have m:=g.i k j;obtain⟨R,U⟩:=hin;have p:a∈XP k.2:=dT.jq m.2 R U h8;obtain⟨A,D,_⟩:=g.write hi j p (v:=d.va);refine⟨⟨A,al.n0,al.nl,al.lq,al.ok,al.dq,al.th⟩,O,λe S r=>D e S λh=>r ?_⟩;subst h;exact⟨by rw[m.1];exact R,by rw[m.1];exact U⟩
variable {Qa Ql:Rg}{addrs ls:Sl}
end Go.Ar
namespace Go.Ar
open Go Go.Vc Go.Proofs Go.RowKit Go.Maps Go.Sort Go.Shelf
open Go.Vc (bU dA cO)
open Go.Bu (k5 He VH Hb Vh xL)
variable {U σ0 v w w':Hp}{F P Q X T:Rg}{L:dE}{H H' H1:Hw}{held:List Pc}{s0 sp:Sp}{t n:Nat}{gb km fm m:Nat}{x y:Gu}{b:B5}
def Gy:Nat:=Tryz.ig.f 10
def Ds:Nat:=Tryz.ig.t 23
theorem Tv (m:Option Nat){R:Fv->Hp->Prop}(hR:R ⟨Gy,#[],#[.pointer (some ⟨U.size,0,none⟩)]⟩ (U.push (.cells #[.map m] Ds (0,0)))) :
 ZB.c m U R:=by
 rintro w rfl;refine(callsIn_wide.1 (AnyZI.keys_in Tryz.lA Fence.wide 5 trivial rfl m w)).mono ?_;rintro e a ⟨rfl,rfl⟩;exact⟨⟨rfl,rfl,rfl,r9 (by show _<(w.heap.push _).size;simp)⟩,[.func (.func Gy) #[] #[.pointer (some ⟨w.heap.size,0,none⟩)]],rfl,⟨Gy,#[],#[.pointer (some ⟨w.heap.size,0,none⟩)]⟩,rfl,hR⟩
theorem RD {w:World}{c m:Nat}{B:List (Int×B5)}(hc:cell w.heap ⟨c,0,none⟩=some (.map (some m)))(hm:dJ w.heap m .i64 (.ag 5) B)(hb:∀x∈B,Go.Bu.iN x.1)(hs:B.length<=1000000)(n:Nat)(hn:1<=n) :
 SeqGives Fence.wide n Tryz.prog Gy #[.pointer (some ⟨c,0,none⟩)] encZ (λss=>ss.Perm (B.map (·.1))) B.length w:=by
 obtain⟨D,j,p,a⟩:=Vh (P:=Tryz.prog) Tryz.lA.t26 hm hb hs;have b:c<w.heap.size:=by
  unfold cell at hc;split at hc
  ·rename_i h;exact(jS.1 h).1
  ·cases hc
 have:=AnyZI.keys_gives (ρ:=Tryz.ig) {Tryz.lA with} Fence.wide n trivial rfl hn c m B.length D w b hc j;intro l J W hW hJ hY h0;rw[a]at this;refine(this l J W hW hJ hY h0).mono ?_;rintro e W' ⟨g,ss,i,d⟩;exact⟨g,ss,i.trans p,d⟩
theorem NV {c m:Nat}{B:List (Int×B5)}(hc:cell U ⟨c,0,none⟩=some (.map (some m)))(hm:dJ U m .i64 (.ag 5) B)(hb:∀x∈B,Go.Bu.iN x.1)(hs:B.length<=1000000){R:Sl->Hp->Prop}
 (hR:∀(s:Sl) (σ':Hp) (ss:List Int),aF U σ'->ss.Perm (B.map (·.1))->ss.Pairwise (· <= ·)->k5 U.size σ' s (ss.map (Value.int .i64))->R s σ') :
 Kl.c ⟨Gy,#[],#[.pointer (some ⟨c,0,none⟩)]⟩ U R:=by
 rintro w rfl;have d:=RD hc hm hb hs 2 O;have j:B.length<=maxLen:=by unfold maxLen;omega
 have u:=AnyZI.sorted_in Tryz.nr Fence.wide 5 trivial trivial trivial trivial rfl O (xL _) (Tryz.nv.f5.enters rfl) Gy #[.pointer (some ⟨c,0,none⟩)] trivial (Tryz.lA.f10.enters rfl) _ _ j O _ d;refine(callsIn_wide.1 u).mono ?_;rintro e D ⟨v,ss,rfl,z,i,r,g⟩;obtain⟨s,rfl,p⟩:=He i;refine⟨Hb g,[.slice s.a s.len s.cap],rfl,s,rfl,?_⟩;refine hR s _ (ss.mergeSort λx y=>decide (x<=y)) (VH g) ((List.mergeSort_perm _ _).trans z) ?_ p;have:=List.pairwise_mergeSort (le:=λx y:Int=>decide (x<=y)) (λa b c C A=>by simp at *;omega) (λa b=>by simp;omega) ss;exact this.imp (λh=>by simpa using h)
structure xG (x:Gu) (es:List (Int×B5)):Prop where
 p:es.Perm x.kn
 s:es.Pairwise λa b=>a.1<b.1
def b4 (e:Int×B5):Bk:=(e.2.1,e.2.2.1,e.2.2.2.1,e.2.2.2.2.1)
theorem Jy (p:GP σ0 U L H held s0 P gb km fm x)(xi:∀e∈x.kn,e.1=e.2.1/\gT e.2)(hl:x.kn.length<=1000000){R:Sl->Hp->Prop}(hR:∀s σ' es,aF U σ'->xG x es->bT s 4 (gQ (es.map b4)) σ' (λb=>U.size<=b)->R s σ'):Yv.c (aW gb) U R:=by
 refine Yv.o ?_;unfold Yv.v;have C:∀e∈x.kn,Go.Bu.iN e.1:=λe g=>by
  have h:=xi e g;have M:=h.1;have B:=h.2.z;have h3:=h.2.base;have h4:=h.2.t;have h5:=h.2.m;have h6:=h.2.s;have hw:=ZU (n:=e.2.2.1) O;unfold Go.Bu.iN;omega
 have r:=p.m.nodup;refine Hi p (cD rfl (bL (p.b.rM rfl (Tv _ ?_))));have e1:aF U (U.push (.cells #[.map (some km)] Ds (0,0))):=Ext.push _ _ _;have p1:=p.fr e1;refine NV (by unfold cell;simp) p1.m C hl λs u d e2 Q N hs=>?_;have V:=e1.trans e2;have E:=cV.pw hs;have D:d.Nodup:=Q.nodup_iff.2 r;have X:d.length=x.kn.length:=by rw[Q.length_eq];simp
 have hsl:s.len=d.length:=by have:=E.1;simp at this;omega
 let f:Int->Int×B5:=λk=>(k,(bU x.kn k).getD (0,0,0,0,0))
 have y:∀e∈x.kn,f e.1=e:=λe g=>by
  show(e.1,(bU x.kn e.1).getD (0,0,0,0,0))=e;rw[ZA r (show(e.1,e.2)∈x.kn from g)];rfl
 have hz1:U.size<u.size:=by
  have M:=e2.1;have B:(U.push (.cells #[.map (some km)] Ds (0,0))).size=U.size+1:=by simp
  omega
 refine UC (a:=.s) (bb:=bO) (λ(out:Sl) (z:Int) w=>∃i:Nat,z=i/\i<=d.length/\aF u w/\bT out 4 (gQ (((d.take i).map f).map b4)) w (λb=>u.size<=b)) (λ_ z _=>d.length-z.toNat) ⟨0,rfl,O,Ext.refl _ _,⟨by simp[gQ],.inl ⟨rfl,rfl⟩⟩⟩ ?_;rintro(out:Sl) (z:Int) w ⟨i,rfl,hil,ew,hr⟩;have hw:=p1.fr (e2.trans ew);refine cN (λhlt=>?_) λhge=>?_
 ·have hx:d[i]?=some (d[i]' O):=cW _;have hol:out.len=i:=by have:=hr.1;rw[Hh]at this;simp at this;omega
  have A:(d[i]' O)∈x.kn.map (·.1):=Q.mem_iff.1 (zt _);obtain⟨e,g,K⟩:=zD.1 A;have Y:f (d[i]' O)=e:=by rw[←K];exact y e g
  refine(aH.bP (aH.cut E) ew).lQ hx (bL (hw.b.rM rfl ⟨x.kn,hw.m,?_⟩));have J:bU x.kn (d[i]' O)=some e.2:=by rw[←K];exact ZA r (show(e.1,e.2)∈x.kn from g)
  rw[J];refine hr.push (F:=λb=>u.size<=b) (vs:=kM (b4 e)) (λb G=>by have:=ew.1;omega) rfl rfl (by simp[kM,dS]) O O λs' w' hsl' W Z=>?_;have e3:aF u w':=Ext.fresh ew W λb G=>G;refine cT (m:=i+1) O O ⟨⟨i+1,rfl,O,e3,?_⟩,O⟩;have:gQ (((d.take (i+1)).map f).map b4)=gQ (((d.take i).map f).map b4)++kM (b4 e):=by
   unfold gQ;rw[j6,hx,zj,zj,Bv];simp only[qD,zR,ny,oy,List.flatMap_nil,kb,Y]
  rw[this];exact Z
 ·have S:i=d.length:=by omega
  subst S;rw[lL]at hr;have j:(d.map f).Perm x.kn:=by
   have M:=Q.map f;rw[lM]at M;have B:x.kn.map (f∘λe=>e.1)=x.kn:=by
    conv=>rhs;rw[←vf x.kn]
    exact kA λe g=>y e g
   rwa [B]at M
  refine hR out w (d.map f) (V.trans ew) ⟨j,?_⟩ (aI.mono hr λb _ G=>by
   show U.size<=b;have G:u.size<=b:=G;omega)
  rw[q9];exact(N.and D).imp λ{a b} ⟨M,B⟩=>by
   have h3:a≠b:=B;show a<b;omega
end Go.Ar
namespace Go.Proofs
open Go.Vc
set_option maxRecDepth 100000
def Wz.h:Hn:=.q .o1 (.q (.q .o3 .aK) (.q .o7 (.q (.q .o6 (.k (.loop [(20,.I)] (.q .o1 (.q (.c .l .l) (.q (.k (.q .o6 .o6)) .o2)))))) .aL)))
def Wz.v (a:R2)(b:Hp)(c:Sl->Hp->Prop):Prop:=Wm.c a b λd e=>If (!d) (c ⟨none,0,0⟩ e) (bF a 3 e λg=>Mk ((g.len:Nat):Int) ((g.len:Nat):Int) 8 3 [.I 0] e λh i=>bF a 3 i λk=>X6 [bO] (λl=>l 0 i) λm (n:Int) o=>If (n<((k.len:Nat):Int)) (Ix k.a k.len n 2 λp=>aQ p 0 o λq=>aQ p 1 o λr=>aV #[.I 0,.I 0] 101 o λs t=>aR s 0 (.I q) t λu=>aR s 1 (.I r) u λv=>aQ s 0 v λw=>Ix h.a h.len n 1 λx=>dX x (.I w) v λy=>bM (n+1) λz=>m z y) (c h o))
theorem Wz.o {a b c}(d:Wz.v a b c):Wz.c a b c:=Wa Tryz.func16 (x:=Wz.h) (R0 d)
def Wx.h:Hn:=.q .o1 (.q (.q .o3 .aK) (.q .o1 (.q (.q .o6 (.k (.loop [(3,.I),(14,.I)] (.q .o1 (.q (.c .l .l) (.q (.k (.q .o4 .o5)) .o2)))))) .aL)))
def Wx.v (a:R2)(b:Hp)(c:aN):Prop:=Wm.c a b λd e=>If (!d) (c 0 e) (bF a 3 e λg=>X6 [bO,bO] (λh=>h 0 0 e) λi (j:Int) (k:Int) l=>If (k<((g.len:Nat):Int)) (Ix g.a g.len k 2 λm=>aQ m 0 l λn=>aQ m 1 l λo=>aV #[.I 0,.I 0] 101 l λp q=>aR p 0 (.I n) q λr=>aR p 1 (.I o) r λs=>aQ p 1 s λt=>bM (j+t) λu=>bM (k+1) λv=>i u v s) (c j l))
theorem Wx.o {a b c}(d:Wx.v a b c):Wx.c a b c:=Wa Tryz.func18 (x:=Wx.h) (R0 d)
def Wp.h:Hn:=.q .o2 (.q (.q .o3 .aJ) (.q (.o 12) .l))
def Wp.v (a:R2)(b c d:Int)(e:Hp)(f:Int->Int->Hp->Prop):Prop:=Wm.c a e λg h=>If (!g) (f 0 5 h) (bG a 0 h λj=>Yc.c j b c d h λk l m=>f k l m)
theorem Wp.o {a b c d e f}(g:Wp.v a b c d e f):Wp.c a b c d e f:=Wa Tryz.func21 (x:=Wp.h) (R0 g)
def WO.h:Hn:=.q .o1 (.q (.q .o3 .aK) (.q .o5 .l))
def WO.v (a:R2)(b:Hp)(c:Option Addr->Hp->Prop):Prop:=Wm.c a b λd e=>If (!d) (c none e) (bG a 0 e λg=>c g e)
theorem WO.o {a b c}(d:WO.v a b c):WO.c a b c:=Wa Tryz.func23 (x:=WO.h) (R0 d)
def WL.h:Hn:=.q .o1 (.q (.q .o3 .aK) (.q .o7 (.q .o6 .aL)))
def WL.v (a:R2)(b:Hp)(c:Sl->Hp->Prop):Prop:=Wm.c a b λd e=>If (!d) (c ⟨none,0,0⟩ e) (bF a 4 e λg=>Mk ((g.len:Nat):Int) ((g.len:Nat):Int) 16 62 [.I 0,.I 0] e λh i=>bF a 4 i λk=>tf h 2 k i λl m=>c h m)
theorem WL.o {a b c}(d:WL.v a b c):WL.c a b c:=Wa Tryz.func27 (x:=WL.h) (R0 d)
def Wt.h:Hn:=.q .o2 (.q (.q .o4 (.q .o2 (.c (.q .o3 .l) .l))) (.q .o6 (.q (.k (.loop [] (.q (.q .o6 (.c .l .l)) (.k .o3)))) (.q .o3 .l))))
def Wt.v (a:R2)(b:Int)(c:Hp)(d:Int->Int->Hp->Prop):Prop:=WJ.c a b c λe f=>If (e != 0) (d 0 e f) (bF a 3 f λh=>X6 [] (λi=>i f) λj k=>bF a 3 k λm=>If (((m.len:Nat):Int)>0) (WD.c a b k λn=>j n) (d ((h.len:Nat):Int) 0 k))
theorem Wt.o {a b c d}(e:Wt.v a b c d):Wt.c a b c d:=Wa Tryz.func30 (x:=Wt.h) (R0 e)
def Wj.h:Hn:=.q .o1 (.q (.q .o4 (.q .o2 .aJ)) (.q (.q .o3 .aK) (.q .o9 (.q (.q .o2 (.c (.q .o8 .l) .l)) (.q (.o 11) (.q (.q .o2 .aJ) (.q (.q .o3 .aK) (.q (.q .o4 (.k (.loop [(56,.I)] (.q .o1 (.q (.c .l .l) (.q (.k (.q .o3 .o7)) .o2)))))) (.q (.cU (.held true [13] (.tk [0,1,2,3,4,5,6,7,8] (.all [(9,.all [(10,.take 11 (.take 12 (.all [(13,.done)])))])])))) (.q (.k (.loop [] (.q (.q (.cU (.gI true [] [(99,.one .b)] (.take 0 (.take 1 (.take 2 (.take 3 (.take 4 (.take 5 (.take 6 (.take 7 (.take 8 (.take 9 (.take 10 (.split 91 (.take 11 (.take 12 (.take 13 (.take 14 (.take 15 (.take 16 (.take 17 (.take 18 (.done))))))))) (.take 11 (.take 13 (.take 14 (.take 15 (.take 16 (.all [(12,.take 17 (.take 18 (.done)))])))))))))))))))))))) (.c .l .l)) (.k .o3)))) .aM))))))))))
def Wj.v (a:R2)(b c:Int)(d:Hp)(e:aN):Prop:=WJ.c a b d λf g=>If (f != 0) (e f g) (WS.c a c g λh i=>If h (e 9 i) (WC.c a c i λj k l m n o=>aV #[.I 0,.I 0,.I 0,.I 0] 48 o λp q=>aR p 0 (.I j) q λr=>aR p 1 (.I k) r λs=>aR p 2 (.I l) s λt=>aR p 3 (.I m) t λu=>If (!n) (bG a 0 u λw=>Y3.c w b c u λx y=>e x y) (bG a 0 u λaa=>XY.c aa c u λab ac ad=>If (ac != 0) (e ac ad) (If (((ab.len:Nat):Int)>0) (e 10 ad) (aQ p 0 ad λae=>aQ p 1 ad λaf=>aQ p 2 ad λag=>aQ p 3 ad λah=>XW.c ae af ag ah ad λai aj=>X6 [bO] (λak=>ak 0 aj) λal (am:Int) an=>If (am<((ai.len:Nat):Int)) (Ix ai.a ai.len am 1 λao=>bN ao an λap=>bG a 0 an λar=>XE.c ar an λau av=>Xx.c au ap (-1234567) av λaw ax=>bM (am+1) λay=>al ay ax) (dY an λaz=>bW a λa0=>aT az a0 3 λa1=>aS az p 1 λa2=>aV #[.I c,.I a2] 101 an λa3 a4=>And (az a4) <| App a1 2 16 101 [.I 0,.I 0] ⟨some a3,1,1⟩ a4 λa5 a6=>And (az a6) <| bW a λa7=>aR a7 3 (.slice a5.a a5.len a5.cap) a6 λa8=>X6 [] (λa9=>a9 a8) λba bb=>Jn [.b] (λ(bc:Bool) bd=>If bc (WD.c a b bd λbe=>ba be) (e 0 bd)) λbf=>dY bb λbg=>bW a λbh=>aT bg bh 3 λbi=>bW a λbj=>aS bg bj 1 λbk=>If (((bi.len:Nat):Int)>bk) (bf true bb) (bW a λbl=>
 aS bg bl 2 λbm=>Wx.c a bb λbn bo=>And (bg bo) <| bf (decide (bn>bm)) bo)))))))
theorem Wj.o {a b c d e}(f:Wj.v a b c d e):Wj.c a b c d e:=Wa Tryz.func34 (x:=Wj.h) (R0 f)
def Zt.h:Hn:=.q .o2 (.q (.q (.cU (.seq [.op,.op,.op,.op,.cY false 2 [.op,.op],.op,.cY false 2 [.op,.op],.op,.cY false 2 [.op,.op],.op,.cY false 2 [.op,.op]])) .aJ) (.q .o7 .l))
def Zt.v (a:R2)(b c:Int)(d:Hp)(e:Option Addr->Int->Hp->Prop):Prop:=XE.c a d λf g=>bX (λh i=>bX (λj k=>bX (λl m=>bX (λn o=>If n (e none 1 o) (aV #[.pointer a,.I b,.I c,.slice none 0 0,.slice none 0 0] 71 o λp q=>e (some p) 0 q)) λr=>If l (r true m) (r (decide (c>16384)) m)) λs=>If j (s true k) (s (decide (c<0)) k)) λt=>If h (t true i) (t (decide (b>64)) i)) λu=>If f.isNone (u true g) (u (decide (b<0)) g)
theorem Zt.o {a b c d e}(f:Zt.v a b c d e):Zt.c a b c d e:=Wa Tryz.func36 (x:=Zt.h) (R0 f)
def WF.h:Hn:=.q .o2 (.q (.q .o3 .aJ) (.q (.q .o3 .aJ) (.q .fX .l)))
def WF.v (a:R2)(b:Int)(c:Hp)(d:Int->Int->Hp->Prop):Prop:=Wm.c a c λe f=>If (!e) (d 0 5 f) (WK.c a b f λg h=>If g (d 0 9 h) (bG a 0 h λj=>Y6.c j b h λk l m=>d k l m))
theorem WF.o {a b c d}(e:WF.v a b c d):WF.c a b c d:=Wa Tryz.func37 (x:=WF.h) (R0 e)
def WQ.h:Hn:=.q .o1 (.q (.q .o3 .aK) (.q (.q .o3 .aK) (.q .o8 .l)))
def WQ.v (a:R2)(b c:Int)(d:Hp)(e:aN):Prop:=Wm.c a d λf g=>If (!f) (e 5 g) (WK.c a b g λh i=>If h (e 9 i) (bG a 0 i λk=>YA.c k b c i λl m=>e l m))
theorem WQ.o {a b c d e}(f:WQ.v a b c d e):WQ.c a b c d e:=Wa Tryz.func40 (x:=WQ.h) (R0 f)
def Wm.h:Hn:=.q .o1 (.q (.cU (.seq [.op,.op,.op,.cY true 5 (RI.ops 5),.op])) .l)
def Wm.v (a:R2)(b:Hp)(c:aO):Prop:=bX (λd e=>c d e) λf=>If (!a.isNone) (bG a 0 b λh=>f (!h.isNone) b) (f false b)
theorem Wm.o {a b c}(d:Wm.v a b c):Wm.c a b c:=Wa Tryz.func55 (x:=Wm.h) (R0 d)
def WJ.h:Hn:=.q .o1 (.q (.q .o3 .aK) (.q .o6 (.q (.q (.cU (.seq [.op,.op,.op,.cY false 5 (RI.ops 5)])) .aK) (.q (.q .o4 .aK) .aM))))
def WJ.v (a:R2)(b:Int)(c:Hp)(d:aN):Prop:=Wm.c a c λe f=>If (!e) (d 5 f) (bG a 0 f λh=>XE.c h f λi j=>bX (λk l=>If k (d 1 l) (YX.c i b l λm n=>If (!(m.toList==(ByteArray.mk #[]).toList)) (d 5 n) (d 0 n))) λo=>If (b<0) (o true j) (XR.c i j λp q r s t u=>o (decide (b≥r)) u))
theorem WJ.o {a b c d}(e:WJ.v a b c d):WJ.c a b c d:=Wa Tryz.func63 (x:=WJ.h) (R0 e)
def WD.h:Hn:=.q .o8 (.q .fX (.q .fX (.q (.q .o2 (.c .l .l)) (.q (.cU (.held true [6] (.tk [0,1,2,3,4,5] (.all [(6,.tk [7,8,9,10,11] (.done))])))) (.q (.q .o2 (.c .l .l)) (.q (.q .o4 (.k (.loop [(7,.one .s),(52,.I)] (.q .o1 (.q (.c .l .l) (.q (.k (.q .o3 (.q (.o 12) (.q (.cU (.seq [.op,.op,.op,.cY false 2 [.op,.op]])) (.c .o5 .l))))) .o2)))))) (.kI [] (.q .o3 (.c (.cU (.held true [14] (.tk [0,1,2,3,4,5,6,7] (.all [(8,.take 9 (.all [(10,.all [(11,.take 12 (.take 13 (.all [(14,.done)])))])]))])))) .l)) (.cU (.tail 7 (RI.ops 7) [.op])))))))))
def WD.v (a:R2)(b:Int)(c:Hp)(d:aP):Prop:=bF a 3 c λf=>Ix f.a f.len 0 2 λg=>aQ g 0 c λh=>aQ g 1 c λi=>aV #[.I 0,.I 0] 101 c λj k=>aR j 0 (.I h) k λl=>aR j 1 (.I i) l λm=>bF a 3 m λo=>fD o 2 1 (o.len:Nat) (o.cap:Nat) λp=>Wh.c p m λq r=>bW a λs=>aR s 3 (.slice q.a q.len q.cap) r λt=>aQ j 0 t λu=>WC.c a u t λv w x y z aa=>aV #[.I 0,.I 0,.I 0,.I 0] 48 aa λab ac=>aR ab 0 (.I v) ac λad=>aR ab 1 (.I w) ad λae=>aR ab 2 (.I x) ae λaf=>aR ab 3 (.I y) af λag=>If (!z) (d ag) (dY ag λah=>bW a λai=>aU ah ai 0 λaj=>aS ah j 0 λak=>XY.c aj ak ag λal am an=>If (am != 0) (d an) (aQ ab 0 an λao=>aQ ab 1 an λap=>aQ ab 2 an λaq=>aQ ab 3 an λar=>XW.c ao ap aq ar an λau av=>X6 [.s,bO] (λaw=>aw al 0 av) λax (ay:Sl) (az:Int) a0=>If (az<((au.len:Nat):Int)) (Ix au.a au.len az 1 λa1=>bN a1 a0 λa2=>bG a 0 a0 λa4=>XE.c a4 a0 λa5 a6=>YJ.c a5 a2 a6 λa7 a8 a9=>bX (λba bb=>If ba (aV #[.I a2] 3 bb λbc bd=>App ay 1 8 3 [.I 0] ⟨some bc,1,1⟩ bd λbe bf=>bM (az+1) λbg=>ax be bg bf) (bM (az+1) λbh=>ax ay bh bb)) λbi=>If (a8 != 0) (bi true a9) (bi (a7 != (-1234567)) a9)) (Jn [] (λbj=>bG a 0 bj λbl=>aQ j 0 bj λbm=>
 Zh.c bl b bm bj λbn bo=>d bo) λbp=>If (((ay.len:Nat):Int)>0) (dY a0 λbq=>bW a λbr=>aT bq br 4 λbs=>aS bq j 0 λbt=>W7.c ay a0 λbu bv=>And (bq bv) <| aV #[.I bt,.I bu] 62 bv λbw bx=>And (bq bx) <| App bs 2 16 62 [.I 0,.I 0] ⟨some bw,1,1⟩ bx λbz b0=>And (bq b0) <| bW a λb1=>aR b1 4 (.slice bz.a bz.len bz.cap) b0 λb2=>bp b2) (bp a0))))
theorem WD.o {a b c d}(e:WD.v a b c d):WD.c a b c d:=Wa Tryz.func64 (x:=WD.h) (R0 e)
def WS.h:Hn:=.q .o2 (.q .o7 .l)
def WS.v (a:R2)(b:Int)(c:Hp)(d:aO):Prop:=aV #[.I b] 3 c λe f=>bF a 3 f λh=>Wb.c h ⟨115,#[],#[.pointer (some e)]⟩ f λi j=>d i j
theorem WS.o {a b c d}(e:WS.v a b c d):WS.c a b c d:=Wa Tryz.func68 (x:=WS.h) (R0 e)
def WC.h:Hn:=.q .o2 (.q .o6 (.q .o8 (.q (.q .o2 (.c (.q .o3 .l) .l)) (.q .o6 .l))))
def WC.v (a:R2)(b:Int)(c:Hp)(d:Int->Int->Int->Int->Bool->Hp->Prop):Prop:=aV #[.I 0,.I 0,.I 0,.I 0] 48 c λe f=>bG a 0 f λh=>Yv.c h f λi j=>Wf.c i b ⟨117,#[],#[]⟩ j λk l m=>If (!l) (aR e 0 (.I 0) m λn=>aR e 1 (.I 0) n λo=>aR e 2 (.I 0) o λp=>aR e 3 (.I 0) p λq=>aQ e 0 q λr=>aQ e 1 q λs=>aQ e 2 q λt=>aQ e 3 q λu=>d r s t u false q) (Ix i.a i.len k 4 λv=>aQ v 0 m λw=>aQ v 1 m λx=>aQ v 2 m λy=>aQ v 3 m λz=>aR e 0 (.I w) m λaa=>aR e 1 (.I x) aa λab=>aR e 2 (.I y) ab λac=>aR e 3 (.I z) ac λad=>aQ e 0 ad λae=>aQ e 1 ad λaf=>aQ e 2 ad λag=>aQ e 3 ad λah=>d ae af ag ah true ad)
theorem WC.o {a b c d}(e:WC.v a b c d):WC.c a b c d:=Wa Tryz.func69 (x:=WC.h) (R0 e)
def XW.h:Hn:=.q .o2 (.q .o1 (.q (.q .o1 (.k (.loop [(3,.one .s),(4,.I)] (.q (.q .o4 (.c .l .l)) (.q (.k .o8) .o3))))) .aL))
def XW.v (a b c d:Int)(e:Hp)(f:Sl->Hp->Prop):Prop:=aV #[.I a,.I b,.I c,.I d] 48 e λg h=>X6 [.s,bO] (λi=>i ⟨none,0,0⟩ 0 h) λj (k:Sl) (l:Int) m=>aQ g 1 m λn=>If (l<n) (aQ g 0 m λo=>bM (o+l) λp=>aV #[.I p] 3 m λq r=>App k 1 8 3 [.I 0] ⟨some q,1,1⟩ r λs t=>bM (l+8) λu=>j s u t) (f k m)
theorem XW.o {a b c d e f}(g:XW.v a b c d e f):XW.c a b c d e f:=Wa Tryz.func72 (x:=XW.h) (R0 g)
def WK.h:Hn:=.q .o3 (.q .o7 .l)
def WK.v (a:R2)(b:Int)(c:Hp)(d:aO):Prop:=aV #[.pointer a] 33 c λe f=>aV #[.I b] 3 f λg h=>fY e h λi=>bF i 3 h λk=>Wb.c k ⟨121,#[],#[.pointer (some e),.pointer (some g)]⟩ h λl m=>d l m
theorem WK.o {a b c d}(e:WK.v a b c d):WK.c a b c d:=Wa Tryz.func75 (x:=WK.h) (R0 e)
def W5.h:Hn:=.q .o2 (.q .o5 .l)
def W5.v (a b:Int)(c:Addr)(d:Hp)(e:aO):Prop:=aV #[.I a,.I b] 101 d λf g=>aQ f 0 g λh=>bN c g λi=>e (h==i) g
theorem W5.o {a b c d e}(f:W5.v a b c d e):W5.c a b c d e:=Wa Tryz.func115 (x:=W5.h) (R0 f)
def WW.h:Hn:=.q .o2 (.q .o5 .l)
def WW.v (a b c d e:Int)(f:Hp)(g:aN):Prop:=aV #[.I a,.I b,.I c,.I d] 48 f λh i=>aQ h 0 i λj=>bM (j-e) λk=>g k i
theorem WW.o {a b c d e f g}(h:WW.v a b c d e f g):WW.c a b c d e f g:=Wa Tryz.func117 (x:=WW.h) (R0 h)
def WX.h:Hn:=.q .o2 (.q .fX (.q (.cU (.gI true [] [(4,.one .b)] (.take 0 (.take 1 (.split 15 (.take 2 (.take 4 (.all [(3,.all [(5,.take 6 (.take 7 (.done)))])]))) (.take 2 (.take 3 (.take 4 (.take 5 (.take 6 (.take 7 (.done)))))))))))) .l))
def WX.v (a b:Int)(c d:Addr)(e:Hp)(f:aO):Prop:=aV #[.I a,.I b] 101 e λg h=>fY c h λi=>aQ g 0 h λj=>WC.c i j h λk l m n o p=>aV #[.I 0,.I 0,.I 0,.I 0] 48 p λq r=>aR q 0 (.I k) r λs=>aR q 1 (.I l) s λt=>aR q 2 (.I m) t λu=>aR q 3 (.I n) u λv=>Jn [.b] (λ(w:Bool) x=>f w x) λy=>dY v λz=>If o (aS z q 0 λaa=>aS z q 1 λab=>aS z q 2 λac=>aS z q 3 λad=>gG z bO d λ(ae:Int)=>XW.c aa ab ac ad v λaf ag=>And (z ag) <| Ww.c af ae ag λah ai=>And (z ai) <| y ah ai) (y false v)
theorem WX.o {a b c d e f}(g:WX.v a b c d e f):WX.c a b c d e f:=Wa Tryz.func121 (x:=WX.h) (R0 g)
end Go.Proofs
namespace Go.Ar
open Go Go.Vc Go.Proofs
open Go.Vc (bU dA cO)
variable {U σ0 v w w':Hp}{F P Q X T:Rg}{L:dE}{H H' H1:Hw}{held:List Pc}{s0 sp:Sp}{t n:Nat}{gb km fm m:Nat}{x y:Gu}{b:B5}
abbrev P2:=Int×Int
def lK (e:P2):List Value:=[.int .i64 e.1,.int .i64 e.2]
def gO (l:List P2):List Value:=l.flatMap lK
theorem UO (l:List P2):(gO l).length=l.length*2:=by
 induction l with
 | nil=>rfl
 | cons e l ih=>simp only[gO,oy,zJ,zS,lK,kr]at *;omega
theorem DY:∀{l:List P2} {i:Nat} {e:P2},l[i]?=some e->∀{d:Nat},d<2->(gO l)[2*i+d]?=(lK e)[d]?
 | [],_,_,h,_,_=>by simp at h
 | y::l,0,e,h,d,hd=>by
  simp at h;subst h;have e1:gO (y::l)=lK y++gO l:=by simp[gO]
  have a:(lK y).length=2:=rfl;rw[e1,zd O];congr 1;omega
 | y::l,i+1,e,h,d,hd=>by
  have e1:gO (y::l)=lK y++gO l:=by simp[gO]
  have a:(lK y).length=2:=rfl;rw[e1,zp O,a,show 2*(i+1)+d-2=2*i+d by omega];exact DY (by simpa using h) hd
theorem IW:∀(l:List P2) (n:Nat),gO (l.drop n)=(gO l).drop (n*2)
 | l,0=>by simp
 | [],n+1=>by simp[gO]
 | y::l,n+1=>by
  have e1:gO (y::l)=lK y++gO l:=by simp[gO]
  have a:(lK y).length=2:=rfl;rw[wq,e1,IW l n,List.drop_append,D9 (l:=lK y) O,a,show(n+1)*2-2=n*2 by omega,sN]
theorem Jq:∀(l:List P2),∀v∈gO l,dS v=true:=by
 intro l v a;simp only[gO,List.mem_flatMap,lK]at a;obtain⟨e,_,a⟩:=a;simp at a;rcases a with rfl|rfl<;>rfl
structure Qu where
 bl:Int
 by':Int
 q:List P2
 rs:List P2
def iF (l:List P2):Int:=(l.map (·.2)).sum
structure oK (q:Qu):Prop where
 bl:0<=q.bl/\q.bl<=64
 by':0<=q.by'/\q.by'<=16384
 ql:q.q.length<=66
 qs:∀e∈q.q,1<=e.2/\e.2<=1024
 rl:q.rs.length<=10000
def Ut (q:Qu):Bool:=decide ((q.q.length:Int)>q.bl)||decide (iF q.q>q.by')
theorem RF (e:P2)(l:List P2):iF (e::l)=e.2+iF l:=by simp[iF]
theorem Oz (l:List P2)(e:P2):iF (l++[e])=iF l+e.2:=by simp[iF]
theorem Ty {l:List P2}(h:∀e∈l,1<=e.2/\e.2<=1024):0<=iF l/\iF l<=l.length*1024:=by
 induction l with
 | nil=>simp[iF]
 | cons e l ih=>
  have b:=h e mY;have d:=ih λe a=>h e (mu _ a);rw[RF,zS];omega
def tB (sp:Sp)(b:B5):List Int:=(XP b).filter λz=>eI sp z != 0||QZ sp z != Ga
def Ku (H:Hw)(b:B5):List Int:=QV H.sp b++tB H.sp b
def lH:List Int->Int
 | []=>0
 | a::l=>l.foldl (λm z=>if z<m then z else m) a
inductive gK (thread:Int) (H:Hw) (x:Gu) (q:Qu):Hw->Gu->Qu->Prop where
 | none {e:P2} {r:List P2}:q.q=e::r->(bU x.kn e.1=none\/kZ H x e.1≠0)->gK thread H x q H x {q with q:=r}
 | stay {e:P2} {r:List P2} {b:B5}:q.q=e::r->bU x.kn e.1=some b->kZ H x e.1=0->mi H x thread e.1 false≠0->gK thread H x q H x ⟨q.bl,q.by',r,if Ku H b=[]then q.rs else q.rs++[(e.1,lH (Ku H b))]⟩
 | free {e:P2} {r:List P2} {b:B5} {H1:Hw} {er:Int}:q.q=e::r->bU x.kn e.1=some b->kZ H x e.1=0->mi H x thread e.1 false=0->KK (dO H b) thread 1 0 0 b.2.2.1 H1 0 er->fR (dO H b) H1->nM (dO H b) thread b.2.2.1 H1 er →
  gK thread H x q H1 (x.gone e.1) ⟨q.bl,q.by',r,if Ku H b=[]then q.rs else q.rs++[(e.1,lH (Ku H b))]⟩
inductive iM (thread:Int):Hw->Gu->Qu->Hw->Gu->Qu->Prop where
 | stop {H:Hw} {x:Gu} {q:Qu}:Ut q=false->iM thread H x q H x q
 | next {H H1 H':Hw} {x x1 x':Gu} {q q1 q':Qu}:Ut q=true->gK thread H x q H1 x1 q1->iM thread H1 x1 q1 H' x' q'->iM thread H x q H' x' q'
inductive iS (thread:Int):Hw->Gu->Qu->Hw->Gu->Qu->Prop where
 | stop {H:Hw} {x:Gu} {q:Qu}:q.q=[]->iS thread H x q H x q
 | next {H H1 H':Hw} {x x1 x':Gu} {q q1 q':Qu}:gK thread H x q H1 x1 q1->iS thread H1 x1 q1 H' x' q'->iS thread H x q H' x' q'
def vC (gb:Nat)(q:Qu)(qs rs:Sl):List Value:=[.pointer (some ⟨gb,0,none⟩),.int .i64 q.bl,.int .i64 q.by',.slice qs.a qs.len qs.cap,.slice rs.a rs.len rs.cap]
def kz (P:Rg)(gb km fm qb:Nat)(Qq Qr:Rg):Rg:=λb=>Mg P gb km fm b\/b=qb\/Qq b\/Qr b
structure QP (σ0 U:Hp) (L:dE) (H:Hw) (held:List Pc) (s0:Sp) (P:Rg) (gb km fm:Nat) (x:Gu) (qb:Nat) (Qq Qr:Rg) (qs rs:Sl) (q:Qu):Prop where
 p:GP σ0 U L H held s0 P gb km fm x
 b:bZ U qb (vC gb q qs rs)
 rq:bT qs 2 (gO q.q) U Qq
 rr:bT rs 2 (gO q.rs) U Qr
 sD:σ0.size<=qb/\¬Mg P gb km fm qb/\¬Qq qb/\¬Qr qb
 qq:∀b,Qq b->σ0.size<=b/\b<U.size/\¬Mg P gb km fm b
 qr:∀b,Qr b->σ0.size<=b/\b<U.size/\¬Mg P gb km fm b
 dj:∀b,Qq b->¬Qr b
 i:oK q
variable {qb:Nat}{Qq Qr:Rg}{qs rs:Sl}{q:Qu}
theorem QP.fr (o:QP σ0 U L H held s0 P gb km fm x qb Qq Qr qs rs q)(e:aF U w):QP σ0 w L H held s0 P gb km fm x qb Qq Qr qs rs q:=
 ⟨o.p.fr e,e.bV o.b id,aI.bP o.rq e,aI.bP o.rr e,o.sD,λb a=>by have h:=o.qq b a;have:=e.1;exact⟨h.1,O,h.2.2⟩,λb a=>by have h:=o.qr b a;have:=e.1;exact⟨h.1,O,h.2.2⟩,o.dj,o.i⟩
theorem QP.eY (o:QP σ0 U L H held s0 P gb km fm x qb Qq Qr qs rs q){L':dE}{held':List Pc}{s0':Sp}{P':Rg}(e:Ext (Mg P gb km fm) U w)(p':GP σ0 w L' H' held' s0' P' gb km fm y)(hP:∀b,P' b->P b\/U.size<=b) :
 QP σ0 w L' H' held' s0' P' gb km fm y qb Qq Qr qs rs q:=by
 have E:=e.1;have a:=o.b.lt;obtain⟨A,s,B,C⟩:=o.sD;have j:∀b,b<U.size->¬Mg P gb km fm b->¬Mg P' gb km fm b:=λb D z u=>by
  rcases EK ⟨o.p.b.lt,o.p.m.lt,o.p.f.lt⟩ hP b u with h4|h4
  ·exact z h4
  ·omega
 exact⟨p',e.bV o.b s,aI.bS o.rq e λb _ d r=>(o.qq b d).2.2 r,aI.bS o.rr e λb _ d r=>(o.qr b d).2.2 r,⟨A,j _ a s,B,C⟩,λb g=>by have h:=o.qq b g;exact⟨h.1,O,j b h.2.1 h.2.2⟩,λb g=>by have h:=o.qr b g;exact⟨h.1,O,j b h.2.1 h.2.2⟩,o.dj,o.i⟩
theorem QP.out (o:QP σ0 U L H held s0 P gb km fm x qb Qq Qr qs rs q)(e:Ext T U w)(hT:∀b,b<U.size->T b->¬kz P gb km fm qb Qq Qr b/\σ0.size<=b):QP σ0 w L H held s0 P gb km fm x qb Qq Qr qs rs q:=by
 have s:=e.1;have m:=o.b.lt;refine⟨o.p.out e λb a d=>?_,e.bV o.b λd=>(hT qb m d).1 (.inr (.inl rfl)),aI.bS o.rq e λb a j d=>(hT b a d).1 (.inr (.inr (.inl j))),aI.bS o.rr e λb a j d=>(hT b a d).1 (.inr (.inr (.inr j))),o.sD,λb a=>by have h:=o.qq b a;exact⟨h.1,O,h.2.2⟩,λb a=>by have h:=o.qr b a;exact⟨h.1,O,h.2.2⟩,o.dj,o.i⟩;have h:=hT b a d;have g:=VF λr=>h.1 (.inl r);exact⟨g.1,g.2.1,g.2.2.1,g.2.2.2,h.2⟩
theorem QP.xh (o:QP σ0 U L H held s0 P gb km fm x qb Qq Qr qs rs q){s':Sl}{l':List P2}{Q':Rg}(e:Ext Qq U w)(hr:bT s' 2 (gO l') w Q')(hQ:∀b,Q' b->Qq b\/U.size<=b/\b<w.size)(hi:oK {q with q:=l'}){K:aP}
 (hK:∀u,Ext (· = qb) w u->QP σ0 u L H held s0 P gb km fm x qb Q' Qr s' rs {q with q:=l'}->K u):dX (Addr.add ⟨qb,0,none⟩ 3) (.slice s'.a s'.len s'.cap) w K:=by
 have M:=e.1;have F:=o.b.lt;obtain⟨y,B,z,C⟩:=o.sD;have J:=o.p.out e λb _ d=>by have h:=o.qq b d;have g:=VF h.2.2;exact⟨g.1,g.2.1,g.2.2.1,g.2.2.2,h.1⟩
 have r:=aI.bS o.rr e λb _ i D=>o.dj b D i;refine(e.bV o.b z).s1 (by simp[vC]) λu s b=>?_;have j:=s.ext;have E:=s.1;have g:=VF B;have A:¬Q' qb:=λh=>by
  rcases hQ qb h with h|h
  ·exact z h
  ·omega
 refine hK u j ⟨J.out j λb _ (d:b=qb)=>by subst d;exact⟨g.1,g.2.1,g.2.2.1,g.2.2.2,y⟩,b,aI.bS hr j λb _ m (d:b=qb)=>A (d▸m),aI.bS r j λb _ m (d:b=qb)=>C (d▸m),⟨y,B,A,C⟩,λb d=>?_,λb d=>by have h:=o.qr b d;exact⟨h.1,O,h.2.2⟩,λb d i=>?_,hi⟩
 ·rcases hQ b d with d|d
  ·have h:=o.qq b d;exact⟨h.1,O,h.2.2⟩
  ·have:=o.p.e.1;exact⟨O,O,λG=>by have:=uQ o.p G;omega⟩
 ·rcases hQ b d with d|d
  ·exact o.dj b d i
  ·have:=(o.qr b i).2.1;omega
theorem QP.gE (o:QP σ0 U L H held s0 P gb km fm x qb Qq Qr qs rs q){s':Sl}{l':List P2}{Q':Rg}(e:Ext Qr U w)(hr:bT s' 2 (gO l') w Q')(hQ:∀b,Q' b->Qr b\/U.size<=b/\b<w.size)(hi:oK {q with rs:=l'}){K:aP}
 (hK:∀u,Ext (· = qb) w u->QP σ0 u L H held s0 P gb km fm x qb Qq Q' qs s' {q with rs:=l'}->K u):dX (Addr.add ⟨qb,0,none⟩ 4) (.slice s'.a s'.len s'.cap) w K:=by
 have M:=e.1;have F:=o.b.lt;obtain⟨y,B,z,C⟩:=o.sD;have J:=o.p.out e λb _ d=>by have h:=o.qr b d;have g:=VF h.2.2;exact⟨g.1,g.2.1,g.2.2.1,g.2.2.2,h.1⟩
 have r:=aI.bS o.rq e λb _ i D=>o.dj b i D;refine(e.bV o.b C).s1 (by simp[vC]) λu s b=>?_;have j:=s.ext;have E:=s.1;have g:=VF B;have A:¬Q' qb:=λh=>by
  rcases hQ qb h with h|h
  ·exact C h
  ·omega
 refine hK u j ⟨J.out j λb _ (d:b=qb)=>by subst d;exact⟨g.1,g.2.1,g.2.2.1,g.2.2.2,y⟩,b,aI.bS r j λb _ m (d:b=qb)=>z (d▸m),aI.bS hr j λb _ m (d:b=qb)=>A (d▸m),⟨y,B,z,A⟩,λb d=>by have h:=o.qq b d;exact⟨h.1,O,h.2.2⟩,λb d=>?_,λb d i=>?_,hi⟩
 ·rcases hQ b d with d|d
  ·have h:=o.qr b d;exact⟨h.1,O,h.2.2⟩
  ·have:=o.p.e.1;exact⟨O,O,λG=>by have:=uQ o.p G;omega⟩
 ·rcases hQ b i with i|i
  ·exact o.dj b d i
  ·have:=(o.qq b d).2.1;omega
theorem Fu (o:QP σ0 U L H held s0 P gb km fm x qb Qq Qr qs rs q){c:Nat}(h:kz P gb km fm qb Qq Qr c):σ0.size<=c/\c<U.size:=by
 rcases h with h|rfl|h|h
 ·refine⟨?_,uQ o.p h⟩;rcases h with h|rfl|rfl|rfl
  ·exact(o.p.pP c h).1
  ·exact o.p.rp.1
  ·exact o.p.sJ.1
  ·exact o.p.sH.1
 ·exact⟨o.sD.1,o.b.lt⟩
 ·have:=o.qq c h;exact⟨this.1,this.2.1⟩
 ·have:=o.qr c h;exact⟨this.1,this.2.1⟩
theorem tQ {s:Sl}{l:List P2}(hs:cV s 2 (gO l) U F){i:Nat}{e:P2}(hb:l[i]?=some e){K:Addr->Prop}(hK:∀bb o,(∀(j:Nat) v,(lK e)[j]?=some v->cell U ⟨bb,o+j,none⟩=some v)->K ⟨bb,o,none⟩):Ix s.a s.len (i:Int) 2 K:=by
 have p:=(cX.1 hb).1;have x:s.len=l.length:=by have:=hs.1;rw[UO]at this;omega
 obtain⟨b,o,m,_⟩:=hs.cell (j:=2*i+0) (v:=.int .i64 e.1) ((DY hb O).trans rfl);rw[m];refine ix O O ?_;rw[add_lit];refine hK b _ λj v g=>?_;have r:j<2:=(cX.1 g).1;obtain⟨w,y,d,u⟩:=hs.cell ((DY hb r).trans g);rw[m]at d;cases d;rw[show o+(i:Int).toNat*2+j=o+(2*i+j) by omega];exact u
theorem _root_.Go.Vc.bT.kL {s:Sl}{l:List P2}(h:bT s 2 (gO l) U F):s.len=l.length:=by have:=h.1;rw[UO]at this;omega
theorem ur {ty:Nat}{a c:Int}{K:Addr->Hp->Prop}(hK:∀w',aF U w'->w'.size=U.size+1->bZ w' U.size [.int .i64 a,.int .i64 c]->K ⟨U.size,0,none⟩ w'):Nw (.cells #[.int .i64 0,.int .i64 0] ty (0,0)) U λn v20=>dX (n.add 0) (.int .i64 a) v20 λv21=>dX (n.add 1) (.int .i64 c) v21 λv22=>K n v22:=
 nw (cs:=[.int .i64 0,.int .i64 0]) λv20 r g j=>j.s1 aA λv21 d m=>m.s1 aA λv22 b p=>
  hK v22 (Ext.fresh g (d.ext.trans b.ext) λi (hi:i=U.size)=>O) (by have:=d.1;have:=b.1;omega) p
theorem sq {ty:Nat}{a b c d:Int}{K:Addr->Hp->Prop}(hK:∀w',aF U w'->bZ w' U.size (kM (a,b,c,d))->K ⟨U.size,0,none⟩ w'):Nw (.cells #[.int .i64 0,.int .i64 0,.int .i64 0,.int .i64 0] ty (0,0)) U λn v20=>dX (n.add 0) (.int .i64 a) v20 λv21=>dX (n.add 1) (.int .i64 b) v21 λv22=>dX (n.add 2) (.int .i64 c) v22 λv23=>dX (n.add 3) (.int .i64 d) v23 λv24=>K n v24:=
 nw (cs:=[.int .i64 0,.int .i64 0,.int .i64 0,.int .i64 0]) λv20 z j w=>w.s1 aA λv21 u x=>x.s1 aA λv22 s y=>y.s1 aA λv23 g r=>r.s1 aA λv24 p m=>
  hK v24 (Ext.fresh j (((u.ext.trans s.ext).trans g.ext).trans p.ext) λi (hi:i=U.size)=>O) m
theorem Fq {s:Sl}{l:List P2}(hr:bT s 2 (gO l) U Q)(hl:l.length<=100000)(k:P2){S:aP}(hS0:∀u,aF U u->S u){e t:Nat}{K:Sl->Hp->Prop}
 (hK:∀s' w,Ext Q U w->bT s' 2 (gO (l++[k])) w (λb=>Q b\/U.size<=b/\b<w.size)->S w/\K s' w) :
 Nw (.cells #[.int .i64 k.1,.int .i64 k.2] t (0,0)) U λn v=>And (S v)<|App s 2 16 e [.int .i64 0,.int .i64 0] ⟨some n,1,1⟩ v λs' w=>And (S w)<|K s' w:=by
 have p:=hr.kL;refine nw (cs:=lK k) λv m e1 d=>⟨hS0 v e1,?_⟩;have g:=aI.bP hr e1;refine g.app (ys:=lK k) rfl (by simp[lK]) ?_ (by simp[lK,dS]) ?_ ?_ nm λs' h' y z a=>?_
 ·intro j u hu;rw[add_lit,zH,d.cell];exact hu
 ·simp only;omega
 ·simp only;omega
 ·have i:Ext Q U h':=e1.to.trans z;refine hK s' h' i ?_;have:gO (l++[k])=gO l++lK k:=by simp[gO]
  rw[this];refine aI.mono (aI.cut a) λb x r=>?_;rcases r.1 with h1|h1
  ·exact .inl h1
  ·exact .inr ⟨O,x⟩
end Go.Ar