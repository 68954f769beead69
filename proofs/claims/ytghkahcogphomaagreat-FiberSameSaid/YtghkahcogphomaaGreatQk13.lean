/- Fibers: a part of the walk. No condition. -/
import Derived.Deep.Slices
import Derived.Deep.Fields
import Derived.ChangeSame
import Derived.Test.YtghkahcogphomaaGreatQk12
set_option linter.all false
namespace Go.Proofs.YtghkahcogphomaaGreat
section
open Go.ChangeShapes Go.WideShapes Go.RowKit
section
variable{H:Type}{enc:TypeId×Value→H}{P:Program}{w:World}{spare:Nat→Bool}{held:Bool}
theorem addr_none{w:World}{a:Addr}{v:Value}(h:w.cell? a=some v):a.spot=none∧a.block<w.heap.size:=by
 unfold World.cell? at h;split at h
 ·rename_i c e f he
  refine⟨?_,lt_of_block he⟩;cases hs:a.spot with
  |none=>rfl
  |some x=>simp[hs]at h
 ·simp at h
theorem add_cell{w:World}{a:Addr}{n:Nat}{v:Value}(hs:a.spot=none)(h:w.cell? (a.add n)=some v):w.cell? ⟨a.block,a.off+n,none⟩=some v:=by
 unfold Addr.add at h;split at h
 ·subst n;cases a;simp_all
 ·exact h
theorem open_int_slice{t e:TypeId}{k:IntKind}{a:Option Addr}{len cap:Nat}{d:DataW H}{p:List MemPlace}
 (ht:P.underlying t=some (.slice e)) (he:P.underlying e=some (.int k)) (hC:P.cellsOf e=1) (h:DataW.Trod enc P w 0 spare held t (.slice a len cap) d p):
 ∃zs:List Int,zs.length=len∧(∀n∈zs,(Lit.int k n).wf=true)∧len≤cap∧cap≤maxLen∧
  (len=0∨∃b o,a=some ⟨b,o,none⟩∧b<w.heap.size∧∀i,i<len→w.cell? ⟨b,o+i,none⟩=some (.int k (zs[i]?.getD 0))):=by
 obtain⟨fuel,h⟩:=h;rcases open_ints ht he hC h with⟨hcs,_⟩|⟨a0,l0,c0,zs,hcs,_,hl,hm,hz,_,hcell,hwz⟩
 ·simp[Value.cells]at hcs;obtain⟨rfl,rfl,rfl⟩:=hcs;exact⟨[],rfl,by simp,Nat.le_refl _,by simp[maxLen],.inl rfl⟩
 ·simp[Value.cells]at hcs;obtain⟨rfl,rfl,rfl⟩:=hcs;have hlz:len≤zs.length:=by rw[hz];split<;>omega
  refine⟨zs.take len,by simp;omega,fun n hn=>hwz n (List.mem_of_mem_take hn),hl,hm, ?_⟩;by_cases h0:len=0
  ·exact .inl h0
  ·right;have hc:=hcell 0 (by omega)
   have hs:a0.spot=none∧a0.block<w.heap.size:=by
    have:=addr_none hc;simp[Addr.add]at this;exact this
   refine⟨a0.block,a0.off,by cases a0;simp_all,hs.2,fun i h1=> ?_⟩;have:=add_cell hs.1 (hcell i (by omega));rw[this,List.getElem?_take_of_lt h1];simp[List.getD]
end
end
section
open Go.ChangeShapes Go.WideShapes Go.RowKit Go.Maps
variable{w w':World}{mb n:Nat}{cl:Int→Int}{hb b wb lb:Nat}{A:Ar}{m:Nat}
theorem own_map_fr{S:List Nat}{D:DataW Unit}(h:w.ownsMap Tryz.prog 3 (plainElem Tryz.prog 3) mb n D)(hF:Fr S w w')(hS:mb∉S):w'.ownsMap Tryz.prog 3 (plainElem Tryz.prog 3) mb n D:=by
 obtain⟨es,clock,hb,r⟩:=h
 have hl:mb<w.heap.size:=by
  rcases Nat.lt_or_ge mb w.heap.size with h|h
  ·exact h
  ·rw[Array.getElem?_eq_none h]at hb;cases hb
 exact⟨es,clock,(hF.block mb hl hS).trans hb,r⟩
theorem map_ne{D:DataW Unit}{tb i:Nat}{u:Value}(h:w.cell? ⟨tb,i,none⟩=some u)(hm:w.ownsMap Tryz.prog 3 (plainElem Tryz.prog 3) mb n D):tb≠mb:=by
 rintro rfl;obtain⟨es,clock,hb,_⟩:=hm;unfold World.cell? at h;rw[hb]at h;simp at h
theorem cell_fr{S:List Nat}{tb i:Nat}{u:Value}(h:w.cell? ⟨tb,i,none⟩=some u)(hF:Fr S w w')(hS:tb∉S):w'.cell? ⟨tb,i,none⟩=some u:=by
 rw[←h];exact World.cell?_of_block (w:=w) (hF.block tb (addr_none h).2 hS)
theorem nth_mem{α:Type}[Inhabited α](l:List α)(i:Nat)(h:i<l.length):nth l i∈l:=by
 unfold nth;rw[List.getElem?_eq_getElem h];exact List.getElem_mem h
structure QAt(w wr:World)(v:Value)(l:List C2)(k:Nat):Prop where
 p:blk wr (w.heap.size+1)=some (.cells #[v] 155 (0,0))
 en:EnAt wr w.heap.size v l
 ne:v.ownBlock≠some (w.heap.size+1)
 hp:HeapF ltE (nth l) l.length
 len:l.length≤k
 mem: ∀y,y∈l→0≤y.b∧y.b<4096∧0<y.f∧y.f<16
theorem QAt.fr{S:List Nat}{wr wr':World}{v:Value}{l:List C2}{k:Nat}(h:QAt w wr v l k)(hF:Fr S wr wr')(h1:w.heap.size+1∉S)(h2: ∀x,v.ownBlock=some x→x∉S):QAt w wr' v l k:=
 ⟨hF.at h.p h1,zL h.en hF h2,h.ne,h.hp,h.len,h.mem⟩
theorem QAt.more{wr:World}{v:Value}{l:List C2}{k:Nat}(h:QAt w wr v l k):QAt w wr v l (k+1):=⟨h.p,h.en,h.ne,h.hp,by have:=h.len;omega,h.mem⟩
theorem own_ge{w:World}{B:Nat}{v:Value}{l:List C2}(h:EnAt w B v l): ∀x,x∈v.ownBlock.toList→B≤x:=by
 intro x hx;rcases h.2 with⟨hv,_⟩|⟨g,cap,cur,hv,hb,_⟩
 ·subst hv;simp[Value.ownBlock]at hx
 ·subst hv;simp[Value.ownBlock]at hx;omega
theorem QAt.pushed{wr wr':World}{v:Value}{l:List C2}{k:Nat}{e:Ending}(h:QAt w wr v l k)(b0 b1:Int)(h0:0≤b0∧b0<4096)(h1:0<b1∧b1<16)(hd:PushDone wr w.heap.size (w.heap.size+1) #[v] 155 v l ⟨b0,b1⟩ e wr'):
 ∃v' l',QAt w wr' v' l' (k+1)∧Fr ((w.heap.size+1)::v.ownBlock.toList) wr wr':=by
 obtain⟨rfl,g,cap,l',hp,hh,hat,hg,hF⟩:=hd;have hl:l'.length=l.length+1:=hp.length_eq;refine⟨_,l',⟨hat.p,by have:=hat.en;rwa[hl]at this,by simpa[Value.ownBlock]using hat.ne,by rw[hl];exact hh,by rw[hl];have:=h.len;omega, ?_⟩,hF⟩;intro z hz;rcases List.mem_cons.1 (hp.mem_iff.1 hz)with rfl|hz
 ·exact⟨h0.1,h0.2,h1.1,h1.2⟩
 ·exact h.mem z hz
set_option maxRecDepth 100000 in
set_option maxHeartbeats 2000000 in
theorem choose_c(w:World)(tb:Nat)(c0:w.cell? ⟨tb,0,none⟩=some (.pointer (some ⟨hb,0,none⟩)))(c1:w.cell? ⟨tb,1,none⟩=some (.map (some mb)))(hH:HeAt w hb b wb lb A)(ok:A.Ok m)(hC:ClAt w mb 0 cl)(many:Int):
 Calls Tryz.prog 84 #[.pointer (some ⟨tb,0,none⟩),.int .i64 many] w fun e w'=>e=.returned (.tuple #[])∧(∃cl n,ClAt w' mb n cl)∧Fr [mb] w w':=by
 have CB:=Lib.hid (oarena_c w hH);have HH:=Lib.hid hH;have OK:=Lib.hid ok;have HC:=Lib.hid hC;have m1:=ok.m1;have m2:=ok.m2;clear hH ok hC;go_enter Tryz.func84,Tryz.ntmps84;go_wp2_with fail;refine CB.out.mono ?_;rintro e w' ⟨rfl,rfl⟩;have F0:Hid (Fr [] w ((w.alloc (.cells #[] 159)).alloc (.cells #[.slice (some ⟨w.heap.size,0,none⟩) 0 0] 155))):=Lib.hid (((Fr.refl _ _).alloc _).alloc _)
 have Q0:Hid (QAt w ((w.alloc (.cells #[] 159)).alloc (.cells #[.slice (some ⟨w.heap.size,0,none⟩) 0 0] 155)) (.slice (some ⟨w.heap.size,0,none⟩) 0 0) [] 0):=Lib.hid (by
  refine⟨by rw[zB,if_pos (by rw[zC])], ?_,by simp[Value.ownBlock],fun c h0 hc=>by simp at hc,by simp,fun y hy=>by simp at hy⟩;exact own_mk (cur:= #[]) (by rw[zB,if_neg (by rw[zC];omega),zB,if_pos rfl]) (Nat.le_refl _) (Nat.le_refl _) (by unfold maxLen;omega) rfl rfl)
 go_wp2_with fail;refine(blocks_c _ (HH.out.keep F0.out).ar OK.out).mono ?_;rintro e w' ⟨rfl,rfl⟩;go_wp2_with fail;go_loopw [19] (fun x wr=> ∃(k:Nat) (v:Value) (l:List C2),k≤m∧x=.int .i64 k∧Hid (QAt w wr v l k)∧Hid (Fr [] w wr)) (fun x _=>m-(intOf x).toNat)
 case atStart=>exact⟨0,_,[],by omega,rfl,Q0,F0⟩
 case round=>
  obtain⟨k,v,l,hk,rfl,Q,F⟩:=hrel;clear Q0 F0;by_cases hlt:k<m
  ·have CF:=Lib.hid (free_yes wr (HH.out.keep F.out).ar OK.out k hlt);obtain⟨fr,hfr⟩: ∃fr,fr=freeOf A.lines k:=⟨_,rfl⟩;rw[←hfr]at CF;clear hfr;by_cases h0:0<fr
   ·by_cases h16:fr<16
    ·have hb0:(0:Int)<(fr:Int):=by omega
     have hb1:(fr:Int)<16:=by omega
     have hs:w.heap.size≤wr.heap.size:=F.out.size;go_wp2_with fail;refine CF.out.mono ?_;rintro e w1 ⟨rfl,F1⟩;have Q1:=Lib.hid (Q.out.fr F1 (by simp) (by simp));have F1:=Lib.hid (F.out.trans F1 (by simp));have CP:=Lib.hid (hpush_c w1 Q1.out.p rfl Q1.out.en Q1.out.ne F1.out.size (by have:=Q1.out.len;omega) Q1.out.hp ⟨k,fr⟩);clear CF Q F;go_wp2_with fail;refine CP.out.mono ?_;rintro e w2 hd;have he:=hd.1;obtain⟨v',l',Q2,F2⟩:=Q1.out.pushed k fr (by omega) (by omega) hd;subst he;have Q2:=Lib.hid Q2
     have F2:Hid (Fr [] w w2):=Lib.hid (F1.out.trans F2 (by
      intro x hx;right;rcases List.mem_cons.1 hx with rfl|hx
      ·omega
      ·exact own_ge Q1.out.en x hx))
     clear hd CP Q1 F1;go_wp2;go_roundw
     case rel=>exact⟨k+1,v',l',by omega,by go_num,Q2,F2⟩
     case measure=>simp[intOf];omega
    ·have hb0:(0:Int)<(fr:Int):=by omega
     have hb1: ¬(fr:Int)<16:=by omega
     go_wp2_with fail;refine CF.out.mono ?_;rintro e w1 ⟨rfl,F1⟩;have Q1:=Lib.hid (Q.out.fr F1 (by simp) (by simp)).more;have F1:=Lib.hid (F.out.trans F1 (by simp));clear CF Q F;go_wp2;go_roundw
     case rel=>exact⟨k+1,v,l,by omega,by go_num,Q1,F1⟩
     case measure=>simp[intOf];omega
   ·have hb0: ¬(0:Int)<(fr:Int):=by omega
    go_wp2_with fail;refine CF.out.mono ?_;rintro e w1 ⟨rfl,F1⟩;have Q1:=Lib.hid (Q.out.fr F1 (by simp) (by simp)).more;have F1:=Lib.hid (F.out.trans F1 (by simp));clear CF Q F;go_wp2;go_roundw
    case rel=>exact⟨k+1,v,l,by omega,by go_num,Q1,F1⟩
    case measure=>simp[intOf];omega
  ·have hkm:k=m:=by omega
   subst hkm;clear hlt;obtain⟨D0,hD0,_⟩:=HC.out;have HD0:Hid (wr.ownsMap Tryz.prog 3 (plainElem Tryz.prog 3) mb 0 D0):=Lib.hid (own_map_fr hD0 F.out (by simp));have hC1:Hid (∀w',Fr [mb] w w'→w'.cell? ⟨tb,1,none⟩=some (.map (some mb))):=Lib.hid (fun w' hF=>cell_fr c1 hF (by simpa using map_ne c1 hD0));have hmb:Hid (mb<w.heap.size):=Lib.hid hD0.lt;have F2:Hid (Fr [mb] w wr):=Lib.hid (F.out.mono (by simp));clear CB HC hD0 F c0 c1;go_wp2_with fail
   go_loopg [39] l.length (fun j _ wr=> ∃(v:Value) (l:List C2) (D:DataW Unit) (n:Nat),l.length=j∧n+j≤k∧Hid (QAt w wr v l k)∧Hid (wr.ownsMap Tryz.prog 3 (plainElem Tryz.prog 3) mb n D)∧Hid (Fr [mb] w wr))
   case atStart=>exact⟨v,l,D0,0,rfl,by have:=Q.out.len;omega,Q,HD0,F2⟩
   case round=>
    obtain⟨v,l,D,n,rfl,hn,Q,HD,F⟩:=hrel;clear F2 HD0;have d1:=hC1.out _ F.out;obtain⟨z,hz⟩: ∃z:Int,z=Maps.size D:=⟨_,rfl⟩;have FIN:Hid ((∃cl n,ClAt wr mb n cl)∧Fr [mb] w wr):=Lib.hid ⟨by obtain⟨cl,h⟩:=ClAt.of HD.out;exact⟨cl,n,h⟩,F.out⟩;by_cases hm:z<many
    ·obtain⟨va,vc,rfl⟩: ∃va vc,v=.slice va l.length vc:=by
      rcases Q.out.en.2 with⟨hv,h0⟩|⟨g,cap,cur,hv,_⟩
      ·exact⟨none,0,by rw[hv,h0]⟩
      ·exact⟨_,cap,hv⟩
     have d2:wr.cell? ⟨w.heap.size+1,0,none⟩=some (.slice va l.length vc):=zA Q.out.p rfl;by_cases hl:l.length=0
     ·have hl0: ¬(0:Int)<(l.length:Int):=by omega
      go_wp2_with (first|(at_len;refine wpList_len_own _ rfl _ 131 rfl 3 3 Tryz.underlying131 _ mb n D rfl HD.out ?_;rw[←hz])|(go_at_call 108;refine(len_c _ _ _ _).mono ?_;rintro e w' ⟨rfl,rfl⟩))
      go_end0
      exact⟨rfl,FIN.out⟩
     ·obtain⟨q,hq⟩: ∃q,l.length=q+1:=⟨l.length-1,by omega⟩;obtain⟨g,cap,hv,hg1,hg2⟩:=Q.out.en.form (by omega);simp only[Value.slice.injEq]at hv;obtain⟨rfl,_,rfl⟩:=hv;have hne:g≠w.heap.size+1:=by have:=Q.out.ne;simpa[Value.ownBlock]using this
      have HPA:HpAt wr w.heap.size (w.heap.size+1) #[.slice (some ⟨g,0,none⟩) l.length vc] 155 g vc l:=⟨Q.out.p,rfl,Q.out.en,hne⟩;have CP:=Lib.hid (hpop_c wr q hq HPA (by have:=Q.out.hp;rwa[hq]at this) (by omega));have hM:=Lib.hid (Q.out.mem _ (nth_mem l 0 (by omega)));have hl0:(0:Int)<(l.length:Int):=by omega
      have TA:=fun w1=>assert_entry w1 (nth l 0).b (nth l 0).f
      clear HPA;go_wp2_with (first|(at_len;refine wpList_len_own _ rfl _ 131 rfl 3 3 Tryz.underlying131 _ mb n D rfl HD.out ?_;rw[←hz])|(go_at_call 108;refine(len_c _ _ _ _).mono ?_;rintro e w' ⟨rfl,rfl⟩));refine CP.out.mono ?_;rintro e w3 ⟨rfl,l',hp,hh,hat,hF3⟩;have hl':l'.length=q:=by have:=hp.length_eq;simp at this;omega
      have Q3:Hid (QAt w w3 (.slice (some ⟨g,0,none⟩) q vc) l' k):=Lib.hid ⟨hat.p,by have:=hat.en;rwa[hl']at this,by simpa[Value.ownBlock]using hat.ne,by rw[hl'];exact hh,by have:=Q.out.len;omega,fun y hy=>Q.out.mem y (hp.mem_iff.2 (List.mem_cons_of_mem _ hy))⟩
      have F3:Hid (Fr [mb] w w3):=Lib.hid (F.out.trans hF3 (fun x hx=>by
       right;simp only[List.mem_cons,List.not_mem_nil,or_false]at hx;rcases hx with rfl|rfl
       ·omega
       ·exact hg1))
      have HD3:Hid (w3.ownsMap Tryz.prog 3 (plainElem Tryz.prog 3) mb n D):=Lib.hid (own_map_fr HD.out hF3 (by
       have:=hmb.out;simp only[List.mem_cons,List.not_mem_nil,or_false,not_or];exact⟨by omega,by omega⟩))
      have HL:=Lib.hid hl';have d3:=hC1.out _ F3.out;obtain⟨x,hx⟩: ∃x,x=nth l 0:=⟨_,rfl⟩;rw[←hx]at TA hM⊢;clear hx hp hh hat hF3 CP Q HD F hl' FIN d1 d2 hz
      have WK:(Lit.int .i64 x.b).wf=true:=by
       have:=hM.out;simp[Lit.wf,IntKind.min,IntKind.max,IntKind.bits,IntKind.signed];omega
      have WV:(Lit.int .i64 x.f).wf=true:=by
       have:=hM.out;simp[Lit.wf,IntKind.min,IntKind.max,IntKind.bits,IntKind.signed];omega
      have R:Hid (∀(wx w5:World),Fr [] w3 wx→w5.ownsMap Tryz.prog 3 (plainElem Tryz.prog 3) mb (n+1) (D.put (.int .i64 x.b) (.lit (.int .i64 x.f)))→wx.grownBy w5 (some mb)→
       ∃(v:Value) (l2:List C2) (D:DataW Unit) (n:Nat),l2.length=q∧n+q≤k∧Hid (QAt w w5 v l2 k)∧Hid (w5.ownsMap Tryz.prog 3 (plainElem Tryz.prog 3) mb n D)∧Hid (Fr [mb] w w5)):=Lib.hid (fun wx w5 hx ho hgr=>by
       have hF5:Fr [mb] wx w5:=grown_fr hgr;have hlt:=hmb.out;refine⟨_,l',_,_,HL.out,by omega,Lib.hid ((Q3.out.fr hx (by simp) (by simp)).fr hF5 (by simp;omega) ?_),Lib.hid ho,Lib.hid ((F3.out.trans hx (by simp)).same hF5)⟩;intro y hy;simp only[Value.ownBlock,Option.some.injEq]at hy;subst hy
       simp
       omega)
      go_wp2_with fail;have hcur:Fr [] w3 (w3.alloc (.cells #[.int .i64 x.b,.int .i64 x.f] 159)).drew:=((Fr.refl _ _).alloc _).drew;have d4:=hC1.out _ (F3.out.trans hcur (by simp));have hnew:blk (w3.alloc (.cells #[.int .i64 x.b,.int .i64 x.f] 159)).drew w3.heap.size=some (.cells #[.int .i64 x.b,.int .i64 x.f] 159 (0,0)):=by rw[blk_drew,zB,if_pos rfl]
      have d5:(w3.alloc (.cells #[.int .i64 x.b,.int .i64 x.f] 159)).drew.cell? ⟨w3.heap.size,0,none⟩=some (.int .i64 x.b):=zA hnew rfl;have d6:(w3.alloc (.cells #[.int .i64 x.b,.int .i64 x.f] 159)).drew.cell? ⟨w3.heap.size,1,none⟩=some (.int .i64 x.f):=zA hnew rfl;refine wp_region_still_tail 8 (by kernel_rfl) (by kernel_rfl) ?_;simp only[List.take_succ_cons,List.take_zero,List.drop_succ_cons,List.drop_zero]
      change wpStill _ _ (World.drew _) _ _ _
      repeat still_step
      refine wpStill_nil ?_
      change wpList _ _ _ _ _ (World.drew _)
      go_wp2_with (first|(at_mapUpdate;refine wpList_mapUpdate_own _ rfl _ _ _ 131 rfl 3 3 lawMap Tryz.underlying131 _ mb n D rfl (own_map_fr HD3.out (S:=[]) (by repeat (first|exact Fr.refl _ _|apply Fr.drew|apply Fr.alloc)) (by simp)) (by unfold maxLen;omega) _ _ _ rfl rfl (keyOf_int_mk Tryz.underlying3 WK) _ [] (plainElem_int Tryz.underlying3 WV) ?_;intro w5 hown5 hgrow5))
      go_roundg q
      case rel=>exact R.out _ _ (by repeat (first|exact Fr.refl _ _|apply Fr.drew|apply Fr.alloc)) hown5 hgrow5
      case measure=>omega
    ·go_wp2_with (first|(at_len;refine wpList_len_own _ rfl _ 131 rfl 3 3 Tryz.underlying131 _ mb n D rfl HD.out ?_;rw[←hz]))
     go_end0
     exact⟨rfl,FIN.out⟩
end
section
open Go.ChangeShapes Go.WideShapes Go.RowKit Go.Maps
structure Tr where
 A:Ar
 seen:List Bool
 work:List Int
 least:Int
 left:Int
 live:Int
 moved:Int
structure Tk where
 tb:Nat
 mb:Nat
 sb:Nat
 hb:Nat
 b:Nat
 wb:Nat
 lb:Nat
 B:Nat
def Tk.own(c:Tk):List Nat:=[c.tb,c.sb,c.b,c.wb,c.lb]
structure TrAt(w:World)(c:Tk)(m n:Nat)(cl:Int→Int)(wv:Value)(T:Tr):Prop where
 t:blk w c.tb=some (.cells #[.pointer (some ⟨c.hb,0,none⟩),.map (some c.mb),.int .i64 T.least,.int .i64 T.left,.slice (some ⟨c.sb,0,none⟩) T.seen.length T.seen.length,wv,.int .i64 T.live,.int .i64 T.moved,.int .i64 0] 134 (0,0))
 s:blk w c.sb=some (.cells (T.seen.map Value.bool).toArray 4 (0,0))
 h:HeAt w c.hb c.b c.wb c.lb T.A
 cl:ClAt w c.mb n cl
 wk:w.ownsRow c.B 28 1 wv T.work.length (T.work.map (Value.int .u64))
 ok:T.A.Ok m
 wd:T.A.Wd
 lo:c.b<c.B∧c.wb<c.B∧c.lb<c.B∧c.hb<c.B∧c.tb<c.B∧c.sb<c.B∧c.mb<c.B
 ap:[c.tb,c.sb,c.hb,c.b,c.wb,c.lb,c.mb].Nodup
 sl:T.seen.length=m*256
 w0: ∀x,x∈T.work→0≤x∧x<18446744073709551616
 ls: -1000000≤T.least∧T.least≤1000000
 lf: -1000000≤T.left∧T.left≤1000000
def pinB(A:Ar)(m:Nat)(x:Int):Bool:=((hAt A m x).map fun h=>decide (0<h.pins)).getD false
def mvB(cl:Int→Int)(A:Ar)(m:Nat)(x:Int):Bool:=decide (0<cl (wVal x/256))&& !pinB A m x
variable{w w':World}{c:Tk}{m n:Nat}{cl:Int→Int}{wv:Value}{T:Tr}
theorem TrAt.keep(h:TrAt w c m n cl wv T)(hF:Fr [] w w'):TrAt w' c m n cl wv T:=
 ⟨hF.at h.t (by simp),hF.at h.s (by simp),h.h.keep hF,h.cl.fr hF (by simp),zL h.wk hF (by simp),h.ok,h.wd,h.lo,h.ap,h.sl,h.w0,h.ls,h.lf⟩
theorem TrAt.c0(h:TrAt w c m n cl wv T):w.cell? ⟨c.tb,0,none⟩=some (.pointer (some ⟨c.hb,0,none⟩)):=zA h.t rfl
theorem TrAt.c1(h:TrAt w c m n cl wv T):w.cell? ⟨c.tb,1,none⟩=some (.map (some c.mb)):=zA h.t rfl
set_option maxRecDepth 10000 in
set_option maxHeartbeats 2000000 in
theorem movable_c(h:TrAt w c m n cl wv T)(x:Int)(hx:x%8=1)(x0:0≤x)(x1:x<18446744073709551616):
 Calls Tryz.prog 123 #[.pointer (some ⟨c.tb,0,none⟩),.int .u64 x] w fun e w'=>e=.returned (.bool (mvB cl T.A m x))∧Fr [] w w':=by
 have CP:=Lib.hid (fun wa (hF:Fr [] w wa)=>opinned_c wa (h.h.keep hF) h.ok h.wd x x0 x1);obtain⟨a,ha⟩: ∃a:Nat,wVal x=a:=⟨(x/8).toNat,by rw[val1 x hx];omega⟩;have CV:=Lib.hid (fun wa=>value_c x wa x0 x1);rw[ha]at CV
 have KC:=Lib.hid (fun wa (hF:Fr [] w wa)=>show wa.cell? ⟨c.tb,0,none⟩=some (.pointer (some ⟨c.hb,0,none⟩))∧wa.cell? ⟨c.tb,1,none⟩=some (.map (some c.mb))∧(Instr.lookup 131 (.map (some c.mb)) (.int .i64 ((a:Int)/256)) false).run Tryz.prog wa=.ok (.int .i64 (cl ((a:Int)/256))) wa from⟨(h.keep hF).c0,(h.keep hF).c1,(h.keep hF).cl.look _ (by
  have:a≤2305843009213693952:=by have:=val1 x hx;omega
  simp[Lit.wf,IntKind.min,IntKind.max,IntKind.bits,IntKind.signed];omega)⟩)
 unfold mvB;rw[ha];obtain⟨k0,k1,k2⟩:=KC.out w (Fr.refl _ _);obtain⟨z,hz⟩: ∃z,z=cl ((a:Int)/256):=⟨_,rfl⟩;rw[←hz]at k2⊢;have KC2:Hid (∀wa,Fr [] w wa→wa.cell? ⟨c.tb,0,none⟩=some (.pointer (some ⟨c.hb,0,none⟩))∧wa.cell? ⟨c.tb,1,none⟩=some (.map (some c.mb))∧(Instr.lookup 131 (.map (some c.mb)) (.int .i64 ((a:Int)/256)) false).run Tryz.prog wa=.ok (.int .i64 z) wa):=Lib.hid (fun wa hF=>by rw[hz];exact KC.out wa hF);have hwr:IntKind.i64.wrap ((a:Int)/256)=(a:Int)/256:=wraps_i64 _ (by omega) (by have:=val1 x hx;omega);clear hz KC h;by_cases h0:0<z
 ·have h0b:decide (0<z)=true:=by simpa using h0
  go_enter Tryz.func123,Tryz.ntmps123;go_wp2_with fail;go_region_held3 (fun W=>W.cell? ⟨c.tb,0,none⟩=some (.pointer (some ⟨c.hb,0,none⟩))∧W.cell? ⟨c.tb,1,none⟩=some (.map (some c.mb))∧(Instr.lookup 131 (.map (some c.mb)) (.int .i64 ((a:Int)/256)) false).run Tryz.prog W=.ok (.int .i64 z) W) (first|assumption|exact KC2.out _ ‹_›|exact KC2.out _ (Fr.refl _ _)|exact KC2.out _ (Fr.refl _ _).drew) (first|(go_at_call 93;refine(CV.out _).mono ?_;rintro e w1 ⟨rfl,rfl⟩;have F1:Fr [] w w:=Fr.refl _ _)|(go_at_call 127;refine(CP.out _ (by repeat (first|exact Fr.refl _ _|apply Fr.drew|apply Fr.alloc))).mono ?_;rintro e w2 ⟨rfl,F2⟩;have F3:Fr [] w w2:=Fr.same (by repeat (first|exact Fr.refl _ _|apply Fr.drew|apply Fr.drewN)) F2));go_wp2;go_ret;exact⟨by rw[h0b];rfl,F3⟩
 ·have h0b:decide (0<z)=false:=by simpa using h0
  go_enter Tryz.func123,Tryz.ntmps123;go_wp2_with fail;have kq:=fun q=>(KC2.out _ ((Fr.refl [] w).drewN q)).2.2
  go_quiet (exact Calls.quiet_of_same ((CV.out _).mono fun e w' h=>⟨h.1,h.2.symm⟩))
  go_wp2;go_ret;exact⟨by rw[h0b];rfl,by repeat (first|exact Fr.refl _ _|apply Fr.drew|apply Fr.drewN)⟩
end
section
open Go.ChangeShapes Go.WideShapes Go.RowKit Go.Maps
variable{w w':World}{c:Tk}{m n:Nat}{cl:Int→Int}{wv:Value}{T:Tr}
def szI(A:Ar)(m:Nat)(x:Int):Int:=((hAt A m x).map fun h=>(h.n:Int)).getD (-1)
def Tr.noRoom(T:Tr)(m:Nat)(x:Int):Bool:=decide (T.left<szI T.A m x+1)&&decide ((zW T.A.lines m:Int)≤T.least)
def moveT(cl:Int→Int)(m:Nat)(T:Tr)(x:Int):Tr×Int×Bool:=
 if(!mvB cl T.A m x||T.noRoom m x)=true then(T,x,false)else
 match(moveF T.A m x).2 with
 |none=>({ T with A:=(moveF T.A m x).1 },x,false)
 |some y=>({ T with A:=(moveF T.A m x).1,left:=(if T.left<szI T.A m x+1 then 256 else T.left)-(szI T.A m x+1),moved:=T.moved+1 },y,true)
set_option maxRecDepth 10000 in
set_option maxHeartbeats 1000000 in
theorem move_no(h:TrAt w c m n cl wv T)(x:Int)(hx:x%8=1)(x0:0≤x)(x1:x<18446744073709551616)(hm:mvB cl T.A m x=false):
 Calls Tryz.prog 111 #[.pointer (some ⟨c.tb,0,none⟩),.int .u64 x] w fun e w'=>e=.returned (.tuple #[.int .u64 x,.bool false])∧Fr [] w w':=by
 have k0:=h.c0;have CS:=Lib.hid (osize_c w h.h h.ok h.wd x x0 x1);have CM:=Lib.hid (fun wa (hF:Fr [] w wa)=>movable_c (h.keep hF) x hx x0 x1);rw[hm]at CM;obtain⟨z,hz⟩: ∃z,z=((hAt T.A m x).map fun h=>(h.n:Int)).getD (-1):=⟨_,rfl⟩
 have hzb: -1≤z∧z<9007199254740992:=by
  rw[hz];cases ho:hAt T.A m x with
  |none=>simp
  |some o=>have:=(hAt_bd h.wd x0 ho).2.2.2.1;simp;omega
 rw[←hz]at CS;clear hz hm h;go_enter Tryz.func111,Tryz.ntmps111;go_wp2_with fail;refine CS.out.mono ?_;rintro e w1 ⟨rfl,F1⟩;go_wp2_with fail;refine wp_region_held_drew (S:=(fun _=>True)) (by kernel_rfl) ?_ (fun hHeld=> ?_)
 ·trivial
 refine' wpAnyH_take (i:=0) (v:=_) rfl (by kernel_rfl) (by kernel_rfl) (by kernel_rfl) (fun _ _ _ h=>h) (Or.inl ⟨by rfl, ?hy0⟩) ‹_› ?re0
 case hy0=>intro w hSw;(try dsimp only at hSw);go_simp;try with_reducible rfl
 try simp only[Act.put,List.getElem_toArray,List.getElem_cons_succ,List.getElem_cons_zero,List.setIfInBounds_toArray,List.set_cons_zero,List.set_cons_succ]
 refine' wpAnyH_take (i:=1) (v:=_) rfl (by kernel_rfl) (by kernel_rfl) (by kernel_rfl) (fun _ _ _ h=>h) (Or.inl ⟨by rfl, ?hy1⟩) ‹_› ?re1
 case hy1=>intro w hSw;(try dsimp only at hSw);go_simp;try with_reducible rfl
 try simp only[Act.put,List.getElem_toArray,List.getElem_cons_succ,List.getElem_cons_zero,List.setIfInBounds_toArray,List.set_cons_zero,List.set_cons_succ]
 refine wpAnyH_ready (rs:=[2]) (by kernel_rfl) (by simp) ?_;refine AllReadyH.cons rfl (fun K hK=> ?_) AllReadyH.nil
 go_simp
 (go_at_call 123;refine(CM.out _ (Fr.same F1 (by repeat (first|exact Fr.refl _ _|apply Fr.drew)))).mono ?_;rintro e w2 ⟨rfl,F2⟩)
 refine hK.out _ _ ?_ (fun hHeld2=> ?_)
 ·trivial
 clear hK K hHeld
 try simp only[Act.put,List.getElem_toArray,List.getElem_cons_succ,List.getElem_cons_zero,List.setIfInBounds_toArray,List.set_cons_zero,List.set_cons_succ]
 refine' wpAnyH_take (i:=3) (v:=_) rfl (by kernel_rfl) (by kernel_rfl) (by kernel_rfl) (fun _ _ _ h=>h) (Or.inl ⟨by rfl, ?hy3⟩) ‹_› ?re3
 case hy3=>intro w hSw;(try dsimp only at hSw);go_simp;try with_reducible rfl
 try simp only[Act.put,List.getElem_toArray,List.getElem_cons_succ,List.getElem_cons_zero,List.setIfInBounds_toArray,List.set_cons_zero,List.set_cons_succ]
 refine' wpAnyH_take (i:=4) (v:=_) rfl (by kernel_rfl) (by kernel_rfl) (by kernel_rfl) (fun _ _ _ h=>h) (Or.inl ⟨by rfl, ?hy4⟩) ‹_› ?re4
 case hy4=>intro w hSw;(try dsimp only at hSw);go_simp;try with_reducible rfl
 try simp only[Act.put,List.getElem_toArray,List.getElem_cons_succ,List.getElem_cons_zero,List.setIfInBounds_toArray,List.set_cons_zero,List.set_cons_succ]
 refine wpAnyH_take (i:=5) (v:=undef) rfl (by kernel_rfl) (by kernel_rfl) (by kernel_rfl) (fun _ _ _ h=>h) (Or.inr ⟨by rfl,rfl⟩) ‹_› ?_
 try simp only[Act.put,List.getElem_toArray,List.getElem_cons_succ,List.getElem_cons_zero,List.setIfInBounds_toArray,List.set_cons_zero,List.set_cons_succ]
 refine wpAnyH_take (i:=6) (v:=undef) rfl (by kernel_rfl) (by kernel_rfl) (by kernel_rfl) (fun _ _ _ h=>h) (Or.inr ⟨by rfl,rfl⟩) ‹_› ?_
 try simp only[Act.put,List.getElem_toArray,List.getElem_cons_succ,List.getElem_cons_zero,List.setIfInBounds_toArray,List.set_cons_zero,List.set_cons_succ]
 refine wpAnyH_take (i:=7) (v:=undef) rfl (by kernel_rfl) (by kernel_rfl) (by kernel_rfl) (fun _ _ _ h=>h) (Or.inr ⟨by rfl,rfl⟩) ‹_› ?_
 try simp only[Act.put,List.getElem_toArray,List.getElem_cons_succ,List.getElem_cons_zero,List.setIfInBounds_toArray,List.set_cons_zero,List.set_cons_succ]
 refine wpAnyH_take (i:=8) (v:=undef) rfl (by kernel_rfl) (by kernel_rfl) (by kernel_rfl) (fun _ _ _ h=>h) (Or.inr ⟨by rfl,rfl⟩) ‹_› ?_
 try simp only[Act.put,List.getElem_toArray,List.getElem_cons_succ,List.getElem_cons_zero,List.setIfInBounds_toArray,List.set_cons_zero,List.set_cons_succ]
 refine wpAnyH_take (i:=9) (v:=undef) rfl (by kernel_rfl) (by kernel_rfl) (by kernel_rfl) (fun _ _ _ h=>h) (Or.inr ⟨by rfl,rfl⟩) ‹_› ?_
 try simp only[Act.put,List.getElem_toArray,List.getElem_cons_succ,List.getElem_cons_zero,List.setIfInBounds_toArray,List.set_cons_zero,List.set_cons_succ]
 refine wpAnyH_take (i:=10) (v:=undef) rfl (by kernel_rfl) (by kernel_rfl) (by kernel_rfl) (fun _ _ _ h=>h) (Or.inr ⟨by rfl,rfl⟩) ‹_› ?_
 try simp only[Act.put,List.getElem_toArray,List.getElem_cons_succ,List.getElem_cons_zero,List.setIfInBounds_toArray,List.set_cons_zero,List.set_cons_succ]
 refine wpAnyH_take (i:=11) (v:=undef) rfl (by kernel_rfl) (by kernel_rfl) (by kernel_rfl) (fun _ _ _ h=>h) (Or.inr ⟨by rfl,rfl⟩) ‹_› ?_
 try simp only[Act.put,List.getElem_toArray,List.getElem_cons_succ,List.getElem_cons_zero,List.setIfInBounds_toArray,List.set_cons_zero,List.set_cons_succ]
 refine wpAnyH_take (i:=12) (v:=undef) rfl (by kernel_rfl) (by kernel_rfl) (by kernel_rfl) (fun _ _ _ h=>h) (Or.inr ⟨by rfl,rfl⟩) ‹_› ?_
 try simp only[Act.put,List.getElem_toArray,List.getElem_cons_succ,List.getElem_cons_zero,List.setIfInBounds_toArray,List.set_cons_zero,List.set_cons_succ]
 refine wpAnyH_take (i:=13) (v:=undef) rfl (by kernel_rfl) (by kernel_rfl) (by kernel_rfl) (fun _ _ _ h=>h) (Or.inr ⟨by rfl,rfl⟩) ‹_› ?_
 try simp only[Act.put,List.getElem_toArray,List.getElem_cons_succ,List.getElem_cons_zero,List.setIfInBounds_toArray,List.set_cons_zero,List.set_cons_succ]
 refine wpAnyH_take (i:=14) (v:=undef) rfl (by kernel_rfl) (by kernel_rfl) (by kernel_rfl) (fun _ _ _ h=>h) (Or.inr ⟨by rfl,rfl⟩) ‹_› ?_
 try simp only[Act.put,List.getElem_toArray,List.getElem_cons_succ,List.getElem_cons_zero,List.setIfInBounds_toArray,List.set_cons_zero,List.set_cons_succ]
 refine wpAnyH_take (i:=15) (v:=undef) rfl (by kernel_rfl) (by kernel_rfl) (by kernel_rfl) (fun _ _ _ h=>h) (Or.inr ⟨by rfl,rfl⟩) ‹_› ?_
 try simp only[Act.put,List.getElem_toArray,List.getElem_cons_succ,List.getElem_cons_zero,List.setIfInBounds_toArray,List.set_cons_zero,List.set_cons_succ]
 refine wpAnyH_take (i:=16) (v:=undef) rfl (by kernel_rfl) (by kernel_rfl) (by kernel_rfl) (fun _ _ _ h=>h) (Or.inr ⟨by rfl,rfl⟩) ‹_› ?_
 try simp only[Act.put,List.getElem_toArray,List.getElem_cons_succ,List.getElem_cons_zero,List.setIfInBounds_toArray,List.set_cons_zero,List.set_cons_succ]
 refine wpAnyH_take (i:=17) (v:=undef) rfl (by kernel_rfl) (by kernel_rfl) (by kernel_rfl) (fun _ _ _ h=>h) (Or.inr ⟨by rfl,rfl⟩) ‹_› ?_
 try simp only[Act.put,List.getElem_toArray,List.getElem_cons_succ,List.getElem_cons_zero,List.setIfInBounds_toArray,List.set_cons_zero,List.set_cons_succ]
 refine wpAnyH_take (i:=18) (v:=undef) rfl (by kernel_rfl) (by kernel_rfl) (by kernel_rfl) (fun _ _ _ h=>h) (Or.inr ⟨by rfl,rfl⟩) ‹_› ?_
 try simp only[Act.put,List.getElem_toArray,List.getElem_cons_succ,List.getElem_cons_zero,List.setIfInBounds_toArray,List.set_cons_zero,List.set_cons_succ]
 refine wpAnyH_take (i:=19) (v:=undef) rfl (by kernel_rfl) (by kernel_rfl) (by kernel_rfl) (fun _ _ _ h=>h) (Or.inr ⟨by rfl,rfl⟩) ‹_› ?_
 try simp only[Act.put,List.getElem_toArray,List.getElem_cons_succ,List.getElem_cons_zero,List.setIfInBounds_toArray,List.set_cons_zero,List.set_cons_succ]
 refine wpAnyH_take (i:=20) (v:=undef) rfl (by kernel_rfl) (by kernel_rfl) (by kernel_rfl) (fun _ _ _ h=>h) (Or.inr ⟨by rfl,rfl⟩) ‹_› ?_
 try simp only[Act.put,List.getElem_toArray,List.getElem_cons_succ,List.getElem_cons_zero,List.setIfInBounds_toArray,List.set_cons_zero,List.set_cons_succ]
 refine wpAnyH_take (i:=21) (v:=undef) rfl (by kernel_rfl) (by kernel_rfl) (by kernel_rfl) (fun _ _ _ h=>h) (Or.inr ⟨by rfl,rfl⟩) ‹_› ?_
 try simp only[Act.put,List.getElem_toArray,List.getElem_cons_succ,List.getElem_cons_zero,List.setIfInBounds_toArray,List.set_cons_zero,List.set_cons_succ]
 refine wpAnyH_take (i:=22) (v:=undef) rfl (by kernel_rfl) (by kernel_rfl) (by kernel_rfl) (fun _ _ _ h=>h) (Or.inr ⟨by rfl,rfl⟩) ‹_› ?_
 try simp only[Act.put,List.getElem_toArray,List.getElem_cons_succ,List.getElem_cons_zero,List.setIfInBounds_toArray,List.set_cons_zero,List.set_cons_succ]
 refine wpAnyH_take (i:=23) (v:=undef) rfl (by kernel_rfl) (by kernel_rfl) (by kernel_rfl) (fun _ _ _ h=>h) (Or.inr ⟨by rfl,rfl⟩) ‹_› ?_
 try simp only[Act.put,List.getElem_toArray,List.getElem_cons_succ,List.getElem_cons_zero,List.setIfInBounds_toArray,List.set_cons_zero,List.set_cons_succ]
 refine' wpAnyH_take (i:=24) (v:=_) rfl (by kernel_rfl) (by kernel_rfl) (by kernel_rfl) (fun _ _ _ h=>h) (Or.inl ⟨by rfl, ?hy24⟩) ‹_› ?re24
 case hy24=>intro w hSw;(try dsimp only at hSw);go_simp;try with_reducible rfl
 try simp only[Act.put,List.getElem_toArray,List.getElem_cons_succ,List.getElem_cons_zero,List.setIfInBounds_toArray,List.set_cons_zero,List.set_cons_succ]
 refine wpAnyH_done (by kernel_rfl) ?_ _;go_wp2;go_ret2;exact⟨rfl,F1.same (Fr.same (by repeat (first|exact Fr.refl _ _|apply Fr.drew)) F2)⟩
end
end Go.Proofs.YtghkahcogphomaaGreat
