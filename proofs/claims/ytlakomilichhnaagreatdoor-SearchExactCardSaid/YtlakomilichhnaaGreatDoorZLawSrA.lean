/- Texts of this seat's, what the claim needs of them. -/
import Derived.Test.YtlakomilichhnaaGreatDoorZPf
namespace Go.Proofs.YtlakomilichhnaaGreatDoor
set_option maxHeartbeats 1600000
set_option maxRecDepth 100000
open Go.RowKit
open Ix.IA renaming of_own→BW
open Lib renaming hid→J
open List renaming length_append→Af,length_take→Az,map_append→AS,mem_singleton→Bf
open Tx renaming step→A8
open Value renaming int→B7
theorem ints_same_c (N:List Int) (a b:Option Addr) (c d:Nat) (w:World) (hx:Ix.IA w a c N) (hy:Ix.IA w b d N) :
  Calls Tryz.prog 14 #[.slice a N.length c,.slice b N.length d] w fun e w'=>e=.returned (.bool true)∧Below w.heap.size w w':=by
 have h:=Ints_c N N a b c d w hx hy
 rw[decide_eq_true rfl]at h
 exact h
theorem page_law (ids:List Int) (a:Option Addr) (c:Nat) (fr n:Int) (w:World) (hG:G w) (h:Ix.IA w a c ids) :
  Calls Tryz.prog 5 #[.slice a ids.length c,.int .i64 fr,.int .i64 n] w fun e w'=>e=.returned (.bool true)∧Below w.heap.size w w':=by
 have HA:=J (sr_alive_c w hG)
 have HI:=J h
 by_cases hl:ids.length≤60
 ·have hli:¬ ((ids.length:Int) > 60):=by omega
  have PC:∀ W',Below w.heap.size w W'→_:=fun W' h9=>search_Page_c ids a c fr n W' (h.below h9) (by omega)
  have RC:∀ W',Below w.heap.size w W'→_:=fun W' h9=>r22_Page_c ids a c fr n W' (h.below h9) (by omega)
  obtain⟨N,hN⟩:∃ N,Sr.page ids fr n=N:=⟨_,rfl⟩
  rw[hN]at PC RC
  have HPC:=J PC
  have HRC:=J RC
  clear PC RC hN hl h hG
  go_enter Tryz.func5,Tryz.ntmps5
  go_wp2_with (first
   |(go_at_call 10;((with_reducible refine HA.out.mono ?_);rintro e w1 ⟨rfl,hb1⟩))
   |(go_at_call 19;((with_reducible refine (HPC.out _ hb1).mono ?_);rintro e w2 ⟨v2,rfl,ho,hq⟩;obtain⟨pa,pc,rfl,hia,_⟩:=BW ho rfl;have HP:=J hia;have hb2:=A8 hb1 hq;clear hia ho hq))
   |(go_at_call 20;((with_reducible refine (HRC.out _ hb2).mono ?_);rintro e w3 ⟨v3,rfl,ho,hq⟩;obtain⟨ra,rc,rfl,hia,_⟩:=BW ho rfl;have HR:=J hia;have HP3:=J (HP.out.below hq);have hb3:=A8 hb2 hq;clear hia ho hq))
   |(go_at_call 14;((with_reducible refine (ints_same_c N _ _ _ _ _ HP3.out HR.out).mono ?_);rintro e w4 ⟨rfl,hb4⟩)))
  go_ret
  exact⟨rfl,A8 hb3 hb4⟩
 ·have hli:((ids.length:Int) > 60):=by omega
  clear hl h hG
  go_enter Tryz.func5,Tryz.ntmps5
  go_wp2_with (go_at_call 10;((with_reducible refine HA.out.mono ?_);rintro e w1 ⟨rfl,hb1⟩))
  go_ret
  exact⟨Tx.retb (by simp;try omega),hb1⟩
theorem Sr.page_nat (ids:List Int) (f m:Nat):Sr.page ids (f:Int) (m:Int)=(ids.drop f).take m:=by
 unfold Sr.page
 simp
theorem pages_law (ids:List Int) (a:Option Addr) (c:Nat) (n:Int) (w:World) (hG:G w) (h:Ix.IA w a c ids) :
  Calls Tryz.prog 7 #[.slice a ids.length c,.int .i64 n] w fun e w'=>e=.returned (.bool true)∧Below w.heap.size w w':=by
 have hml:maxLen=9223372036854775807:=rfl
 obtain⟨i0,hi0,hz0,hz1,hz2⟩:=info_parts info_int
 have HI0:=J hi0
 clear hi0
 have HA:=J (sr_alive_c w hG)
 have HI:=J h
 by_cases hl:ids.length≤60
 ·have hli:¬ ((ids.length:Int) > 60):=by omega
  rcases (by omega:n<1∨n > 100∨(1≤n∧n≤100)) with hn | hn | ⟨hn1,hn2⟩
  ·clear hl h hG
   go_enter Tryz.func7,Tryz.ntmps7
   go_wp2_with (go_at_call 10;((with_reducible refine HA.out.mono ?_);rintro e w1 ⟨rfl,hb1⟩))
   go_ret
   exact⟨rfl,hb1⟩
  ·have hn9:¬ n<1:=by omega
   clear hl h hG
   go_enter Tryz.func7,Tryz.ntmps7
   go_wp2_with (go_at_call 10;((with_reducible refine HA.out.mono ?_);rintro e w1 ⟨rfl,hb1⟩))
   go_ret
   exact⟨rfl,hb1⟩
  ·have hn9:¬ n<1:=by omega
   have hn8:¬ n > 100:=by omega
   obtain⟨m,rfl⟩:∃ m:Nat,n=(m:Int):=⟨n.toNat,by omega⟩
   have hm1:1≤m:=by omega
   have hm2:m≤100:=by omega
   clear hG
   go_enter Tryz.func7,Tryz.ntmps7
   go_wp2_with (go_at_call 10;((with_reducible refine HA.out.mono ?_);rintro e w1 ⟨rfl,hb1⟩))
   have hs1:=hb1.size
   clear h
   go_loopw [5,6,7] (fun v i _ wr=>∃ f:Nat,i=.int .i64 f∧f≤ids.length+100∧Hid (Ix.OwnI wr w.heap.size v (ids.take f))∧Below w.heap.size w wr) (fun _ i _ _=>ids.length - (intOf i).toNat)
   case atStart=>exact⟨0,by go_num,Nat.zero_le _,J (by rw[List.take_zero];exact World.ownsRow_lit (base:=w.heap.size) (e:=3) (size:=1) w1 #[] 0 hs1 (by unfold maxLen;omega) rfl),hb1.alloc hs1 _⟩
   case round =>
    obtain⟨f,rfl,hf,hown,hb⟩:=hrel
    have hbs:=hb.size
    by_cases hlt:f<ids.length
    ·have hfi:(f:Int)<(ids.length:Int):=by omega
     have PC:=search_Page_c ids a c (f:Int) (m:Int) wr (HI.out.below hb) (by omega)
     rw[Sr.page_nat]at PC
     obtain⟨p,hp⟩:∃ p,(ids.drop f).take m=p:=⟨_,rfl⟩
     have hpl:p.length=min m (ids.length - f):=by rw[← hp,Az,List.length_drop]
     have hta:ids.take (f+m)=ids.take f++p:=by rw[← hp,List.take_add]
     have htl:(ids.take f).length=f:=by rw[Az];omega
     rw[hp]at PC
     obtain⟨L,hL⟩:∃ L,ids.take f=L:=⟨_,rfl⟩
     rw[hL]at hown hta htl
     have HPC:=J PC
     have HTA:=J hta
     have HO:=J hown.out
     have hpm:p.length≤100:=by omega
     clear PC hta hown hp hL
     rcases (by omega:p.length=m∨(p.length≠m∧f+p.length=ids.length)) with hq | ⟨hq1,hq2⟩
     ·have t1:((p.length:Int) != (m:Int))=false:=by rw[hq];simp
      clear hpl hq
      go_wp2_with (first
       |(go_at_call 19;((with_reducible refine HPC.out.mono ?_);rintro e w2 ⟨v2,rfl,ho,hq'⟩;obtain⟨pa,pc,rfl,hia,_⟩:=BW ho rfl;have HP:=J hia;have HO2:=J (own_below HO.out hq');have hb2:=A8 hb hq';clear hia ho hq'))
       |(at_builtin;go_must ((refine wpList_append_sl rfl _ _ 35 rfl w.heap.size 3 i0 _ 1 8 Tryz.underlying35 HI0.out hz0 hz1 hz2 rfl (by decide) _ L.length _ rfl HO2.out pa p.length pc (p.flatMap fun x:Int=>[B7 .i64 x]) rfl (Br.flat_len (fun x:Int=>[B7 .i64 x]) 1 (fun _=>rfl) p) HP.out.none (Br.FA.cells (enc:=fun x:Int=>[B7 .i64 x]) (size:=1) (fun _=>rfl) (by decide) HP.out) (Br.flat_one (fun _ u hu=>by rw[Bf]at hu;rw[hu];rfl) p) (by unfold maxLen;omega) (by omega) hb2.size ?_);intro v8 w8 hown8 hg8 hnil8)))
      go_roundw
      case rel=>exact⟨f+m,by go_num,by omega,J (by unfold Ix.OwnI;rw[HTA.out,Af,AS,← Ix.flat_int p];exact hown8),hb2.grown hg8 hb2.size (fun i hi=>(HO2.out.lt i hi).1)⟩
      case measure=>simp[intOf];omega
     ·have t1:((p.length:Int) != (m:Int))=true:=by simp;omega
      have t2:(((f:Int)+(p.length:Int)) != (ids.length:Int))=false:=by simp;omega
      clear hpl hq1 hq2
      go_wp2_with (first
       |(go_at_call 19;((with_reducible refine HPC.out.mono ?_);rintro e w2 ⟨v2,rfl,ho,hq'⟩;obtain⟨pa,pc,rfl,hia,_⟩:=BW ho rfl;have HP:=J hia;have HO2:=J (own_below HO.out hq');have hb2:=A8 hb hq';clear hia ho hq'))
       |(at_builtin;go_must ((refine wpList_append_sl rfl _ _ 35 rfl w.heap.size 3 i0 _ 1 8 Tryz.underlying35 HI0.out hz0 hz1 hz2 rfl (by decide) _ L.length _ rfl HO2.out pa p.length pc (p.flatMap fun x:Int=>[B7 .i64 x]) rfl (Br.flat_len (fun x:Int=>[B7 .i64 x]) 1 (fun _=>rfl) p) HP.out.none (Br.FA.cells (enc:=fun x:Int=>[B7 .i64 x]) (size:=1) (fun _=>rfl) (by decide) HP.out) (Br.flat_one (fun _ u hu=>by rw[Bf]at hu;rw[hu];rfl) p) (by unfold maxLen;omega) (by omega) hb2.size ?_);intro v8 w8 hown8 hg8 hnil8)))
      go_roundw
      case rel=>exact⟨f+m,by go_num,by omega,J (by unfold Ix.OwnI;rw[HTA.out,Af,AS,← Ix.flat_int p];exact hown8),hb2.grown hg8 hb2.size (fun i hi=>(HO2.out.lt i hi).1)⟩
      case measure=>simp[intOf];omega
    ·have hfi:¬ (f:Int)<(ids.length:Int):=by omega
     rw[List.take_of_length_le (by omega)]at hown
     obtain⟨va,vc,rfl,hia,_⟩:=BW hown.out rfl
     have HV:=J hia
     have PC:∀ W',Below w.heap.size w W'→_:=fun W' h9=>search_Page_c ids a c (ids.length:Int) (m:Int) W' (HI.out.below h9) (by omega)
     rw[Sr.page_nat,List.drop_eq_nil_of_le (Nat.le_refl _),List.take_nil]at PC
     have HPC:=J PC
     clear PC hia hown
     go_wp2_with (first
      |(go_at_call 14;((with_reducible refine (ints_same_c ids _ _ _ _ _ HV.out (HI.out.below hb)).mono ?_);rintro e w4 ⟨rfl,hb4⟩;have hb5:=A8 hb hb4))
      |(go_at_call 19;((with_reducible refine (HPC.out _ hb5).mono ?_);rintro e w2 ⟨v2,rfl,ho,hq'⟩;obtain⟨pa,pc,rfl,hia,_⟩:=BW ho rfl;clear ho hia)))
     go_ret
     exact⟨rfl,A8 hb5 hq'⟩
 ·have hli:((ids.length:Int) > 60):=by omega
  clear hl h hG
  go_enter Tryz.func7,Tryz.ntmps7
  go_wp2_with (go_at_call 10;((with_reducible refine HA.out.mono ?_);rintro e w1 ⟨rfl,hb1⟩))
  go_ret
  exact⟨rfl,hb1⟩
end Go.Proofs.YtlakomilichhnaaGreatDoor
